/- Laws and walks; conditions stand in each theorem. -/
import Derived.Test.YtdlcglndhhndpaaGreatL34
import Derived.Test.YtdlcglndhhndpaaGreatL29
set_option linter.unusedSimpArgs false
set_option linter.unusedVariables false
set_option maxHeartbeats 8000000
set_option maxRecDepth 100000
namespace Go.Proofs.YtdlcglndhhndpaaGreat
open Go.RowKit
def RowO (w : World) (n : Nat) (ok : Bool) (Z : Nat → Rat) (e : Ending) (w' : World) : Prop :=
 ∃ z : Rr, e = .returned (.tuple #[.agg #[.slice z.A z.n z.c, .int .i64 z.y.s, .slice z.y.A z.y.n z.y.c, .int .i64 z.y.t, .slice z.y.B z.y.m z.y.d], .bool ok]) ∧ (ok = true → z.n = n ∧ z.onK w w' ∧ z.rv = ⟨ofF n fun i => fvQ (Z i), fvQ (Z n)⟩) ∧ Below w.heap.size w w'
def divX (X : Nat → Rat) (n c : Nat) : Bool := (List.range (n + 1)).all fun k => divK (X k) (X c)
def subX (X Y : Nat → Rat) (n c : Nat) : Bool := (List.range (n + 1)).all fun k => stepK (X k) (X c) (Y k)
theorem rng_all {n : Nat} {p : Nat → Bool} (h : ∀ k, k < n → p k = true) (hn : p n = true) : ((List.range (n + 1)).all p) = true := List.all_eq_true.2 fun k hk => by
 have hk : k < n + 1 := List.mem_range.1 hk
 by_cases e : k = n
 · rw [e]; exact hn
 · exact h k (by omega)
theorem rng_no {n k : Nat} {p : Nat → Bool} (hk : k < n + 1) (h : p k = false) : ((List.range (n + 1)).all p) = false := by
 rw [List.all_eq_false]
 exact ⟨k, List.mem_range.2 hk, by rw [h]; decide⟩
def ShJ (n cap : Nat) (J : List Value) : Prop := n ≤ cap ∧ cap ≤ maxLen ∧ n * 4 + J.length = cap * 4
theorem rw_len {n : Nat} {v : Nat → Rw} : ((ofF n v).flatMap Rw.cs).length = n * 4 := recA_len rw_sized
theorem OwL.blkJ {e : TypeId} {val : Value} {n : Nat} {f : Nat → Rw} {X : List Blk} (h : OwL 4 Rw.cs e val (ofF n f) X) (hn : 0 < n) : ∃ g cap J, val = .slice (some ⟨g, 0, none⟩) n cap ∧ X = [(g, rwA n f J, e)] ∧ Hid (ShJ n cap J) := by
 rcases h with ⟨rfl, h0, rfl⟩ | ⟨g, cap, J, rfl, rfl, h1, h2, h3⟩
 · have : n = 0 := by rw [← ofF_len (n := n) (f := f), h0]; rfl
   omega
 · rw [ofF_len] at h1 ⊢
   rw [List.length_append, rw_len] at h3
   exact ⟨g, cap, J, rfl, rfl, Lib.hid ⟨h1, h2, h3⟩⟩
theorem OwL.ofJ {e : TypeId} {g n cap : Nat} {f : Nat → Rw} {J : List Value} (h : ShJ n cap J) : OwL 4 Rw.cs e (.slice (some ⟨g, 0, none⟩) n cap) (ofF n f) [(g, rwA n f J, e)] :=
 Or.inr ⟨g, cap, J, by rw [ofF_len], rfl, by rw [ofF_len]; exact h.1, h.2.1, by rw [List.length_append, rw_len]; exact h.2.2⟩
theorem St.fxW {w0 W : World} {L : List Blk} {D : List Hl} {A : Option Addr} {n cap : Nat} {v : Nat → Rw} (K : St w0 L D W) (hm : (⟨fxP A n cap v, fxS A n v⟩ : Hl) ∈ D) : St w0 L (⟨rwP n v, rwS n v⟩ :: D) W := by
 have h := K.okAt hm
 exact K.add ⟨h.1.2, fun b hS => h.2.1 b (Or.inr hS), fun W' h1 h2 i hi => ⟨rdP_keep (h.1.2 i hi).1 h1 fun b hS => h2 b ⟨i, hi, Or.inl hS⟩, rdP_keep (h.1.2 i hi).2 h1 fun b hS => h2 b ⟨i, hi, Or.inr hS⟩⟩⟩
theorem St.fxRead {w0 W : World} {L : List Blk} {D : List Hl} {A : Option Addr} {n cap : Nat} {v : Nat → Rw} (K : St w0 L D W) (hm : (⟨fxP A n cap v, fxS A n v⟩ : Hl) ∈ D) : Rd 4 (flat Rw.cs) W W.heap.size A n cap (ofF n v) := (K.okAt hm).1.1
theorem divided6_any (A0 : Option Addr) (n c0 c : Nat) (a : List Fv) (yb : Rw) (X : Nat → Rat) (w : World) (r0 : RdF w w.heap.size A0 n c0 a) (r1 : RdI w w.heap.size yb.A yb.n yb.c yb.l) (r2 : RdI w w.heap.size yb.B yb.m yb.d yb.k)
 (hok : a.all Fv.ok = true) (hX : ∀ j, j < n → fvR a j = X j) (hb : isQ yb (X n)) (hc : c < n) (h0 : X c ≠ 0) (hn : n ≤ 1000) :
 Calls Tryz.prog 88 #[.agg #[.slice A0 n c0, .int .i64 yb.s, .slice yb.A yb.n yb.c, .int .i64 yb.t, .slice yb.B yb.m yb.d], .int .i64 (n : Int), .int .i64 (c : Int)] w (RowO w n (divX X n c) fun k => X k / X c) := by
 have hcap := r0.caps
 have K := ((St.start w).rdOld r1).rdOld r2
 obtain ⟨u, hu, K⟩ := K.fxOld r0
 have HQ := Lib.hid (show ∀ j, j < n → isQ (u j) (X j) from fun j hj => by
  have h1 := hu j hj
  have h2 : (u j).fv.ok = true := List.all_eq_true.1 hok _ (List.mem_of_getElem? h1)
  have h3 := hX j hj
  unfold fvR at h3
  rw [h1, Option.map_some, Option.getD_some] at h3
  rw [← h3]
  exact fv_std h2)
 obtain ⟨ab, ao, hA⟩ := K.fxAt (A := A0) (n := n) (cap := c0) (v := u) ZMB (by omega)
 subst hA
 replace K := K.fxRd (A := some ⟨ab, ao, none⟩) (n := n) (cap := c0) (v := u) (i := c) ZMB hc
 have Hb := Lib.hid hb
 have H0 := Lib.hid h0
 have r := K.raw
 have hn0 : 0 < n := by omega
 have hci : (c : Int) < (n : Int) := by omega
 have hc0 : (0 : Int) ≤ (c : Int) := by omega
 clear r0 r1 r2 hok hX hb hu h0
 go_enter Tryz.func88, Tryz.ntmps88
 go_upto_region 1 with (first | ((first | (apply K.alloc; rfl; rfl; (first | with_reducible exact row_zero | with_reducible exact frac_zero)) | (apply K.box; rfl; rfl; rfl)); clear K r; (first | ((fail_if_success revert b0); intro W b0 K) | ((fail_if_success revert b1); intro W b1 K) | ((fail_if_success revert b2); intro W b2 K) | ((fail_if_success revert b3); intro W b3 K) | intro W b K); have r := K.rawS) | (apply K.storeA; rfl; rfl; rfl; rfl; rfl; (exact ZUP); (first | with_reducible exact row_size | with_reducible exact frac_size); rfl; rfl; rfl; clear K r; intro W K; have r := K.rawS))
 have e1 := K.fxCell (b := ab) (off := ao) (n := n) (cap := c0) (v := u) (i := c) ZMB hc
 go_upto_region 2 with (first | ((first | (apply K.alloc; rfl; rfl; (first | with_reducible exact row_zero | with_reducible exact frac_zero)) | (apply K.box; rfl; rfl; rfl)); clear K r; (first | ((fail_if_success revert b0); intro W b0 K) | ((fail_if_success revert b1); intro W b1 K) | ((fail_if_success revert b2); intro W b2 K) | ((fail_if_success revert b3); intro W b3 K) | intro W b K); have r := K.rawS) | (apply K.storeA; rfl; rfl; rfl; rfl; rfl; (exact ZUP); (first | with_reducible exact row_size | with_reducible exact frac_size); rfl; rfl; rfl; clear K r; intro W K; have r := K.rawS))
 clear e1
 have Kd := Lib.hid K
 have rA := ((K.new #[] 50).blk (b := b0) (cs := #[.slice (some ⟨ab, ao, none⟩) n c0, .int .i64 yb.s, .slice yb.A yb.n yb.c, .int .i64 yb.t, .slice yb.B yb.m yb.d]) (t := 56) ZMB).cell (j := 0) rfl
 go_wp2_with (first
  | (at_builtin; refine ((Kd.out.new #[] 50).appW (X := [(_, #[], _)]) (L := (b2, #[.int .i64 (u c).s, .slice (u c).A (u c).n (u c).c, .int .i64 (u c).t, .slice (u c).B (u c).m (u c).d], 50) :: (b1, #[.slice none 0 0, .int .i64 0, .slice none 0 0, .int .i64 0, .slice none 0 0], 56) :: (b0, #[.slice (some ⟨ab, ao, none⟩) n c0, .int .i64 yb.s, .slice yb.A yb.n yb.c, .int .i64 yb.t, .slice yb.B yb.m yb.d], 56) :: []) (OwL.empty 4 Rw.cs 50 _) rw_sized rfl _ _ 23 rfl _ 64 Tryz.underlying23 frac_made rfl rfl _ n c0 (ofF n u) rfl ((Kd.out.new #[] 50).fxRead ZMB) (by simp; omega) (by omega) ?_); intro v1 X1 W1 ho1 K1; rw [List.nil_append] at ho1; obtain ⟨g, gc, J, hv1, hX1, HJ⟩ := ho1.blkJ hn0; subst hv1 hX1; clear ho1 Kd K r rA; have K : St w ((g, rwA n u J, 50) :: (b2, #[.int .i64 (u c).s, .slice (u c).A (u c).n (u c).c, .int .i64 (u c).t, .slice (u c).B (u c).m (u c).d], 50) :: (b1, #[.slice none 0 0, .int .i64 0, .slice none 0 0, .int .i64 0, .slice none 0 0], 56) :: (b0, #[.slice (some ⟨ab, ao, none⟩) n c0, .int .i64 yb.s, .slice yb.A yb.n yb.c, .int .i64 yb.t, .slice yb.B yb.m yb.d], 56) :: []) (⟨rdP (u c).B (u c).m (u c).d (u c).k, rdS (u c).B (u c).m⟩ :: ⟨rdP (u c).A (u c).n (u c).c (u c).l, rdS (u c).A (u c).n⟩ :: (⟨fxP (some ⟨ab, ao, none⟩) n c0 u, fxS (some ⟨ab, ao, none⟩) n u⟩ : Hl) :: ⟨rdP yb.B yb.m yb.d yb.k, rdS yb.B yb.m⟩ :: ⟨rdP yb.A yb.n yb.c yb.l, rdS yb.A yb.n⟩ :: []) W1 := K1; clear K1; have r := K.rawS)
  | (first | ((first | (apply K.alloc; rfl; rfl; (first | with_reducible exact row_zero | with_reducible exact frac_zero)) | (apply K.box; rfl; rfl; rfl)); clear K r; (first | ((fail_if_success revert b0); intro W b0 K) | ((fail_if_success revert b1); intro W b1 K) | ((fail_if_success revert b2); intro W b2 K) | ((fail_if_success revert b3); intro W b3 K) | intro W b K); have r := K.rawS) | (apply K.storeA; rfl; rfl; rfl; rfl; rfl; (exact ZUP); (first | with_reducible exact row_size | with_reducible exact frac_size); rfl; rfl; rfl; clear K r; intro W K; have r := K.rawS)))
 have hgc : n ≤ gc ∧ gc ≤ 9223372036854775807 := ⟨HJ.out.1, by have := HJ.out.2.1; unfold maxLen at this; omega⟩
 go_loopg [10] n (fun gk s10 wr => ∃ (k : Nat) (v : Nat → Rw), k ≤ n ∧ gk = n - k ∧ s10 = .int .i64 k ∧ Hid (∀ j, j < k → divK (X j) (X c) = true) ∧ Hid (∀ j, j < k → (v j).fv = fvQ (X j / X c) ∧ FrA w.heap.size (v j).A ∧ FrA w.heap.size (v j).B) ∧ St w (((b3, #[.slice (some ⟨g, 0, none⟩) n gc, .int .i64 0, .slice none 0 0, .int .i64 0, .slice none 0 0], 56) : Blk) :: (g, rwA n v J, 50) :: (b2, #[.int .i64 (u c).s, .slice (u c).A (u c).n (u c).c, .int .i64 (u c).t, .slice (u c).B (u c).m (u c).d], 50) :: (b1, #[.slice none 0 0, .int .i64 0, .slice none 0 0, .int .i64 0, .slice none 0 0], 56) :: (b0, #[.slice (some ⟨ab, ao, none⟩) n c0, .int .i64 yb.s, .slice yb.A yb.n yb.c, .int .i64 yb.t, .slice yb.B yb.m yb.d], 56) :: []) (⟨rwP n v, rwS n v⟩ :: ⟨rdP (u c).B (u c).m (u c).d (u c).k, rdS (u c).B (u c).m⟩ :: ⟨rdP (u c).A (u c).n (u c).c (u c).l, rdS (u c).A (u c).n⟩ :: (⟨fxP (some ⟨ab, ao, none⟩) n c0 u, fxS (some ⟨ab, ao, none⟩) n u⟩ : Hl) :: ⟨rdP yb.B yb.m yb.d yb.k, rdS yb.B yb.m⟩ :: ⟨rdP yb.A yb.n yb.c yb.l, rdS yb.A yb.n⟩ :: []) wr)
 case atStart => exact ⟨0, u, Nat.zero_le _, rfl, rfl, Lib.hid (fun j h => absurd h (by omega)), Lib.hid (fun j h => absurd h (by omega)), K.fxW ZMB⟩
 case round =>
  clear K r
  obtain ⟨k, v, hk, rfl, rfl, HP, HV, K⟩ := hrel
  by_cases hlt : k < n
  · have hki : (k : Int) < (n : Int) := by omega
    have hk0 : (0 : Int) ≤ (k : Int) := by omega
    have hltd : decide (k < n) = true := decide_eq_true hlt
    have K := K.fxRd (A := some ⟨ab, ao, none⟩) (n := n) (cap := c0) (v := u) (i := k) ZMB hlt
    go_upto_region 6 with fail
    have HS := Lib.hid (fun V L5 D5 (h : St w L5 D5 V) (m5 : (⟨fxP (some ⟨ab, ao, none⟩) n c0 u, fxS (some ⟨ab, ao, none⟩) n u⟩ : Hl) ∈ D5) (mb0 : ((b0, #[.slice (some ⟨ab, ao, none⟩) n c0, .int .i64 yb.s, .slice yb.A yb.n yb.c, .int .i64 yb.t, .slice yb.B yb.m yb.d], 56) : Blk) ∈ L5) (mb2 : ((b2, #[.int .i64 (u c).s, .slice (u c).A (u c).n (u c).c, .int .i64 (u c).t, .slice (u c).B (u c).m (u c).d], 50) : Blk) ∈ L5) => (show (V.cell? ⟨b0, 0, none⟩ = some (.slice (some ⟨ab, ao, none⟩) n c0) ∧ (V.cell? ⟨ab, ao + k * 4, none⟩ = some (.int .i64 (u k).s) ∧ V.cell? ⟨ab, ao + k * 4 + 1, none⟩ = some (.slice (u k).A (u k).n (u k).c) ∧ V.cell? ⟨ab, ao + k * 4 + 2, none⟩ = some (.int .i64 (u k).t) ∧ V.cell? ⟨ab, ao + k * 4 + 3, none⟩ = some (.slice (u k).B (u k).m (u k).d)) ∧ (V.cell? ⟨b2, 0, none⟩ = some (.int .i64 (u c).s) ∧ V.cell? ⟨b2, 0 + 1, none⟩ = some (.slice (u c).A (u c).n (u c).c) ∧ V.cell? ⟨b2, 0 + 2, none⟩ = some (.int .i64 (u c).t) ∧ V.cell? ⟨b2, 0 + 3, none⟩ = some (.slice (u c).B (u c).m (u c).d))) from ⟨(h.blk mb0).cell (j := 0) rfl, h.fxCell m5 hlt, ⟨(h.blk mb2).cell (j := 0) rfl, (h.blk mb2).cell (j := 1) rfl, (h.blk mb2).cell (j := 2) rfl, (h.blk mb2).cell (j := 3) rfl⟩⟩))
    have HCal := Lib.hid (fun V L5 D5 (h : St w L5 D5 V) (m1 : (⟨rdP (u k).A (u k).n (u k).c (u k).l, rdS (u k).A (u k).n⟩ : Hl) ∈ D5) (m2 : (⟨rdP (u k).B (u k).m (u k).d (u k).k, rdS (u k).B (u k).m⟩ : Hl) ∈ D5) (m3 : (⟨rdP (u c).A (u c).n (u c).c (u c).l, rdS (u c).A (u c).n⟩ : Hl) ∈ D5) (m4 : (⟨rdP (u c).B (u c).m (u c).d (u c).k, rdS (u c).B (u c).m⟩ : Hl) ∈ D5) => callDivG h (HQ.out k hlt) (HQ.out c hc) H0.out m1 m2 m3 m4)
    have K0 := K.drew
    have s0 := HS.out _ _ _ K0 ZMB ZMB ZMB
    clear K
    refine wp_region_P 11 (fun V => (V.cell? ⟨b0, 0, none⟩ = some (.slice (some ⟨ab, ao, none⟩) n c0) ∧ (V.cell? ⟨ab, ao + k * 4, none⟩ = some (.int .i64 (u k).s) ∧ V.cell? ⟨ab, ao + k * 4 + 1, none⟩ = some (.slice (u k).A (u k).n (u k).c) ∧ V.cell? ⟨ab, ao + k * 4 + 2, none⟩ = some (.int .i64 (u k).t) ∧ V.cell? ⟨ab, ao + k * 4 + 3, none⟩ = some (.slice (u k).B (u k).m (u k).d)) ∧ (V.cell? ⟨b2, 0, none⟩ = some (.int .i64 (u c).s) ∧ V.cell? ⟨b2, 0 + 1, none⟩ = some (.slice (u c).A (u c).n (u c).c) ∧ V.cell? ⟨b2, 0 + 2, none⟩ = some (.int .i64 (u c).t) ∧ V.cell? ⟨b2, 0 + 3, none⟩ = some (.slice (u c).B (u c).m (u c).d)))) (by kernel_rfl) s0 (fun hSh => ?_)
    clear s0
    generalize World.drew wr = V0 at K0 hSh ⊢
    refine wpAnyP.tkU 0 rfl ?_
    refine wpAnyP.tk 1 rfl ?_
    refine wpAnyP.tkU 2 rfl ?_
    refine wpAnyP.tkU 3 rfl ?_
    refine wpAnyP.tk 4 rfl ?_
    refine wpAnyP.tk 5 rfl ?_
    refine wpAnyP.two (i := 6) (j := 10) rfl rfl rfl rfl (by kernel_rfl) (fun KK hKK => ?_) (fun KK hKK => ?_)
    focus
     go_simp
     go_at_call 129
     refine (HCal.out _ _ _ K0 ZMB ZMB ZMB ZMB).mono ?_
     rintro e V1 ⟨y1, er1, rfl, gy1, k1⟩
     go_wp2_with fail
     refine hKK.out _ _ (fun _ => HS.out _ _ _ k1 ZMB ZMB ZMB) (fun hSq => ?_)
     have hSh := HS.out _ _ _ k1 ZMB ZMB ZMB
     clear hKK KK hSq
     refine ZPT ?_
     refine wpAnyP.tkU 7 rfl ?_
     refine wpAnyP.tkU 8 rfl ?_
     refine wpAnyP.tkU 9 rfl ?_
     refine wpAnyP.on 10 rfl fun KK hKK => ?_
     go_simp
     have k2 := k1.new #[.int .i64 0, .slice none 0 0, .int .i64 0, .slice none 0 0] 50
     generalize V1.alloc (.cells #[.int .i64 0, .slice none 0 0, .int .i64 0, .slice none 0 0] 50) = V2 at k2 ⊢
     generalize V1.heap.size = g9 at k2 ⊢
     refine hKK.out _ _ (fun _ => HS.out _ _ _ k2 ZMB ZMB ZMB) (fun hSq => ?_)
     have hSh := HS.out _ _ _ k2 ZMB ZMB ZMB
     clear hKK KK hSq
     refine ZPT ?_
     have kz := k2
     clear k2 k1
    rotate_right
    focus
     go_simp
     have k1 := K0.new #[.int .i64 0, .slice none 0 0, .int .i64 0, .slice none 0 0] 50
     generalize V0.alloc (.cells #[.int .i64 0, .slice none 0 0, .int .i64 0, .slice none 0 0] 50) = V1 at k1 ⊢
     generalize V0.heap.size = g9 at k1 ⊢
     refine hKK.out _ _ (fun _ => HS.out _ _ _ k1 ZMB ZMB ZMB) (fun hSq => ?_)
     have hSh := HS.out _ _ _ k1 ZMB ZMB ZMB
     clear hKK KK hSq
     refine ZPT ?_
     refine wpAnyP.on 6 rfl fun KK hKK => ?_
     go_simp
     go_at_call 129
     refine (HCal.out _ _ _ k1 ZMB ZMB ZMB ZMB).mono ?_
     rintro e V2 ⟨y1, er1, rfl, gy1, k2⟩
     go_wp2_with fail
     refine hKK.out _ _ (fun _ => HS.out _ _ _ k2 ZMB ZMB ZMB) (fun hSq => ?_)
     have hSh := HS.out _ _ _ k2 ZMB ZMB ZMB
     clear hKK KK hSq
     refine ZPT ?_
     refine wpAnyP.tkU 7 rfl ?_
     refine wpAnyP.tkU 8 rfl ?_
     refine wpAnyP.tkU 9 rfl ?_
     have kz := k2
     clear k2 k1
    all_goals
     refine wpAnyP.onF 11 rfl fun KK hKK => ?_
     have r := kz.rawS
     have zz := kz.thaw (g := g9) (cs := #[.int .i64 0, .slice none 0 0, .int .i64 0, .slice none 0 0]) (t := 50) ZMB
     go_simp
     have K9 := kz.set4Z (b := g9) (t := 50) (x0 := .int .i64 0) (x1 := .slice none 0 0) (x2 := .int .i64 0) (x3 := .slice none 0 0) (u0 := .int .i64 y1.s) (u1 := .slice y1.A y1.n y1.c) (u2 := .int .i64 y1.t) (u3 := .slice y1.B y1.m y1.d) (Upd.head _)
     refine hKK.out _ _ ?_
     clear hKK KK r zz
     refine ZPT ?_
     refine wpAnyP.tkF 12 rfl ?_
     refine ⟨by kernel_rfl, ?_⟩
     generalize ((((V2.setCell ⟨g9, 0, none⟩ (.int .i64 y1.s)).setCell ⟨g9, 1, none⟩ (.slice y1.A y1.n y1.c)).setCell ⟨g9, 2, none⟩ (.int .i64 y1.t)).setCell ⟨g9, 3, none⟩ (.slice y1.B y1.m y1.d)) = W9 at K9 ⊢
     clear kz hSh HS HCal
     have K := K9
     clear K9
     have r := K.rawS
     by_cases he : er1 = 0
     · subst he
       have gz1 := Lib.hid (gy1.out.1.1 rfl)
       have gf1 := Lib.hid gy1.out.2
       have HM := Lib.hid (show divK (X k) (X c) = true from by simpa using gy1.out.1.2)
       clear gy1
       go_wp2_with (refine K.storeR rfl rfl _ _ _ rfl g k n y1 rfl rfl hlt ZUA frac_size ?_; clear K r; intro W K)
       have HK := Lib.hid (((K.rwPut y1 k ZMB ZMB ZMB).lessS (D' := ⟨rwP n (putF v k y1), rwS n (putF v k y1)⟩ :: ⟨rdP (u c).B (u c).m (u c).d (u c).k, rdS (u c).B (u c).m⟩ :: ⟨rdP (u c).A (u c).n (u c).c (u c).l, rdS (u c).A (u c).n⟩ :: (⟨fxP (some ⟨ab, ao, none⟩) n c0 u, fxS (some ⟨ab, ao, none⟩) n u⟩ : Hl) :: ⟨rdP yb.B yb.m yb.d yb.k, rdS yb.B yb.m⟩ :: ⟨rdP yb.A yb.n yb.c yb.l, rdS yb.A yb.n⟩ :: []) (by repeat (first | with_reducible exact List.Sublist.refl _ | with_reducible apply List.Sublist.cons_cons | with_reducible apply List.Sublist.cons))).part (L' := ((b3, #[.slice (some ⟨g, 0, none⟩) n gc, .int .i64 0, .slice none 0 0, .int .i64 0, .slice none 0 0], 56) : Blk) :: (g, rwA n (putF v k y1) J, 50) :: (b2, #[.int .i64 (u c).s, .slice (u c).A (u c).n (u c).c, .int .i64 (u c).t, .slice (u c).B (u c).m (u c).d], 50) :: (b1, #[.slice none 0 0, .int .i64 0, .slice none 0 0, .int .i64 0, .slice none 0 0], 56) :: (b0, #[.slice (some ⟨ab, ao, none⟩) n c0, .int .i64 yb.s, .slice yb.A yb.n yb.c, .int .i64 yb.t, .slice yb.B yb.m yb.d], 56) :: []) (List.sublist_cons_self _ _))
       have HP2 := Lib.hid (show ∀ j, j < k + 1 → divK (X j) (X c) = true from fun j hj => by
        by_cases e : j = k
        · rw [e]; exact HM.out
        · exact HP.out j (by omega))
       have HV2 := Lib.hid (show ∀ j, j < k + 1 → (putF v k y1 j).fv = fvQ (X j / X c) ∧ FrA w.heap.size (putF v k y1 j).A ∧ FrA w.heap.size (putF v k y1 j).B from fun j hj => by
        by_cases e : j = k
        · rw [e, putF_same]; exact ⟨gz1.out.1.fv, gf1.out⟩
        · rw [putF_other e]; exact HV.out j (by omega))
       clear K HP HV HM gz1 gf1
       go_wp2_with fail
       go_roundg (n - (k + 1))
       case rel => exact ⟨k + 1, putF v k y1, hlt, rfl, by go_num, HP2, HV2, HK.out⟩
       case measure => omega
     · have hx : (er1 != 0) = true := by simpa using he
       have HNo := Lib.hid (show divX X n c = false from rng_no (k := k) (by omega) (by have := gy1.out.1.2; rw [hx] at this; simpa using this))
       clear gy1 HP HV
       go_wp2_with (first | ((first | (apply K.alloc; rfl; rfl; (first | with_reducible exact row_zero | with_reducible exact frac_zero)) | (apply K.box; rfl; rfl; rfl)); clear K r; (first | ((fail_if_success revert b0); intro W b0 K) | ((fail_if_success revert b1); intro W b1 K) | ((fail_if_success revert b2); intro W b2 K) | ((fail_if_success revert b3); intro W b3 K) | intro W b K); have r := K.rawS) | (apply K.storeA; rfl; rfl; rfl; rfl; rfl; (exact ZUP); (first | with_reducible exact row_size | with_reducible exact frac_size); rfl; rfl; rfl; clear K r; intro W K; have r := K.rawS))
       have HX := Lib.hid (show RowO w n (divX X n c) (fun k => X k / X c) (.returned (.tuple #[.agg #[.slice (some ⟨g, 0, none⟩) n gc, .int .i64 0, .slice none 0 0, .int .i64 0, .slice none 0 0], .bool false])) _ from ⟨⟨some ⟨g, 0, none⟩, n, gc, [], Rw.zero⟩, by rw [HNo.out]; rfl, fun h => (by rw [HNo.out] at h; cases h), K.1⟩)
       exact bodyPost_ret (v := .tuple #[.agg #[.slice (some ⟨g, 0, none⟩) n gc, .int .i64 0, .slice none 0 0, .int .i64 0, .slice none 0 0], .bool false]) (by simp [results, Tryz.results88, go_sem, r]) rfl HX.out
  · have e : n = k := by omega
    subst e
    have hltd : decide (n < n) = false := decide_eq_false hlt
    have r := K.rawS
    go_wp2_with (first | ((first | (apply K.alloc; rfl; rfl; (first | with_reducible exact row_zero | with_reducible exact frac_zero)) | (apply K.box; rfl; rfl; rfl)); clear K r; (first | ((fail_if_success revert b0); intro W b0 K) | ((fail_if_success revert b1); intro W b1 K) | ((fail_if_success revert b2); intro W b2 K) | ((fail_if_success revert b3); intro W b3 K) | intro W b K); have r := K.rawS) | (apply K.storeA; rfl; rfl; rfl; rfl; rfl; (exact ZUP); (first | with_reducible exact row_size | with_reducible exact frac_size); rfl; rfl; rfl; clear K r; intro W K; have r := K.rawS))
    refine (callDivG K Hb.out (HQ.out c hc) H0.out ZMB ZMB ZMB ZMB).mono ?_
    rintro e V1 ⟨y1, er1, rfl, gy1, k1⟩
    replace K := k1
    clear k1 r
    have r := K.rawS
    by_cases he : er1 = 0
    · subst he
      have gz1 := Lib.hid (gy1.out.1.1 rfl)
      have gf1 := Lib.hid gy1.out.2
      have HM := Lib.hid (show divK (X n) (X c) = true from by simpa using gy1.out.1.2)
      have HYes := Lib.hid (show divX X n c = true from rng_all HP.out HM.out)
      clear gy1 HP
      go_wp2_with (first
       | (first | ((first | (apply K.alloc; rfl; rfl; (first | with_reducible exact row_zero | with_reducible exact frac_zero)) | (apply K.box; rfl; rfl; rfl)); clear K r; (first | ((fail_if_success revert b0); intro W b0 K) | ((fail_if_success revert b1); intro W b1 K) | ((fail_if_success revert b2); intro W b2 K) | ((fail_if_success revert b3); intro W b3 K) | intro W b K); have r := K.rawS) | (apply K.storeA; rfl; rfl; rfl; rfl; rfl; (exact ZUP); (first | with_reducible exact row_size | with_reducible exact frac_size); rfl; rfl; rfl; clear K r; intro W K; have r := K.rawS))
       | (refine K.storeP (b := b3) (off := 1) (cs := #[.slice (some ⟨g, 0, none⟩) n gc, .int .i64 0, .slice none 0 0, .int .i64 0, .slice none 0 0]) (cs' := #[.slice (some ⟨g, 0, none⟩) n gc, .int .i64 y1.s, .slice y1.A y1.n y1.c, .int .i64 y1.t, .slice y1.B y1.m y1.d]) (t := 56) rfl rfl _ _ _ rfl #[.int .i64 y1.s, .slice y1.A y1.n y1.c, .int .i64 y1.t, .slice y1.B y1.m y1.d] rfl rfl ZUA rfl frac_size rfl (by simp) rfl ?_; clear K r; intro W K; have r := K.rawS))
      have HX := Lib.hid (show RowO w n (divX X n c) (fun k => X k / X c) (.returned (.tuple #[.agg #[.slice (some ⟨g, 0, none⟩) n gc, .int .i64 y1.s, .slice y1.A y1.n y1.c, .int .i64 y1.t, .slice y1.B y1.m y1.d], .bool true])) _ from by
       refine ⟨⟨some ⟨g, 0, none⟩, n, gc, ofF n fun i => fvQ (X i / X c), y1⟩, by rw [HYes.out], fun _ => ⟨rfl, ?_, by have e9 := isQ.fv gz1.out; show (⟨_, y1.fv⟩ : Rv) = _; rw [e9]⟩, K.1⟩
       have hK : St w ([((g, rwA n v J, 50) : Blk)] ++ []) _ _ := K.part (L' := [((g, rwA n v J, 50) : Blk)]) (List.Sublist.cons _ (List.Sublist.cons _ (List.Sublist.cons_cons _ (List.nil_sublist _))))
       obtain ⟨Ap, cp, hv, hro⟩ := (OwL.ofJ HJ.out).frK hK ZMB (by omega) (rwS_fr fun j hj => (HV.out j hj).2)
       injection hv with q1 q2 q3
       subst q1 q3
       rw [ofF_congr (fun i hi => (HV.out i hi).1)] at hro
       exact hro.row K ZMB ZMB gf1.out.1 gf1.out.2)
      exact bodyPost_ret (v := .tuple #[.agg #[.slice (some ⟨g, 0, none⟩) n gc, .int .i64 y1.s, .slice y1.A y1.n y1.c, .int .i64 y1.t, .slice y1.B y1.m y1.d], .bool true]) (by simp [results, Tryz.results88, go_sem, r]) rfl HX.out
    · have hx : (er1 != 0) = true := by simpa using he
      have HNo := Lib.hid (show divX X n c = false from rng_no (k := n) (by omega) (by have := gy1.out.1.2; rw [hx] at this; simpa using this))
      clear gy1 HP HV
      go_wp2_with (first
       | (first | ((first | (apply K.alloc; rfl; rfl; (first | with_reducible exact row_zero | with_reducible exact frac_zero)) | (apply K.box; rfl; rfl; rfl)); clear K r; (first | ((fail_if_success revert b0); intro W b0 K) | ((fail_if_success revert b1); intro W b1 K) | ((fail_if_success revert b2); intro W b2 K) | ((fail_if_success revert b3); intro W b3 K) | intro W b K); have r := K.rawS) | (apply K.storeA; rfl; rfl; rfl; rfl; rfl; (exact ZUP); (first | with_reducible exact row_size | with_reducible exact frac_size); rfl; rfl; rfl; clear K r; intro W K; have r := K.rawS))
       | (refine K.storeP (b := b3) (off := 1) (cs := #[.slice (some ⟨g, 0, none⟩) n gc, .int .i64 0, .slice none 0 0, .int .i64 0, .slice none 0 0]) (cs' := #[.slice (some ⟨g, 0, none⟩) n gc, .int .i64 y1.s, .slice y1.A y1.n y1.c, .int .i64 y1.t, .slice y1.B y1.m y1.d]) (t := 56) rfl rfl _ _ _ rfl #[.int .i64 y1.s, .slice y1.A y1.n y1.c, .int .i64 y1.t, .slice y1.B y1.m y1.d] rfl rfl ZUA rfl frac_size rfl (by simp) rfl ?_; clear K r; intro W K; have r := K.rawS))
      have HX := Lib.hid (show RowO w n (divX X n c) (fun k => X k / X c) (.returned (.tuple #[.agg #[.slice (some ⟨g, 0, none⟩) n gc, .int .i64 y1.s, .slice y1.A y1.n y1.c, .int .i64 y1.t, .slice y1.B y1.m y1.d], .bool false])) _ from ⟨⟨some ⟨g, 0, none⟩, n, gc, [], y1⟩, by rw [HNo.out]; first | done | rfl, fun h => (by rw [HNo.out] at h; cases h), K.1⟩)
      exact bodyPost_ret (v := .tuple #[.agg #[.slice (some ⟨g, 0, none⟩) n gc, .int .i64 y1.s, .slice y1.A y1.n y1.c, .int .i64 y1.t, .slice y1.B y1.m y1.d], .bool false]) (by simp [results, Tryz.results88, go_sem, r, he]) rfl HX.out
end Go.Proofs.YtdlcglndhhndpaaGreat
