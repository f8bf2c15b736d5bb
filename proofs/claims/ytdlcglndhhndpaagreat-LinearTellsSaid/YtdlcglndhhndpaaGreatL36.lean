/- Laws and walks; conditions stand in each theorem. -/
import Derived.Test.YtdlcglndhhndpaaGreatL35
set_option linter.unusedSimpArgs false
set_option linter.unusedVariables false
set_option maxHeartbeats 8000000
set_option maxRecDepth 100000
namespace Go.Proofs.YtdlcglndhhndpaaGreat
open Go.RowKit
theorem callLess {w0 : World} {L : List Blk} {D : List Hl} {W : World} {Y F Z : Rw} {a f b : Rat} (K : St w0 L D W) (hY : isQ Y a) (hF : isQ F f) (hZ : isQ Z b) (m1 : (⟨rdP Y.A Y.n Y.c Y.l, rdS Y.A Y.n⟩ : Hl) ∈ D) (m2 : (⟨rdP Y.B Y.m Y.d Y.k, rdS Y.B Y.m⟩ : Hl) ∈ D) (m3 : (⟨rdP F.A F.n F.c F.l, rdS F.A F.n⟩ : Hl) ∈ D) (m4 : (⟨rdP F.B F.m F.d F.k, rdS F.B F.m⟩ : Hl) ∈ D) (m5 : (⟨rdP Z.A Z.n Z.c Z.l, rdS Z.A Z.n⟩ : Hl) ∈ D) (m6 : (⟨rdP Z.B Z.m Z.d Z.k, rdS Z.B Z.m⟩ : Hl) ∈ D) :
 Calls Tryz.prog 130 #[.agg #[.int .i64 Y.s, .slice Y.A Y.n Y.c, .int .i64 Y.t, .slice Y.B Y.m Y.d], .agg #[.int .i64 F.s, .slice F.A F.n F.c, .int .i64 F.t, .slice F.B F.m F.d], .agg #[.int .i64 Z.s, .slice Z.A Z.n Z.c, .int .i64 Z.t, .slice Z.B Z.m Z.d]] W (FrGE w0 L D (LesS a f b)) :=
 (less6_any Y F Z a f b W (K.rd m1) (K.rd m2) (K.rd m3) (K.rd m4) (K.rd m5) (K.rd m6) hY hF hZ).mono fun e W' ⟨y, er, he, hs, ⟨ra, rb⟩, ⟨fa, fb⟩, hb⟩ => ⟨y, er, he, Lib.hid ⟨hs, fun a ha => Nat.le_trans K.1.size (fa a ha), fun a ha => Nat.le_trans K.1.size (fb a ha)⟩, K.retF hb ra rb fa fb⟩
theorem reduced6_any (A0 A3 : Option Addr) (n c0 c3 c : Nat) (a a3 : List Fv) (yb y3 : Rw) (X Y : Nat → Rat) (w : World) (r0 : RdF w w.heap.size A0 n c0 a) (r1 : RdI w w.heap.size yb.A yb.n yb.c yb.l) (r2 : RdI w w.heap.size yb.B yb.m yb.d yb.k)
 (r3 : RdF w w.heap.size A3 n c3 a3) (r4 : RdI w w.heap.size y3.A y3.n y3.c y3.l) (r5 : RdI w w.heap.size y3.B y3.m y3.d y3.k) (hok : a.all Fv.ok = true) (hX : ∀ j, j < n → fvR a j = X j) (hb : isQ yb (X n)) (hok3 : a3.all Fv.ok = true) (hY : ∀ j, j < n → fvR a3 j = Y j) (h3 : isQ y3 (Y n)) (hc : c < n) (hn : n ≤ 1000) :
 Calls Tryz.prog 89 #[.agg #[.slice A0 n c0, .int .i64 yb.s, .slice yb.A yb.n yb.c, .int .i64 yb.t, .slice yb.B yb.m yb.d], .agg #[.slice A3 n c3, .int .i64 y3.s, .slice y3.A y3.n y3.c, .int .i64 y3.t, .slice y3.B y3.m y3.d], .int .i64 (n : Int), .int .i64 (c : Int)] w (RowO w n (subX X Y n c) fun k => X k - X c * Y k) := by
 have hcap := r0.caps
 have K := ((St.start w).rdOld r1).rdOld r2
 have hcap3 := r3.caps
 replace K := (K.rdOld r4).rdOld r5
 obtain ⟨u, hu, K⟩ := K.fxOld r0
 have HQ := Lib.hid (show ∀ j, j < n → isQ (u j) (X j) from fun j hj => by
  have h1 := hu j hj
  have h2 : (u j).fv.ok = true := List.all_eq_true.1 hok _ (List.mem_of_getElem? h1)
  have h3 := hX j hj
  unfold fvR at h3
  rw [h1, Option.map_some, Option.getD_some] at h3
  rw [← h3]
  exact fv_std h2)
 obtain ⟨u3, hu3, K⟩ := K.fxOld r3
 have HQ3 := Lib.hid (show ∀ j, j < n → isQ (u3 j) (Y j) from fun j hj => by
  have h1 := hu3 j hj
  have h2 : (u3 j).fv.ok = true := List.all_eq_true.1 hok3 _ (List.mem_of_getElem? h1)
  have h3 := hY j hj
  unfold fvR at h3
  rw [h1, Option.map_some, Option.getD_some] at h3
  rw [← h3]
  exact fv_std h2)
 obtain ⟨ab, ao, hA⟩ := K.fxAt (A := A0) (n := n) (cap := c0) (v := u) ZMB (by omega)
 subst hA
 obtain ⟨bb, bo, hB⟩ := K.fxAt (A := A3) (n := n) (cap := c3) (v := u3) ZMB (by omega)
 subst hB
 replace K := K.fxRd (A := some ⟨ab, ao, none⟩) (n := n) (cap := c0) (v := u) (i := c) ZMB hc
 have Hb := Lib.hid hb
 have H3 := Lib.hid h3
 have r := K.raw
 have hn0 : 0 < n := by omega
 have hci : (c : Int) < (n : Int) := by omega
 have hc0 : (0 : Int) ≤ (c : Int) := by omega
 clear r0 r1 r2 hok hX hb hu r3 r4 r5 hok3 hY h3 hu3
 go_enter Tryz.func89, Tryz.ntmps89
 go_upto_region 1 with (first | ((first | (apply K.alloc; rfl; rfl; (first | with_reducible exact row_zero | with_reducible exact frac_zero)) | (apply K.box; rfl; rfl; rfl)); clear K r; (first | ((fail_if_success revert b0); intro W b0 K) | ((fail_if_success revert b1); intro W b1 K) | ((fail_if_success revert b2); intro W b2 K) | ((fail_if_success revert b3); intro W b3 K) | ((fail_if_success revert b4); intro W b4 K) | intro W b K); have r := K.rawS) | (apply K.storeA; rfl; rfl; rfl; rfl; rfl; (exact ZUP); (first | with_reducible exact row_size | with_reducible exact frac_size); rfl; rfl; rfl; clear K r; intro W K; have r := K.rawS))
 have e1 := K.fxCell (b := ab) (off := ao) (n := n) (cap := c0) (v := u) (i := c) ZMB hc
 go_upto_region 2 with (first | ((first | (apply K.alloc; rfl; rfl; (first | with_reducible exact row_zero | with_reducible exact frac_zero)) | (apply K.box; rfl; rfl; rfl)); clear K r; (first | ((fail_if_success revert b0); intro W b0 K) | ((fail_if_success revert b1); intro W b1 K) | ((fail_if_success revert b2); intro W b2 K) | ((fail_if_success revert b3); intro W b3 K) | ((fail_if_success revert b4); intro W b4 K) | intro W b K); have r := K.rawS) | (apply K.storeA; rfl; rfl; rfl; rfl; rfl; (exact ZUP); (first | with_reducible exact row_size | with_reducible exact frac_size); rfl; rfl; rfl; clear K r; intro W K; have r := K.rawS))
 clear e1
 have Kd := Lib.hid K
 have rA := ((K.new #[] 50).blk (b := b0) (cs := #[.slice (some ⟨ab, ao, none⟩) n c0, .int .i64 yb.s, .slice yb.A yb.n yb.c, .int .i64 yb.t, .slice yb.B yb.m yb.d]) (t := 56) ZMB).cell (j := 0) rfl
 go_wp2_with (first
  | (at_builtin; refine ((Kd.out.new #[] 50).appW (X := [(_, #[], _)]) (L := (b3, #[.int .i64 (u c).s, .slice (u c).A (u c).n (u c).c, .int .i64 (u c).t, .slice (u c).B (u c).m (u c).d], 50) :: (b2, #[.slice none 0 0, .int .i64 0, .slice none 0 0, .int .i64 0, .slice none 0 0], 56) :: (b1, #[.slice (some ⟨bb, bo, none⟩) n c3, .int .i64 y3.s, .slice y3.A y3.n y3.c, .int .i64 y3.t, .slice y3.B y3.m y3.d], 56) :: (b0, #[.slice (some ⟨ab, ao, none⟩) n c0, .int .i64 yb.s, .slice yb.A yb.n yb.c, .int .i64 yb.t, .slice yb.B yb.m yb.d], 56) :: []) (OwL.empty 4 Rw.cs 50 _) rw_sized rfl _ _ 23 rfl _ 64 Tryz.underlying23 frac_made rfl rfl _ n c0 (ofF n u) rfl ((Kd.out.new #[] 50).fxRead ZMB) (by simp; omega) (by omega) ?_); intro v1 X1 W1 ho1 K1; rw [List.nil_append] at ho1; obtain ⟨g, gc, J, hv1, hX1, HJ⟩ := ho1.blkJ hn0; subst hv1 hX1; clear ho1 Kd K r rA; have K : St w ((g, rwA n u J, 50) :: (b3, #[.int .i64 (u c).s, .slice (u c).A (u c).n (u c).c, .int .i64 (u c).t, .slice (u c).B (u c).m (u c).d], 50) :: (b2, #[.slice none 0 0, .int .i64 0, .slice none 0 0, .int .i64 0, .slice none 0 0], 56) :: (b1, #[.slice (some ⟨bb, bo, none⟩) n c3, .int .i64 y3.s, .slice y3.A y3.n y3.c, .int .i64 y3.t, .slice y3.B y3.m y3.d], 56) :: (b0, #[.slice (some ⟨ab, ao, none⟩) n c0, .int .i64 yb.s, .slice yb.A yb.n yb.c, .int .i64 yb.t, .slice yb.B yb.m yb.d], 56) :: []) (⟨rdP (u c).B (u c).m (u c).d (u c).k, rdS (u c).B (u c).m⟩ :: ⟨rdP (u c).A (u c).n (u c).c (u c).l, rdS (u c).A (u c).n⟩ :: (⟨fxP (some ⟨bb, bo, none⟩) n c3 u3, fxS (some ⟨bb, bo, none⟩) n u3⟩ : Hl) :: (⟨fxP (some ⟨ab, ao, none⟩) n c0 u, fxS (some ⟨ab, ao, none⟩) n u⟩ : Hl) :: ⟨rdP y3.B y3.m y3.d y3.k, rdS y3.B y3.m⟩ :: ⟨rdP y3.A y3.n y3.c y3.l, rdS y3.A y3.n⟩ :: ⟨rdP yb.B yb.m yb.d yb.k, rdS yb.B yb.m⟩ :: ⟨rdP yb.A yb.n yb.c yb.l, rdS yb.A yb.n⟩ :: []) W1 := K1; clear K1; have r := K.rawS)
  | (first | ((first | (apply K.alloc; rfl; rfl; (first | with_reducible exact row_zero | with_reducible exact frac_zero)) | (apply K.box; rfl; rfl; rfl)); clear K r; (first | ((fail_if_success revert b0); intro W b0 K) | ((fail_if_success revert b1); intro W b1 K) | ((fail_if_success revert b2); intro W b2 K) | ((fail_if_success revert b3); intro W b3 K) | ((fail_if_success revert b4); intro W b4 K) | intro W b K); have r := K.rawS) | (apply K.storeA; rfl; rfl; rfl; rfl; rfl; (exact ZUP); (first | with_reducible exact row_size | with_reducible exact frac_size); rfl; rfl; rfl; clear K r; intro W K; have r := K.rawS)))
 have hgc : n ≤ gc ∧ gc ≤ 9223372036854775807 := ⟨HJ.out.1, by have := HJ.out.2.1; unfold maxLen at this; omega⟩
 go_loopg [12] n (fun gk s10 wr => ∃ (k : Nat) (v : Nat → Rw), k ≤ n ∧ gk = n - k ∧ s10 = .int .i64 k ∧ Hid (∀ j, j < k → stepK (X j) (X c) (Y j) = true) ∧ Hid (∀ j, j < k → (v j).fv = fvQ (X j - X c * Y j) ∧ FrA w.heap.size (v j).A ∧ FrA w.heap.size (v j).B) ∧ St w (((b4, #[.slice (some ⟨g, 0, none⟩) n gc, .int .i64 0, .slice none 0 0, .int .i64 0, .slice none 0 0], 56) : Blk) :: (g, rwA n v J, 50) :: (b3, #[.int .i64 (u c).s, .slice (u c).A (u c).n (u c).c, .int .i64 (u c).t, .slice (u c).B (u c).m (u c).d], 50) :: (b2, #[.slice none 0 0, .int .i64 0, .slice none 0 0, .int .i64 0, .slice none 0 0], 56) :: (b1, #[.slice (some ⟨bb, bo, none⟩) n c3, .int .i64 y3.s, .slice y3.A y3.n y3.c, .int .i64 y3.t, .slice y3.B y3.m y3.d], 56) :: (b0, #[.slice (some ⟨ab, ao, none⟩) n c0, .int .i64 yb.s, .slice yb.A yb.n yb.c, .int .i64 yb.t, .slice yb.B yb.m yb.d], 56) :: []) (⟨rwP n v, rwS n v⟩ :: ⟨rdP (u c).B (u c).m (u c).d (u c).k, rdS (u c).B (u c).m⟩ :: ⟨rdP (u c).A (u c).n (u c).c (u c).l, rdS (u c).A (u c).n⟩ :: (⟨fxP (some ⟨bb, bo, none⟩) n c3 u3, fxS (some ⟨bb, bo, none⟩) n u3⟩ : Hl) :: (⟨fxP (some ⟨ab, ao, none⟩) n c0 u, fxS (some ⟨ab, ao, none⟩) n u⟩ : Hl) :: ⟨rdP y3.B y3.m y3.d y3.k, rdS y3.B y3.m⟩ :: ⟨rdP y3.A y3.n y3.c y3.l, rdS y3.A y3.n⟩ :: ⟨rdP yb.B yb.m yb.d yb.k, rdS yb.B yb.m⟩ :: ⟨rdP yb.A yb.n yb.c yb.l, rdS yb.A yb.n⟩ :: []) wr)
 case atStart => exact ⟨0, u, Nat.zero_le _, rfl, rfl, Lib.hid (fun j h => absurd h (by omega)), Lib.hid (fun j h => absurd h (by omega)), K.fxW ZMB⟩
 case round =>
  clear K r
  obtain ⟨k, v, hk, rfl, rfl, HP, HV, K⟩ := hrel
  by_cases hlt : k < n
  · have hki : (k : Int) < (n : Int) := by omega
    have hk0 : (0 : Int) ≤ (k : Int) := by omega
    have hltd : decide (k < n) = true := decide_eq_true hlt
    have K := K.fxRd (A := some ⟨ab, ao, none⟩) (n := n) (cap := c0) (v := u) (i := k) ZMB hlt
    have K := K.fxRd (A := some ⟨bb, bo, none⟩) (n := n) (cap := c3) (v := u3) (i := k) ZMB hlt
    go_upto_region 6 with fail
    have HS := Lib.hid (fun V L5 D5 (h : St w L5 D5 V) (m5 : (⟨fxP (some ⟨ab, ao, none⟩) n c0 u, fxS (some ⟨ab, ao, none⟩) n u⟩ : Hl) ∈ D5) (m6 : (⟨fxP (some ⟨bb, bo, none⟩) n c3 u3, fxS (some ⟨bb, bo, none⟩) n u3⟩ : Hl) ∈ D5) (mb0 : ((b0, #[.slice (some ⟨ab, ao, none⟩) n c0, .int .i64 yb.s, .slice yb.A yb.n yb.c, .int .i64 yb.t, .slice yb.B yb.m yb.d], 56) : Blk) ∈ L5) (mb2 : ((b3, #[.int .i64 (u c).s, .slice (u c).A (u c).n (u c).c, .int .i64 (u c).t, .slice (u c).B (u c).m (u c).d], 50) : Blk) ∈ L5) (mb1 : ((b1, #[.slice (some ⟨bb, bo, none⟩) n c3, .int .i64 y3.s, .slice y3.A y3.n y3.c, .int .i64 y3.t, .slice y3.B y3.m y3.d], 56) : Blk) ∈ L5) => (show (V.cell? ⟨b0, 0, none⟩ = some (.slice (some ⟨ab, ao, none⟩) n c0) ∧ (V.cell? ⟨ab, ao + k * 4, none⟩ = some (.int .i64 (u k).s) ∧ V.cell? ⟨ab, ao + k * 4 + 1, none⟩ = some (.slice (u k).A (u k).n (u k).c) ∧ V.cell? ⟨ab, ao + k * 4 + 2, none⟩ = some (.int .i64 (u k).t) ∧ V.cell? ⟨ab, ao + k * 4 + 3, none⟩ = some (.slice (u k).B (u k).m (u k).d)) ∧ (V.cell? ⟨b3, 0, none⟩ = some (.int .i64 (u c).s) ∧ V.cell? ⟨b3, 0 + 1, none⟩ = some (.slice (u c).A (u c).n (u c).c) ∧ V.cell? ⟨b3, 0 + 2, none⟩ = some (.int .i64 (u c).t) ∧ V.cell? ⟨b3, 0 + 3, none⟩ = some (.slice (u c).B (u c).m (u c).d)) ∧ V.cell? ⟨b1, 0, none⟩ = some (.slice (some ⟨bb, bo, none⟩) n c3) ∧ (V.cell? ⟨bb, bo + k * 4, none⟩ = some (.int .i64 (u3 k).s) ∧ V.cell? ⟨bb, bo + k * 4 + 1, none⟩ = some (.slice (u3 k).A (u3 k).n (u3 k).c) ∧ V.cell? ⟨bb, bo + k * 4 + 2, none⟩ = some (.int .i64 (u3 k).t) ∧ V.cell? ⟨bb, bo + k * 4 + 3, none⟩ = some (.slice (u3 k).B (u3 k).m (u3 k).d))) from ⟨(h.blk mb0).cell (j := 0) rfl, h.fxCell m5 hlt, ⟨(h.blk mb2).cell (j := 0) rfl, (h.blk mb2).cell (j := 1) rfl, (h.blk mb2).cell (j := 2) rfl, (h.blk mb2).cell (j := 3) rfl⟩, (h.blk mb1).cell (j := 0) rfl, h.fxCell m6 hlt⟩))
    have HCal := Lib.hid (fun V L5 D5 (h : St w L5 D5 V) (m1 : (⟨rdP (u k).A (u k).n (u k).c (u k).l, rdS (u k).A (u k).n⟩ : Hl) ∈ D5) (m2 : (⟨rdP (u k).B (u k).m (u k).d (u k).k, rdS (u k).B (u k).m⟩ : Hl) ∈ D5) (m3 : (⟨rdP (u c).A (u c).n (u c).c (u c).l, rdS (u c).A (u c).n⟩ : Hl) ∈ D5) (m4 : (⟨rdP (u c).B (u c).m (u c).d (u c).k, rdS (u c).B (u c).m⟩ : Hl) ∈ D5) (m7 : (⟨rdP (u3 k).A (u3 k).n (u3 k).c (u3 k).l, rdS (u3 k).A (u3 k).n⟩ : Hl) ∈ D5) (m8 : (⟨rdP (u3 k).B (u3 k).m (u3 k).d (u3 k).k, rdS (u3 k).B (u3 k).m⟩ : Hl) ∈ D5) => callLess h (HQ.out k hlt) (HQ.out c hc) (HQ3.out k hlt) m1 m2 m3 m4 m7 m8)
    have K0 := K.drew
    have s0 := HS.out _ _ _ K0 ZMB ZMB ZMB ZMB ZMB
    clear K
    refine wp_region_P 16 (fun V => (V.cell? ⟨b0, 0, none⟩ = some (.slice (some ⟨ab, ao, none⟩) n c0) ∧ (V.cell? ⟨ab, ao + k * 4, none⟩ = some (.int .i64 (u k).s) ∧ V.cell? ⟨ab, ao + k * 4 + 1, none⟩ = some (.slice (u k).A (u k).n (u k).c) ∧ V.cell? ⟨ab, ao + k * 4 + 2, none⟩ = some (.int .i64 (u k).t) ∧ V.cell? ⟨ab, ao + k * 4 + 3, none⟩ = some (.slice (u k).B (u k).m (u k).d)) ∧ (V.cell? ⟨b3, 0, none⟩ = some (.int .i64 (u c).s) ∧ V.cell? ⟨b3, 0 + 1, none⟩ = some (.slice (u c).A (u c).n (u c).c) ∧ V.cell? ⟨b3, 0 + 2, none⟩ = some (.int .i64 (u c).t) ∧ V.cell? ⟨b3, 0 + 3, none⟩ = some (.slice (u c).B (u c).m (u c).d)) ∧ V.cell? ⟨b1, 0, none⟩ = some (.slice (some ⟨bb, bo, none⟩) n c3) ∧ (V.cell? ⟨bb, bo + k * 4, none⟩ = some (.int .i64 (u3 k).s) ∧ V.cell? ⟨bb, bo + k * 4 + 1, none⟩ = some (.slice (u3 k).A (u3 k).n (u3 k).c) ∧ V.cell? ⟨bb, bo + k * 4 + 2, none⟩ = some (.int .i64 (u3 k).t) ∧ V.cell? ⟨bb, bo + k * 4 + 3, none⟩ = some (.slice (u3 k).B (u3 k).m (u3 k).d)))) (by kernel_rfl) s0 (fun hSh => ?_)
    clear s0
    generalize World.drew wr = V0 at K0 hSh ⊢
    refine wpAnyP.tkU 0 rfl ?_
    refine wpAnyP.tk 1 rfl ?_
    refine wpAnyP.tkU 2 rfl ?_
    refine wpAnyP.tkU 3 rfl ?_
    refine wpAnyP.tk 4 rfl ?_
    refine wpAnyP.tk 5 rfl ?_
    refine wpAnyP.tkU 6 rfl ?_
    refine wpAnyP.tk 7 rfl ?_
    refine wpAnyP.tkU 8 rfl ?_
    refine wpAnyP.tkU 9 rfl ?_
    refine wpAnyP.tk 10 rfl ?_
    refine wpAnyP.two (i := 11) (j := 15) rfl rfl rfl rfl (by kernel_rfl) (fun KK hKK => ?_) (fun KK hKK => ?_)
    focus
     go_simp
     go_at_call 130
     refine (HCal.out _ _ _ K0 ZMB ZMB ZMB ZMB ZMB ZMB).mono ?_
     rintro e V1 ⟨y1, er1, rfl, gy1, k1⟩
     go_wp2_with fail
     refine hKK.out _ _ (fun _ => HS.out _ _ _ k1 ZMB ZMB ZMB ZMB ZMB) (fun hSq => ?_)
     have hSh := HS.out _ _ _ k1 ZMB ZMB ZMB ZMB ZMB
     clear hKK KK hSq
     refine ZPT ?_
     refine wpAnyP.tkU 12 rfl ?_
     refine wpAnyP.tkU 13 rfl ?_
     refine wpAnyP.tkU 14 rfl ?_
     refine wpAnyP.on 15 rfl fun KK hKK => ?_
     go_simp
     have k2 := k1.new #[.int .i64 0, .slice none 0 0, .int .i64 0, .slice none 0 0] 50
     generalize V1.alloc (.cells #[.int .i64 0, .slice none 0 0, .int .i64 0, .slice none 0 0] 50) = V2 at k2 ⊢
     generalize V1.heap.size = g9 at k2 ⊢
     refine hKK.out _ _ (fun _ => HS.out _ _ _ k2 ZMB ZMB ZMB ZMB ZMB) (fun hSq => ?_)
     have hSh := HS.out _ _ _ k2 ZMB ZMB ZMB ZMB ZMB
     clear hKK KK hSq
     refine ZPT ?_
     have kz := k2
     clear k2 k1
    rotate_right
    focus
     go_simp
     have k1 := K0.new #[.int .i64 0, .slice none 0 0, .int .i64 0, .slice none 0 0] 50
     generalize V0.alloc (.cells #[.int .i64 0, .slice none 0 0, .int .i64 0, .slice none 0 0] 50) = V1 at k1 ⊢
     generalize V0.heap.size = g9 at k1 ⊢
     refine hKK.out _ _ (fun _ => HS.out _ _ _ k1 ZMB ZMB ZMB ZMB ZMB) (fun hSq => ?_)
     have hSh := HS.out _ _ _ k1 ZMB ZMB ZMB ZMB ZMB
     clear hKK KK hSq
     refine ZPT ?_
     refine wpAnyP.on 11 rfl fun KK hKK => ?_
     go_simp
     go_at_call 130
     refine (HCal.out _ _ _ k1 ZMB ZMB ZMB ZMB ZMB ZMB).mono ?_
     rintro e V2 ⟨y1, er1, rfl, gy1, k2⟩
     go_wp2_with fail
     refine hKK.out _ _ (fun _ => HS.out _ _ _ k2 ZMB ZMB ZMB ZMB ZMB) (fun hSq => ?_)
     have hSh := HS.out _ _ _ k2 ZMB ZMB ZMB ZMB ZMB
     clear hKK KK hSq
     refine ZPT ?_
     refine wpAnyP.tkU 12 rfl ?_
     refine wpAnyP.tkU 13 rfl ?_
     refine wpAnyP.tkU 14 rfl ?_
     have kz := k2
     clear k2 k1
    all_goals
     refine wpAnyP.onF 16 rfl fun KK hKK => ?_
     have r := kz.rawS
     have zz := kz.thaw (g := g9) (cs := #[.int .i64 0, .slice none 0 0, .int .i64 0, .slice none 0 0]) (t := 50) ZMB
     go_simp
     have K9 := kz.set4Z (b := g9) (t := 50) (x0 := .int .i64 0) (x1 := .slice none 0 0) (x2 := .int .i64 0) (x3 := .slice none 0 0) (u0 := .int .i64 y1.s) (u1 := .slice y1.A y1.n y1.c) (u2 := .int .i64 y1.t) (u3 := .slice y1.B y1.m y1.d) (Upd.head _)
     refine hKK.out _ _ ?_
     clear hKK KK r zz
     refine ZPT ?_
     refine wpAnyP.tkF 17 rfl ?_
     refine ⟨by kernel_rfl, ?_⟩
     generalize ((((V2.setCell ⟨g9, 0, none⟩ (.int .i64 y1.s)).setCell ⟨g9, 1, none⟩ (.slice y1.A y1.n y1.c)).setCell ⟨g9, 2, none⟩ (.int .i64 y1.t)).setCell ⟨g9, 3, none⟩ (.slice y1.B y1.m y1.d)) = W9 at K9 ⊢
     clear kz hSh HS HCal
     have K := K9
     clear K9
     have r := K.rawS
     by_cases he : er1 = 0
     · subst he
       have gz1 := Lib.hid (gy1.out.1.1 rfl)
       have gf1 := Lib.hid gy1.out.2
       have HM := Lib.hid (show stepK (X k) (X c) (Y k) = true from by simpa using gy1.out.1.2)
       clear gy1
       go_wp2_with (refine K.storeR rfl rfl _ _ _ rfl g k n y1 rfl rfl hlt ZUA frac_size ?_; clear K r; intro W K)
       have HK := Lib.hid (((K.rwPut y1 k ZMB ZMB ZMB).lessS (D' := ⟨rwP n (putF v k y1), rwS n (putF v k y1)⟩ :: ⟨rdP (u c).B (u c).m (u c).d (u c).k, rdS (u c).B (u c).m⟩ :: ⟨rdP (u c).A (u c).n (u c).c (u c).l, rdS (u c).A (u c).n⟩ :: (⟨fxP (some ⟨bb, bo, none⟩) n c3 u3, fxS (some ⟨bb, bo, none⟩) n u3⟩ : Hl) :: (⟨fxP (some ⟨ab, ao, none⟩) n c0 u, fxS (some ⟨ab, ao, none⟩) n u⟩ : Hl) :: ⟨rdP y3.B y3.m y3.d y3.k, rdS y3.B y3.m⟩ :: ⟨rdP y3.A y3.n y3.c y3.l, rdS y3.A y3.n⟩ :: ⟨rdP yb.B yb.m yb.d yb.k, rdS yb.B yb.m⟩ :: ⟨rdP yb.A yb.n yb.c yb.l, rdS yb.A yb.n⟩ :: []) (by repeat (first | with_reducible exact List.Sublist.refl _ | with_reducible apply List.Sublist.cons_cons | with_reducible apply List.Sublist.cons))).part (L' := ((b4, #[.slice (some ⟨g, 0, none⟩) n gc, .int .i64 0, .slice none 0 0, .int .i64 0, .slice none 0 0], 56) : Blk) :: (g, rwA n (putF v k y1) J, 50) :: (b3, #[.int .i64 (u c).s, .slice (u c).A (u c).n (u c).c, .int .i64 (u c).t, .slice (u c).B (u c).m (u c).d], 50) :: (b2, #[.slice none 0 0, .int .i64 0, .slice none 0 0, .int .i64 0, .slice none 0 0], 56) :: (b1, #[.slice (some ⟨bb, bo, none⟩) n c3, .int .i64 y3.s, .slice y3.A y3.n y3.c, .int .i64 y3.t, .slice y3.B y3.m y3.d], 56) :: (b0, #[.slice (some ⟨ab, ao, none⟩) n c0, .int .i64 yb.s, .slice yb.A yb.n yb.c, .int .i64 yb.t, .slice yb.B yb.m yb.d], 56) :: []) (List.sublist_cons_self _ _))
       have HP2 := Lib.hid (show ∀ j, j < k + 1 → stepK (X j) (X c) (Y j) = true from fun j hj => by
        by_cases e : j = k
        · rw [e]; exact HM.out
        · exact HP.out j (by omega))
       have HV2 := Lib.hid (show ∀ j, j < k + 1 → (putF v k y1 j).fv = fvQ (X j - X c * Y j) ∧ FrA w.heap.size (putF v k y1 j).A ∧ FrA w.heap.size (putF v k y1 j).B from fun j hj => by
        by_cases e : j = k
        · rw [e, putF_same]; exact ⟨gz1.out.1.fv, gf1.out⟩
        · rw [putF_other e]; exact HV.out j (by omega))
       clear K HP HV HM gz1 gf1
       go_wp2_with fail
       go_roundg (n - (k + 1))
       case rel => exact ⟨k + 1, putF v k y1, hlt, rfl, by go_num, HP2, HV2, HK.out⟩
       case measure => omega
     · have hx : (er1 != 0) = true := by simpa using he
       have HNo := Lib.hid (show subX X Y n c = false from rng_no (k := k) (by omega) (by have := gy1.out.1.2; rw [hx] at this; simpa using this))
       clear gy1 HP HV
       go_wp2_with (first | ((first | (apply K.alloc; rfl; rfl; (first | with_reducible exact row_zero | with_reducible exact frac_zero)) | (apply K.box; rfl; rfl; rfl)); clear K r; (first | ((fail_if_success revert b0); intro W b0 K) | ((fail_if_success revert b1); intro W b1 K) | ((fail_if_success revert b2); intro W b2 K) | ((fail_if_success revert b3); intro W b3 K) | ((fail_if_success revert b4); intro W b4 K) | intro W b K); have r := K.rawS) | (apply K.storeA; rfl; rfl; rfl; rfl; rfl; (exact ZUP); (first | with_reducible exact row_size | with_reducible exact frac_size); rfl; rfl; rfl; clear K r; intro W K; have r := K.rawS))
       have HX := Lib.hid (show RowO w n (subX X Y n c) (fun k => X k - X c * Y k) (.returned (.tuple #[.agg #[.slice (some ⟨g, 0, none⟩) n gc, .int .i64 0, .slice none 0 0, .int .i64 0, .slice none 0 0], .bool false])) _ from ⟨⟨some ⟨g, 0, none⟩, n, gc, [], Rw.zero⟩, by rw [HNo.out]; rfl, fun h => (by rw [HNo.out] at h; cases h), K.1⟩)
       exact bodyPost_ret (v := .tuple #[.agg #[.slice (some ⟨g, 0, none⟩) n gc, .int .i64 0, .slice none 0 0, .int .i64 0, .slice none 0 0], .bool false]) (by simp [results, Tryz.results89, go_sem, r]) rfl HX.out
  · have e : n = k := by omega
    subst e
    have hltd : decide (n < n) = false := decide_eq_false hlt
    have r := K.rawS
    go_wp2_with (first | ((first | (apply K.alloc; rfl; rfl; (first | with_reducible exact row_zero | with_reducible exact frac_zero)) | (apply K.box; rfl; rfl; rfl)); clear K r; (first | ((fail_if_success revert b0); intro W b0 K) | ((fail_if_success revert b1); intro W b1 K) | ((fail_if_success revert b2); intro W b2 K) | ((fail_if_success revert b3); intro W b3 K) | ((fail_if_success revert b4); intro W b4 K) | intro W b K); have r := K.rawS) | (apply K.storeA; rfl; rfl; rfl; rfl; rfl; (exact ZUP); (first | with_reducible exact row_size | with_reducible exact frac_size); rfl; rfl; rfl; clear K r; intro W K; have r := K.rawS))
    refine (callLess K Hb.out (HQ.out c hc) H3.out ZMB ZMB ZMB ZMB ZMB ZMB).mono ?_
    rintro e V1 ⟨y1, er1, rfl, gy1, k1⟩
    replace K := k1
    clear k1 r
    have r := K.rawS
    by_cases he : er1 = 0
    · subst he
      have gz1 := Lib.hid (gy1.out.1.1 rfl)
      have gf1 := Lib.hid gy1.out.2
      have HM := Lib.hid (show stepK (X n) (X c) (Y n) = true from by simpa using gy1.out.1.2)
      have HYes := Lib.hid (show subX X Y n c = true from rng_all HP.out HM.out)
      clear gy1 HP
      go_wp2_with (first
       | (first | ((first | (apply K.alloc; rfl; rfl; (first | with_reducible exact row_zero | with_reducible exact frac_zero)) | (apply K.box; rfl; rfl; rfl)); clear K r; (first | ((fail_if_success revert b0); intro W b0 K) | ((fail_if_success revert b1); intro W b1 K) | ((fail_if_success revert b2); intro W b2 K) | ((fail_if_success revert b3); intro W b3 K) | ((fail_if_success revert b4); intro W b4 K) | intro W b K); have r := K.rawS) | (apply K.storeA; rfl; rfl; rfl; rfl; rfl; (exact ZUP); (first | with_reducible exact row_size | with_reducible exact frac_size); rfl; rfl; rfl; clear K r; intro W K; have r := K.rawS))
       | (refine K.storeP (b := b4) (off := 1) (cs := #[.slice (some ⟨g, 0, none⟩) n gc, .int .i64 0, .slice none 0 0, .int .i64 0, .slice none 0 0]) (cs' := #[.slice (some ⟨g, 0, none⟩) n gc, .int .i64 y1.s, .slice y1.A y1.n y1.c, .int .i64 y1.t, .slice y1.B y1.m y1.d]) (t := 56) rfl rfl _ _ _ rfl #[.int .i64 y1.s, .slice y1.A y1.n y1.c, .int .i64 y1.t, .slice y1.B y1.m y1.d] rfl rfl ZUA rfl frac_size rfl (by simp) rfl ?_; clear K r; intro W K; have r := K.rawS))
      have HX := Lib.hid (show RowO w n (subX X Y n c) (fun k => X k - X c * Y k) (.returned (.tuple #[.agg #[.slice (some ⟨g, 0, none⟩) n gc, .int .i64 y1.s, .slice y1.A y1.n y1.c, .int .i64 y1.t, .slice y1.B y1.m y1.d], .bool true])) _ from by
       refine ⟨⟨some ⟨g, 0, none⟩, n, gc, ofF n fun i => fvQ (X i - X c * Y i), y1⟩, by rw [HYes.out], fun _ => ⟨rfl, ?_, by have e9 := isQ.fv gz1.out; show (⟨_, y1.fv⟩ : Rv) = _; rw [e9]⟩, K.1⟩
       have hK : St w ([((g, rwA n v J, 50) : Blk)] ++ []) _ _ := K.part (L' := [((g, rwA n v J, 50) : Blk)]) (List.Sublist.cons _ (List.Sublist.cons _ (List.Sublist.cons_cons _ (List.nil_sublist _))))
       obtain ⟨Ap, cp, hv, hro⟩ := (OwL.ofJ HJ.out).frK hK ZMB (by omega) (rwS_fr fun j hj => (HV.out j hj).2)
       injection hv with q1 q2 q3
       subst q1 q3
       rw [ofF_congr (fun i hi => (HV.out i hi).1)] at hro
       exact hro.row K ZMB ZMB gf1.out.1 gf1.out.2)
      exact bodyPost_ret (v := .tuple #[.agg #[.slice (some ⟨g, 0, none⟩) n gc, .int .i64 y1.s, .slice y1.A y1.n y1.c, .int .i64 y1.t, .slice y1.B y1.m y1.d], .bool true]) (by simp [results, Tryz.results89, go_sem, r]) rfl HX.out
    · have hx : (er1 != 0) = true := by simpa using he
      have HNo := Lib.hid (show subX X Y n c = false from rng_no (k := n) (by omega) (by have := gy1.out.1.2; rw [hx] at this; simpa using this))
      clear gy1 HP HV
      go_wp2_with (first
       | (first | ((first | (apply K.alloc; rfl; rfl; (first | with_reducible exact row_zero | with_reducible exact frac_zero)) | (apply K.box; rfl; rfl; rfl)); clear K r; (first | ((fail_if_success revert b0); intro W b0 K) | ((fail_if_success revert b1); intro W b1 K) | ((fail_if_success revert b2); intro W b2 K) | ((fail_if_success revert b3); intro W b3 K) | ((fail_if_success revert b4); intro W b4 K) | intro W b K); have r := K.rawS) | (apply K.storeA; rfl; rfl; rfl; rfl; rfl; (exact ZUP); (first | with_reducible exact row_size | with_reducible exact frac_size); rfl; rfl; rfl; clear K r; intro W K; have r := K.rawS))
       | (refine K.storeP (b := b4) (off := 1) (cs := #[.slice (some ⟨g, 0, none⟩) n gc, .int .i64 0, .slice none 0 0, .int .i64 0, .slice none 0 0]) (cs' := #[.slice (some ⟨g, 0, none⟩) n gc, .int .i64 y1.s, .slice y1.A y1.n y1.c, .int .i64 y1.t, .slice y1.B y1.m y1.d]) (t := 56) rfl rfl _ _ _ rfl #[.int .i64 y1.s, .slice y1.A y1.n y1.c, .int .i64 y1.t, .slice y1.B y1.m y1.d] rfl rfl ZUA rfl frac_size rfl (by simp) rfl ?_; clear K r; intro W K; have r := K.rawS))
      have HX := Lib.hid (show RowO w n (subX X Y n c) (fun k => X k - X c * Y k) (.returned (.tuple #[.agg #[.slice (some ⟨g, 0, none⟩) n gc, .int .i64 y1.s, .slice y1.A y1.n y1.c, .int .i64 y1.t, .slice y1.B y1.m y1.d], .bool false])) _ from ⟨⟨some ⟨g, 0, none⟩, n, gc, [], y1⟩, by rw [HNo.out]; first | done | rfl, fun h => (by rw [HNo.out] at h; cases h), K.1⟩)
      exact bodyPost_ret (v := .tuple #[.agg #[.slice (some ⟨g, 0, none⟩) n gc, .int .i64 y1.s, .slice y1.A y1.n y1.c, .int .i64 y1.t, .slice y1.B y1.m y1.d], .bool false]) (by simp [results, Tryz.results89, go_sem, r, he]) rfl HX.out
end Go.Proofs.YtdlcglndhhndpaaGreat
