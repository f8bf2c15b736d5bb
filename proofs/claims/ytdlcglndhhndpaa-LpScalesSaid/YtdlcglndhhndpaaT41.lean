/- Laws and walks laid together; the conditions stand in each theorem. -/
import Derived.Test.YtdlcglndhhndpaaT40
import Derived.Test.YtdlcglndhhndpaaT33
import Derived.Test.YtdlcglndhhndpaaT13
set_option linter.unusedSimpArgs false
set_option linter.unusedVariables false
namespace Go.Proofs.Ytdlcglndhhndpaa
open Go.RowKit
def blank (W : World) (B : Nat) : World := { W with heap := W.heap.mapIdx fun i o => if i < B then .cells #[] 0 else o }
theorem blank_size (W : World) (B : Nat) : (blank W B).heap.size = W.heap.size := by unfold blank; simp
theorem blank_new {W : World} {B b : Nat} (h : B ≤ b) : (blank W B).heap[b]? = W.heap[b]? := by
  unfold blank
  rw [Array.getElem?_mapIdx]
  cases W.heap[b]? with
  | none => rfl
  | some o => rw [Option.map_some, if_neg (by omega)]
theorem blank_cell {W : World} {B : Nat} {p : Addr} {u : Value} (h : (blank W B).cell? p = some u) : B ≤ p.block := by
  by_cases hb : p.block < B
  · unfold blank World.cell? at h
    rw [Array.getElem?_mapIdx] at h
    cases e : W.heap[p.block]? with
    | none => rw [e] at h; simp at h
    | some o =>
      rw [e, Option.map_some, if_pos hb] at h
      simp at h
  · omega
theorem blank_rd {α : Type} {sz : Nat} {R : Enc α} {W : World} {B C : Nat} {A : Option Addr} {n cap : Nat} {l : List α} (hsz : 0 < sz) (h : Rd sz R (blank W B) C A n cap l) {b : Nat} (hS : rdS A n b) : B ≤ b := by
  obtain ⟨hn, a, rfl, rfl⟩ := hS
  obtain ⟨b', off, e, hlt, hc⟩ := h.2.2.2 hn
  obtain ⟨cs, hr, hl, hj⟩ := hc 0 (by rw [h.1]; exact hn)
  have := hj 0 _ (List.getElem?_eq_getElem (by omega))
  rw [Option.some.inj e]
  have h5 : B ≤ b' := blank_cell this
  exact h5
theorem St.fxK {w0 W W' : World} {L : List Blk} {D : List Hl} {A : Option Addr} {n cap : Nat} {l : List Fv} (K : St w0 L D W) (hb : Below W.heap.size W W') (h : FrK W W' A n cap l) : ∃ v : Nat → Rw, (∀ i, i < n → l[i]? = some (v i).fv) ∧ St w0 L (⟨fxP A n cap v, fxS A n v⟩ :: D) W' := by
  have hX : RdF (blank W' W.heap.size) (blank W' W.heap.size).heap.size A n cap l := h _ (by rw [blank_size]; exact Nat.le_refl _) (fun b h1 _ => blank_new h1)
  obtain ⟨v, h1, h2, h3⟩ := rdF_raw hX
  have h0 : fxP A n cap v (blank W' W.heap.size) := ⟨h1, fun i hi => h2 i hi⟩
  have hs : ∀ b, fxS A n v b → W.heap.size ≤ b := fun b hS => by
    rcases hS with hS | ⟨i, hi, hS | hS⟩
    · exact blank_rd (by omega) h0.1 hS
    · exact blank_rd (by omega) (h0.2 i hi).1 hS
    · exact blank_rd (by omega) (h0.2 i hi).2 hS
  refine ⟨v, h3, (K.keep hb).fxAdd (fx_keep h0 (by rw [blank_size]; exact Nat.le_refl _) fun b hS => (blank_new (hs b hS)).symm) fun b hS p hp e => ?_⟩
  have g1 := (K.2.1 p hp).2.lt
  have g2 := hs b hS
  omega
end Go.Proofs.Ytdlcglndhhndpaa
namespace Go.Proofs.Ytdlcglndhhndpaa
open Go.RowKit
def Rr.onK (x : Rr) (w w' : World) : Prop := ∀ W : World, w'.heap.size ≤ W.heap.size → (∀ b, w.heap.size ≤ b → b < w'.heap.size → W.heap[b]? = w'.heap[b]?) → x.on W
theorem FrK.row {w W : World} {L : List Blk} {D : List Hl} {A : Option Addr} {n c : Nat} {a : List Fv} {y : Rw} (h : FrK w W A n c a) (K : St w L D W) (m2 : (⟨rdP y.A y.n y.c y.l, rdS y.A y.n⟩ : Hl) ∈ D) (m3 : (⟨rdP y.B y.m y.d y.k, rdS y.B y.m⟩ : Hl) ∈ D) (f2 : FrA w.heap.size y.A) (f3 : FrA w.heap.size y.B) : (⟨A, n, c, a, y⟩ : Rr).onK w W := fun W' h1 h2 =>
  ⟨h W' h1 h2, (K.2.2.2 _ m2).2.2 W' h1 (fun b hS => h2 b (by obtain ⟨-, a, e1, e2⟩ := hS; rw [← e2]; exact f2 a e1) ((K.2.2.2 _ m2).2.1 b hS).1), (K.2.2.2 _ m3).2.2 W' h1 (fun b hS => h2 b (by obtain ⟨-, a, e1, e2⟩ := hS; rw [← e2]; exact f3 a e1) ((K.2.2.2 _ m3).2.1 b hS).1)⟩
end Go.Proofs.Ytdlcglndhhndpaa
namespace Go.Proofs.Ytdlcglndhhndpaa
open Go.RowKit
theorem ZQ65 {p : Prop} (h : p := by
  first
    | (obtain ⟨i, hi, rfl⟩ := List.mem_iff_getElem.1 hx
       have hi' : i < n := by rw [ofF_len] at hi; exact hi
       have := ofF_get (f := f) hi'
       rw [List.getElem?_eq_getElem hi] at this
       rw [Option.some.inj this]
       exact h i hi')
    | fail) : p := h
theorem St.setB1 {w W : World} {L L' : List Blk} {D : List Hl} {b : Nat} {t : TypeId} (h : St w L D W) {x0 x1 u1 : Value} (hU : Upd b #[x0, x1] t #[x0, u1] L L') : St w L' D (W.setCell ⟨b, 1, none⟩ u1) :=
  h.upd hU (OnlyB.set W b 1 u1) ((h.blk hU.mem).set (j := 1) u1)
theorem prog_zero : (Try.prog.info? 58).map (fun i => i.zero.map (·.cells)) = some (some #[.slice none 0 0, .slice none 0 0]) := by kernel_rfl
theorem prog_size : (Try.prog.info? 58).map (·.size) = some 2 := by kernel_rfl
theorem LstP.congr {w w' : World} {n : Nat} {x y : Nat → Rat} {e : Ending} (h : LstP w n x e w') (hxy : ∀ i, i < n → x i = y i) : LstP w n y e w' := by
  obtain ⟨A, c, he, hr, hb⟩ := h
  rw [ofF_congr (g := fun i => fvQ (y i)) (fun i hi => by rw [hxy i hi])] at hr
  exact ⟨A, c, he, hr, hb⟩
theorem fvR_ofF {n i : Nat} {f : Nat → Fv} (hi : i < n) : fvR (ofF n f) i = (f i).rat := by
  unfold fvR
  rw [ofF_get hi, Option.map_some, Option.getD_some]
theorem ofF_all {n : Nat} {f : Nat → Fv} (h : ∀ i, i < n → (f i).ok = true) : (ofF n f).all Fv.ok = true := List.all_eq_true.2 fun x hx => by
  exact ZQ65
set_option maxRecDepth 100000 in
set_option maxHeartbeats 8000000 in
theorem turned9_any (A A' : Option Addr) (n cap m cap' : Nat) (l : List Fv) (ls : List Rv) (w : World) (hl : RdF w w.heap.size A n cap l) (hr : RdR w w.heap.size A' m cap' ls) (hn : n ≤ 20) (hm : m ≤ 40) (hok : (l.all Fv.ok && ls.all (rowF n)) = true) :
    Calls Try.prog 31 #[.agg #[.slice A n cap, .slice A' m cap']] w fun e w' => ∃ A2 c2 A3 c3, e = .returned (.agg #[.slice A2 m c2, .slice A3 n c3]) ∧ RdF w' w'.heap.size A2 m c2 (ofF m fun i => fvQ (- rwB2 ls false i)) ∧ RdR w' w'.heap.size A3 n c3 (ofF n fun j => ⟨ofF m fun i => fvQ (- rwA2 ls i j), fvQ (- fvR l j)⟩) ∧ Below w.heap.size w w' := by
  rw [Bool.and_eq_true] at hok
  have hcap := hl.caps
  have hcap' := hr.caps
  have K := St.start w
  have HVa := Lib.hid (fun W (h : Below w.heap.size w W) => values9_any A A' n cap m cap' ls W hcap (hr.up rE_lasts h) (by omega))
  have HNg := Lib.hid (fun W (h : Below w.heap.size w W) => negative9_any A n cap l W (hl.up fE_lasts h) (by omega) hok.1)
  have HRow := Lib.hid (show ∀ k X, ls[k]? = some X → rowF n X = true from fun k X h => List.all_eq_true.1 hok.2 _ (List.mem_of_getElem? h))
  have HCo := Lib.hid (fun W (h : Below w.heap.size w W) => column9_any A A' n cap m cap' ls W hcap (hr.up rE_lasts h) (by omega) (fun k X hX => by
    have := HRow.out k X hX
    unfold rowF at this
    rw [Bool.and_eq_true, Bool.and_eq_true, decide_eq_true_eq] at this
    omega))
  have Hlen := Lib.hid hr.len
  have HN2 := Lib.hid (fun W A3 c3 (h : RdF W W.heap.size A3 m c3 (ofF m (rbF ls))) => (show Calls Try.prog 64 #[.slice A3 m c3] W (LstP W m fun i => - rwB2 ls false i) from (negative9_any A3 m c3 _ W h (by omega) (ofF_all fun i hi => by
    have hi2 : i < ls.length := by have := Hlen.out; omega
    have h1 := HRow.out i _ (List.getElem?_eq_getElem hi2)
    unfold rowF at h1
    rw [Bool.and_eq_true, Bool.and_eq_true] at h1
    unfold rbF
    rw [List.getElem?_eq_getElem hi2]
    exact h1.1.2)).mono fun e W' h => h.congr fun i hi => by
    have hi2 : i < ls.length := by have := Hlen.out; omega
    rw [fvR_ofF hi]
    unfold rbF rwB2
    rw [if_neg (by decide), List.getElem?_eq_getElem hi2]
    rfl))
  have HN3 := Lib.hid (fun W j (hj : j < n) A3 c3 (h : RdF W W.heap.size A3 m c3 (ofF m (raF ls j))) => (show Calls Try.prog 64 #[.slice A3 m c3] W (LstP W m fun i => - rwA2 ls i j) from (negative9_any A3 m c3 _ W h (by omega) (ofF_all fun i hi => by
    have hi2 : i < ls.length := by have := Hlen.out; omega
    have h1 := HRow.out i _ (List.getElem?_eq_getElem hi2)
    unfold rowF at h1
    rw [Bool.and_eq_true, Bool.and_eq_true, decide_eq_true_eq] at h1
    have h2 : j < (ls[i]).a.length := by omega
    unfold raF
    rw [List.getElem?_eq_getElem hi2, Option.bind_some, List.getElem?_eq_getElem h2, Option.getD_some]
    exact List.all_eq_true.1 h1.2 _ (List.getElem_mem h2))).mono fun e W' h => h.congr fun i hi => by
    have hi2 : i < ls.length := by have := Hlen.out; omega
    have h1 := HRow.out i _ (List.getElem?_eq_getElem hi2)
    unfold rowF at h1
    rw [Bool.and_eq_true, Bool.and_eq_true, decide_eq_true_eq] at h1
    have h2 : j < (ls[i]).a.length := by omega
    rw [fvR_ofF hi]
    unfold raF rwA2
    rw [List.getElem?_eq_getElem hi2, Option.bind_some, List.getElem?_eq_getElem h2, Option.getD_some]
    rfl))
  clear hl hr hok
  go_enter Try.func31, Try.ntmps31
  go_wp2_with (first
    | (apply K.box; rfl; rfl; rfl; clear K; intro W b0 K)
    | (have hx := Eq.refl b1; clear hx; apply K.alloc; rfl; rfl; exact prog_zero; clear K c0 c1; intro W b2 K; have c0 := (K.blk (b := b0) (cs := #[.slice A n cap, .slice A' m cap']) (t := 58) ZMB).cell (j := 0) rfl; have c1 := (K.blk (b := b0) (cs := #[.slice A n cap, .slice A' m cap']) (t := 58) ZMB).cell (j := 1) rfl)
    | (apply K.alloc; rfl; rfl; exact prog_zero; clear K; intro W b1 K; have c0 := (K.blk (b := b0) (cs := #[.slice A n cap, .slice A' m cap']) (t := 58) ZMB).cell (j := 0) rfl; have c1 := (K.blk (b := b0) (cs := #[.slice A n cap, .slice A' m cap']) (t := 58) ZMB).cell (j := 1) rfl)
    | (go_at_call 65; refine (HVa.out _ K.1).mono ?_; rintro e W3 ⟨A3, c3, rfl, hr3, hb3⟩; replace K := K.keep hb3; clear c0 c1 hb3)
    | (go_at_call 64; refine (HN2.out _ _ _ hr3).mono ?_; rintro e W4 ⟨A4, c4, rfl, hf4, hb4⟩; replace K := K.addK hb4 hf4; clear hr3; have c0 := (K.blk (b := b0) (cs := #[.slice A n cap, .slice A' m cap']) (t := 58) ZMB).cell (j := 0) rfl; have c1 := (K.blk (b := b0) (cs := #[.slice A n cap, .slice A' m cap']) (t := 58) ZMB).cell (j := 1) rfl)
    | (apply K.storeA; rfl; rfl; rfl; rfl; rfl; (repeat (first | with_reducible apply Upd.head | with_reducible apply Upd.tail)); exact prog_size; rfl; rfl; rfl; clear K c0 c1; intro W5 K; have c0 := (K.blk (b := b0) (cs := #[.slice A n cap, .slice A' m cap']) (t := 58) ZMB).cell (j := 0) rfl; have c1 := (K.blk (b := b0) (cs := #[.slice A n cap, .slice A' m cap']) (t := 58) ZMB).cell (j := 1) rfl)
    | (go_at_call 64; refine (HNg.out _ K.1).mono ?_; rintro e W6 ⟨A6, c6, rfl, hf6, hb6⟩; obtain ⟨vg, hvg, K6⟩ := K.fxK hb6 hf6; clear K c0 c1))
  clear hf4 hb4 hf6 hb6
  have HVg := Lib.hid (show ∀ i, i < n → (vg i).fv = fvQ (- fvR l i) from fun i hi => by
    have := hvg i hi
    rw [ofF_get hi] at this
    exact (Option.some.inj this).symm)
  clear hvg
  have K : St w ([] ++ [((b2, #[.slice A4 m c4, (.slice none 0 0)], 58) : Blk), ((b1, #[.slice none 0 0, .slice none 0 0], 58) : Blk), ((b0, #[.slice A n cap, .slice A' m cap'], 58) : Blk)]) [rrF 0 (fun _ => Rr.zero) (fun _ _ => False), (⟨fxP A6 n c6 vg, fxS A6 n vg⟩ : Hl), (⟨rfQ A4 m c4 (ofF m fun i => fvQ (-rwB2 ls false i)), betS W3 W4⟩ : Hl)] _ := K6.rrNew
  clear K6
  go_loopg [5] n (fun gk s5 wr => ∃ (k : Nat) (u : Nat → Rr) (S : Nat → Nat → Prop) (val : Value) (X : List Blk), k ≤ n ∧ gk = n - k ∧ s5 = .int .i64 k ∧ Hid (∀ j, j < k → (u j).rv = ⟨ofF m fun i => fvQ (- rwA2 ls i j), fvQ (- fvR l j)⟩) ∧ Hid (OwL 5 Rr.cs 45 val (ofF k u) X) ∧ St w (X ++ [((b2, #[.slice A4 m c4, val], 58) : Blk), ((b1, #[.slice none 0 0, .slice none 0 0], 58) : Blk), ((b0, #[.slice A n cap, .slice A' m cap'], 58) : Blk)]) [rrF k u S, (⟨fxP A6 n c6 vg, fxS A6 n vg⟩ : Hl), (⟨rfQ A4 m c4 (ofF m fun i => fvQ (-rwB2 ls false i)), betS W3 W4⟩ : Hl)] wr)
  case atStart => exact ⟨0, fun _ => Rr.zero, fun _ _ => False, _, [], Nat.zero_le _, rfl, rfl, Lib.hid (fun j h => absurd h (by omega)), Lib.hid OwL.nil, K⟩
  case round =>
    clear K
    obtain ⟨k, u, S, val, X, hk, rfl, rfl, HV, Ho, K⟩ := hrel
    have c0 := (K.blk (b := b0) (cs := #[.slice A n cap, .slice A' m cap']) (t := 58) (by repeat (first | with_reducible exact List.mem_append_right _ ZMB | with_reducible exact List.mem_cons_self | with_reducible apply List.mem_cons_of_mem))).cell (j := 0) rfl
    have c1 := (K.blk (b := b0) (cs := #[.slice A n cap, .slice A' m cap']) (t := 58) (by repeat (first | with_reducible exact List.mem_append_right _ ZMB | with_reducible exact List.mem_cons_self | with_reducible apply List.mem_cons_of_mem))).cell (j := 1) rfl
    by_cases hlt : k < n
    · obtain ⟨Ah, nh, ch, rfl⟩ := Ho.out.shape
      have hki : (k : Int) < (n : Int) := by omega
      have hk0 : (0 : Int) ≤ (k : Int) := by omega
      have hltd : decide (k < n) = true := decide_eq_true hlt
      obtain ⟨gb, go, hA⟩ := K.fxAt (A := A6) (n := n) (cap := c6) (v := vg) ZMB (by omega)
      subst hA
      have K := K.fxRd (n := n) (v := vg) (i := k) ZMB hlt
      go_upto_region 6 with fail
      have HS := Lib.hid (fun V L5 D5 (h : St w L5 D5 V) (m5 : ((b2, #[.slice A4 m c4, (.slice Ah nh ch)], 58) : Blk) ∈ L5) (m6 : ((b0, #[.slice A n cap, .slice A' m cap'], 58) : Blk) ∈ L5) (m7 : (⟨fxP (some ⟨gb, go, none⟩) n c6 vg, fxS (some ⟨gb, go, none⟩) n vg⟩ : Hl) ∈ D5) => (show V.cell? ⟨b2, 1, none⟩ = some (.slice Ah nh ch) ∧ (V.cell? ⟨b0, 0, none⟩ = some (.slice A n cap) ∧ V.cell? ⟨b0, 1, none⟩ = some (.slice A' m cap')) ∧ (V.cell? ⟨gb, go + k * 4, none⟩ = some (.int .i64 (vg k).s) ∧ V.cell? ⟨gb, go + k * 4 + 1, none⟩ = some (.slice (vg k).A (vg k).n (vg k).c) ∧ V.cell? ⟨gb, go + k * 4 + 2, none⟩ = some (.int .i64 (vg k).t) ∧ V.cell? ⟨gb, go + k * 4 + 3, none⟩ = some (.slice (vg k).B (vg k).m (vg k).d)) from ⟨(h.blk m5).cell (j := 1) rfl, ⟨(h.blk m6).cell (j := 0) rfl, (h.blk m6).cell (j := 1) rfl⟩, h.fxCell m7 hlt⟩))
      have K0 := K.drew
      have s0 := HS.out _ _ _ K0 (by repeat (first | with_reducible exact List.mem_append_right _ ZMB | with_reducible exact List.mem_cons_self | with_reducible apply List.mem_cons_of_mem)) (by repeat (first | with_reducible exact List.mem_append_right _ ZMB | with_reducible exact List.mem_cons_self | with_reducible apply List.mem_cons_of_mem)) ZMB
      clear K c0 c1
      refine wp_region_P 14 (fun V => V.cell? ⟨b2, 1, none⟩ = some (.slice Ah nh ch) ∧ (V.cell? ⟨b0, 0, none⟩ = some (.slice A n cap) ∧ V.cell? ⟨b0, 1, none⟩ = some (.slice A' m cap')) ∧ (V.cell? ⟨gb, go + k * 4, none⟩ = some (.int .i64 (vg k).s) ∧ V.cell? ⟨gb, go + k * 4 + 1, none⟩ = some (.slice (vg k).A (vg k).n (vg k).c) ∧ V.cell? ⟨gb, go + k * 4 + 2, none⟩ = some (.int .i64 (vg k).t) ∧ V.cell? ⟨gb, go + k * 4 + 3, none⟩ = some (.slice (vg k).B (vg k).m (vg k).d))) (by kernel_rfl) s0 (fun hSh => ?_)
      clear s0
      generalize World.drew wr = V0 at K0 hSh ⊢
      refine wpAnyP.tkU 0 rfl ?_
      refine wpAnyP.tk 1 rfl ?_
      refine wpAnyP.tk 2 rfl ?_
      refine wpAnyP.tkU 3 rfl ?_
      refine wpAnyP.tkU 6 rfl ?_
      refine wpAnyP.tkU 7 rfl ?_
      refine wpAnyP.tkU 8 rfl ?_
      refine wpAnyP.tk 9 rfl ?_
      refine wpAnyP.on 4 rfl fun KK hKK => ?_
      go_simp
      go_at_call 66
      refine (HCo.out _ K0.1 k hlt).mono ?_
      rintro e W5 ⟨A5, c5, rfl, hr5, hb5⟩
      have k5 := K0.keep hb5
      clear K0
      go_wp2_with fail
      refine hKK.out _ _ (fun _ => HS.out _ _ _ k5 (by repeat (first | with_reducible exact List.mem_append_right _ ZMB | with_reducible exact List.mem_cons_self | with_reducible apply List.mem_cons_of_mem)) (by repeat (first | with_reducible exact List.mem_append_right _ ZMB | with_reducible exact List.mem_cons_self | with_reducible apply List.mem_cons_of_mem)) ZMB) (fun hSq => ?_)
      have hSh := HS.out _ _ _ k5 (by repeat (first | with_reducible exact List.mem_append_right _ ZMB | with_reducible exact List.mem_cons_self | with_reducible apply List.mem_cons_of_mem)) (by repeat (first | with_reducible exact List.mem_append_right _ ZMB | with_reducible exact List.mem_cons_self | with_reducible apply List.mem_cons_of_mem)) ZMB
      clear hKK KK hSq
      refine ZPT ?_
      refine wpAnyP.on 5 rfl fun KK hKK => ?_
      go_simp
      go_at_call 64
      refine (HN3.out _ k hlt _ _ hr5).mono ?_
      rintro e W7 ⟨A7, c7, rfl, hf7, hb7⟩
      have k6 := k5.addK hb7 hf7
      clear k5 hr5 hb5
      go_wp2_with fail
      refine hKK.out _ _ (fun _ => HS.out _ _ _ k6 (by repeat (first | with_reducible exact List.mem_append_right _ ZMB | with_reducible exact List.mem_cons_self | with_reducible apply List.mem_cons_of_mem)) (by repeat (first | with_reducible exact List.mem_append_right _ ZMB | with_reducible exact List.mem_cons_self | with_reducible apply List.mem_cons_of_mem)) ZMB) (fun hSq => ?_)
      have hSh := HS.out _ _ _ k6 (by repeat (first | with_reducible exact List.mem_append_right _ ZMB | with_reducible exact List.mem_cons_self | with_reducible apply List.mem_cons_of_mem)) (by repeat (first | with_reducible exact List.mem_append_right _ ZMB | with_reducible exact List.mem_cons_self | with_reducible apply List.mem_cons_of_mem)) ZMB
      clear hKK KK hSq
      refine ZPT ?_
      refine wpAnyP.tkU 10 rfl ?_
      refine wpAnyP.on 11 rfl fun KK hKK => ?_
      refine k6.litOp _ _ rfl _ rfl _ _ (run_litR _ _ _ _ _ _ _ _ _ _ _ _) ?_
      intro g W9 k7
      refine hKK.out _ _ (fun _ => HS.out _ _ _ k7 (by repeat (first | with_reducible exact List.mem_append_right _ ZMB | with_reducible exact List.mem_cons_self | with_reducible apply List.mem_cons_of_mem)) (by repeat (first | with_reducible exact List.mem_append_right _ ZMB | with_reducible exact List.mem_cons_self | with_reducible apply List.mem_cons_of_mem)) ZMB) (fun hSq => ?_)
      have hSh := HS.out _ _ _ k7 (by repeat (first | with_reducible exact List.mem_append_right _ ZMB | with_reducible exact List.mem_cons_self | with_reducible apply List.mem_cons_of_mem)) (by repeat (first | with_reducible exact List.mem_append_right _ ZMB | with_reducible exact List.mem_cons_self | with_reducible apply List.mem_cons_of_mem)) ZMB
      clear hKK KK hSq
      refine ZPT ?_
      replace k7 := k7.mid
      refine wpAnyP.on 12 rfl fun KK hKK => ?_
      refine k7.appOp Ho.out rr_sized _ _ 22 rfl _ 88 Try.underlying22 row_made rfl rfl (⟨A7, m, c7, ofF m (fun i => fvQ (- rwA2 ls i k)), vg k⟩ : Rr) g _ (by exact List.mem_cons_self) rfl (by rw [ofF_len]; omega) (by omega) ?_
      intro v8 X8 W8 ho8 k8
      replace k8 := k8.cutm
      clear k7 k6
      rw [ofF_put] at ho8
      obtain ⟨A8, n8, c8, rfl⟩ := ho8.shape
      have Ho8 := Lib.hid ho8
      clear ho8
      refine hKK.out _ _ (fun _ => HS.out _ _ _ k8 (by repeat (first | with_reducible exact List.mem_append_right _ ZMB | with_reducible exact List.mem_cons_self | with_reducible apply List.mem_cons_of_mem)) (by repeat (first | with_reducible exact List.mem_append_right _ ZMB | with_reducible exact List.mem_cons_self | with_reducible apply List.mem_cons_of_mem)) ZMB) (fun hSq => ?_)
      have hSh := HS.out _ _ _ k8 (by repeat (first | with_reducible exact List.mem_append_right _ ZMB | with_reducible exact List.mem_cons_self | with_reducible apply List.mem_cons_of_mem)) (by repeat (first | with_reducible exact List.mem_append_right _ ZMB | with_reducible exact List.mem_cons_self | with_reducible apply List.mem_cons_of_mem)) ZMB
      clear hKK KK hSq
      refine ZPT ?_
      refine wpAnyP.tkU 13 rfl ?_
      refine wpAnyP.onF 14 rfl fun KK hKK => ?_
      have zz := k8.thaw (g := b2) (cs := #[.slice A4 m c4, .slice Ah nh ch]) (t := 58) (by repeat (first | with_reducible exact List.mem_append_right _ ZMB | with_reducible exact List.mem_cons_self | with_reducible apply List.mem_cons_of_mem))
      go_simp
      have K9 := ((k8.perm (L' := ((b2, #[.slice A4 m c4, (.slice Ah nh ch)], 58) : Blk) :: (X8 ++ [((b1, #[.slice none 0 0, .slice none 0 0], 58) : Blk), ((b0, #[.slice A n cap, .slice A' m cap'], 58) : Blk)])) List.perm_middle.symm).setB1 (u1 := .slice A8 n8 c8) (Upd.head _)).mid
      refine hKK.out _ _ ?_
      clear hKK KK zz hSh HS
      refine ZPT ?_
      refine ⟨by kernel_rfl, ?_⟩
      generalize W8.setCell ⟨b2, 1, none⟩ (.slice A8 n8 c8) = V9 at K9 ⊢
      have hy : (⟨(⟨A7, m, c7, ofF m (fun i => fvQ (- rwA2 ls i k)), vg k⟩ : Rr).on, _⟩ : Hl).ok (X8 ++ [((b2, #[.slice A4 m c4, (.slice A8 n8 c8)], 58) : Blk), ((b1, #[.slice none 0 0, .slice none 0 0], 58) : Blk), ((b0, #[.slice A n cap, .slice A' m cap'], 58) : Blk)]) V9 := (K9.okAt (x := ⟨rfQ A7 m c7 (ofF m fun i => fvQ (- rwA2 ls i k)), betS W5 W7⟩) ZMB).and (K9.okR (x := vg k) ZMB ZMB)
      have K10 := K9.rrAdd (u := u) (S := S) ZMB _ _ hy
      have HK := Lib.hid (K10.lessS (D' := [_, (⟨fxP (some ⟨gb, go, none⟩) n c6 vg, fxS (some ⟨gb, go, none⟩) n vg⟩ : Hl), (⟨rfQ A4 m c4 (ofF m fun i => fvQ (-rwB2 ls false i)), betS W3 W4⟩ : Hl)]) (by repeat (first | with_reducible exact List.Sublist.refl _ | with_reducible apply List.Sublist.cons_cons | with_reducible apply List.Sublist.cons)))
      have HV2 := Lib.hid (show ∀ j, j < k + 1 → (putF u k (⟨A7, m, c7, ofF m (fun i => fvQ (- rwA2 ls i k)), vg k⟩ : Rr) j).rv = ⟨ofF m fun i => fvQ (- rwA2 ls i j), fvQ (- fvR l j)⟩ from fun j hj => by
        by_cases e : j = k
        · rw [e, putF_same]
          show (⟨ofF m (fun i => fvQ (- rwA2 ls i k)), (vg k).fv⟩ : Rv) = _
          rw [HVg.out k hlt]
        · rw [putF_other e]
          exact HV.out j (by omega))
      clear K9 K10 k8 hy hf7 hb7 HV Ho
      go_wp2_with fail
      go_roundg (n - (k + 1))
      case rel => exact ⟨k + 1, _, _, _, X8, hlt, rfl, by go_num, HV2, Ho8, HK.out⟩
      case measure => omega
    · have e : n = k := by omega
      subst e
      have hltd : decide (n < n) = false := decide_eq_false hlt
      obtain ⟨Ao, co, rfl, -⟩ := Ho.out.rdR K ZMB (by omega)
      replace K : St w (((b2, #[.slice A4 m c4, (.slice Ao n co)], 58) : Blk) :: ((b1, #[.slice none 0 0, .slice none 0 0], 58) : Blk) :: ((b0, #[.slice A n cap, .slice A' m cap'], 58) : Blk) :: X) _ _ := K.perm (by exact List.perm_append_comm (l₁ := [_, _, _]) (l₂ := X))
      have o0 := (K.blk (b := b2) (cs := #[.slice A4 m c4, .slice Ao n co]) (t := 58) ZMB).cell (j := 0) rfl
      have o1 := (K.blk (b := b2) (cs := #[.slice A4 m c4, .slice Ao n co]) (t := 58) ZMB).cell (j := 1) rfl
      go_wp2_with (apply K.storeA; rfl; rfl; rfl; rfl; rfl; (repeat (first | with_reducible apply Upd.head | with_reducible apply Upd.tail)); exact prog_size; rfl; rfl; rfl; clear K c0 c1 o0 o1; intro W5 K)
      have hB := K.blk (b := b1) (cs := #[.slice A4 m c4, .slice Ao n co]) (t := 58) ZMB
      have z0 := hB.cell (j := 0) rfl
      have z1 := hB.cell (j := 1) rfl
      have K2 : St w (X ++ [((b2, #[.slice A4 m c4, .slice Ao n co], 58) : Blk), ((b1, #[.slice A4 m c4, .slice Ao n co], 58) : Blk), ((b0, #[.slice A n cap, .slice A' m cap'], 58) : Blk)]) _ W5 := K.perm (by exact List.perm_append_comm (l₁ := X) (l₂ := [_, _, _]))
      obtain ⟨Ao', co', hv, hro⟩ := Ho.out.rdR K2 ZMB (by omega)
      injection hv with e1 e2 e3
      subst e1 e3
      rw [ofF_congr (g := fun j => (⟨ofF m fun i => fvQ (- rwA2 ls i j), fvQ (- fvR l j)⟩ : Rv)) (fun i hi => HV.out i hi)] at hro
      have HE := Lib.hid (show ∃ A2 c2 A3 c3, Ending.returned (.agg #[.slice A4 m c4, .slice Ao n co]) = .returned (.agg #[.slice A2 m c2, .slice A3 n c3]) ∧ RdF W5 W5.heap.size A2 m c2 (ofF m fun i => fvQ (- rwB2 ls false i)) ∧ RdR W5 W5.heap.size A3 n c3 (ofF n fun j => ⟨ofF m fun i => fvQ (- rwA2 ls i j), fvQ (- fvR l j)⟩) ∧ Below w.heap.size w W5 from ⟨_, _, _, _, rfl, K2.getQ ZMB, hro, K2.1⟩)
      clear Ho K K2 hro HV hlt hB
      exact bodyPost_ret (v := .agg #[.slice A4 m c4, .slice Ao n co]) (by simp [results, Try.results31, go_sem, z0, z1]) rfl HE.out
end Go.Proofs.Ytdlcglndhhndpaa
