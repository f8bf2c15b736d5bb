/- Walk over Solve of package idle. Conditions stand in the theorem. -/
import Derived.Test.YtmcamadcoglodaaQ10
import Derived.Test.YtmcamadcoglodaaQ3
namespace Go.Proofs.Ytmcamadcoglodaa
open Go.RowKit
set_option linter.unusedVariables false

/-- what Solve returns for right costs: the first of the cheapest assignments, with its certificate -/
def SolveYes (w : World) (m n : Nat) (cl : List (List Int)) (e : Ending) (w' : World) : Prop :=
  ∃ (T : Nat → Nat) (R K : Nat → Int) (g1 g2 g3 : Nat), e = .returned (.tuple #[.agg #[.slice (some ⟨g1, 0, none⟩) m m, .slice (some ⟨g2, 1, none⟩) m m, .slice (some ⟨g3, 1, none⟩) n n], .int .i64 0]) ∧
    RdI w' w'.heap.size (some ⟨g1, 0, none⟩) m m (ofF m (fun r => ((T r : Nat) : Int))) ∧ RdI w' w'.heap.size (some ⟨g2, 1, none⟩) m m (ofF m R) ∧ RdI w' w'.heap.size (some ⟨g3, 1, none⟩) n n (ofF n K) ∧
    First m n (tb cl) T ∧ Ce m n (tb cl) T R K ∧ (∀ r, r < m → 0 ≤ R r ∧ R r ≤ 1000000000) ∧ (∀ k, k < n → -1000000000 ≤ K k ∧ K k ≤ 0) ∧ Below w.heap.size w w'
def SolvePost (w : World) (cl : List (List Int)) (e : Ending) (w' : World) : Prop :=
  (rightC cl = false ∧ e = .returned (.tuple #[.agg #[.slice none 0 0, .slice none 0 0, .slice none 0 0], .int .i64 1]) ∧ Below w.heap.size w w') ∨ (rightC cl = true ∧ SolveYes w cl.length (wid cl) cl e w')
theorem right_tab {cl : List (List Int)} (h : rightC cl = true) : Tab cl cl.length (wid cl) 1000000000 := by
  obtain ⟨h1, h2, h3⟩ := rightC_iff.1 h
  refine ⟨rfl, fun r hr => (rowC_iff.1 (h3 r hr)).1, fun r k hr hk => ?_, by omega, by omega⟩
  have h4 := rowC_iff.1 (h3 r hr)
  exact inB_iff.1 (h4.2 k (by omega))
section
variable {m n : Nat} {cl : List (List Int)} {T : Nat → Nat} {M : Int}
theorem cl_costT : ∀ j, j ≤ m → costT cl (ofF m (fun r => ((T r : Nat) : Int))) j = sumN (fun r => tb cl r (T r)) j := fun j hj =>
  sumN_congr j fun r hr => by rw [toL_at (show r < m by omega), Int.toNat_natCast]
theorem cl_sums (ht : Tab cl m n M) (hT : ∀ r, r < m → T r < n) : Sums cl (ofF m (fun r => ((T r : Nat) : Int))) := by
  refine ⟨fun i hi => ?_, fun j hj => ?_⟩
  · rw [ofF_len] at hi
    refine ⟨by rw [ht.len]; exact hi, by rw [toL_at hi]; omega, ?_⟩
    rw [toL_at hi, ht.row i hi]
    have := hT i hi
    omega
  · rw [ofF_len] at hj
    rw [cl_costT j hj]
    have h1 := sumN_bd (M := M) ht.hM.1 j (fun r hr => ht.bd r (T r) (by omega) (hT r (by omega)))
    have h2 : (j : Int) * M ≤ 20 * M := Int.mul_le_mul_of_nonneg_right (by have := ht.mn; omega) ht.hM.1
    have := ht.hM
    omega
theorem fx_bd {i : Nat} (ht : Tab cl m n 1000000000) : ∀ r k, r < m → k < n → 0 ≤ fx (tb cl) T i r k ∧ fx (tb cl) T i r k ≤ 68719476736 := fun r k hr hk => by
  unfold fx
  have := ht.bd r k hr hk
  split <;> omega
/-- row i allows only k -/
theorem fx_upd {i k : Nat} : ∀ r q, q < n → updR (fx (tb cl) T i) i (onlyF k (fx (tb cl) T i i) n) r q = fx (tb cl) (fun q => if q = i then k else T q) (i + 1) r q := fun r q hq => by
  unfold updR
  by_cases e : r = i
  · subst e
    simp only [if_true]
    unfold onlyF fx
    by_cases e2 : q = k
    · subst e2
      rw [if_neg (by omega), if_neg (by omega), if_neg (by simp)]
    · rw [if_pos ⟨hq, e2⟩, if_pos ⟨by omega, by simpa using e2⟩]
  · simp only [if_neg e]
    unfold fx
    by_cases e2 : r < i ∧ q ≠ T r
    · rw [if_pos e2, if_pos ⟨by omega, by simp only [if_neg e]; exact e2.2⟩]
    · rw [if_neg e2, if_neg (fun h => e2 ⟨by omega, by have := h.2; simp only [if_neg e] at this; exact this⟩)]
theorem fx_next {i : Nat} : ∀ r q, q < n → updR (fx (tb cl) T i) i (onlyF (T i) (fx (tb cl) T i i) n) r q = fx (tb cl) T (i + 1) r q := fun r q hq => by
  rw [fx_upd r q hq]
  unfold fx
  by_cases e : r = i
  · subst e; simp
  · simp only [if_neg e]
end
theorem Hb.set0 {w : World} {g : Nat} {a b c v : Value} {t : TypeId} (h : Hb w g #[a, b, c] t) : Hb (w.setCell ⟨g, 0, none⟩ v) g #[v, b, c] t := by
  unfold Hb at h ⊢
  unfold World.setCell
  simp only
  rw [Array.getElem?_modify, if_pos rfl, h]
  rfl
theorem Hb.keptS {S : Nat → Prop} {w w' : World} {g : Nat} {cs : Array Value} {t : TypeId} (h : Hb w g cs t) (hk : Kept S w w') (hs : ¬ S g) : Hb w' g cs t := (hk.block g h.lt hs).trans h
theorem ofF_take {α : Type} {m i : Nat} {f : Nat → α} (hi : i ≤ m) : (ofF m f).take i = ofF i f := by
  apply List.ext_getElem?
  intro j
  by_cases hj : j < i
  · rw [List.getElem?_take, if_pos hj, ofF_get (by omega), ofF_get hj]
  · rw [List.getElem?_eq_none (by rw [List.length_take, ofF_len]; omega), List.getElem?_eq_none (by rw [ofF_len]; omega)]
theorem has_take {m i k : Nat} {T : Nat → Nat} (hi : i ≤ m) : ((ofF m (fun r => ((T r : Nat) : Int))).take i).all (fun x => decide (x ≠ (k : Int))) = decide (∀ q, q < i → T q ≠ k) := by
  rw [ofF_take hi, Bool.eq_iff_iff, List.all_eq_true, decide_eq_true_eq]
  constructor
  · intro h q hq e
    have := h (T q : Int) (List.mem_of_getElem? (ofF_get hq))
    rw [decide_eq_true_eq] at this
    exact this (by rw [e])
  · intro h x hx
    obtain ⟨q, hq, rfl⟩ := ofF_mem hx
    rw [decide_eq_true_eq]
    have := h q hq
    omega
theorem list_gi {l : List Int} {n : Nat} (h : l.length = n) : l = ofF n (gi l) := by
  apply List.ext_getElem?
  intro j
  by_cases hj : j < n
  · rw [ofF_get hj, List.getElem?_eq_getElem (by omega), gi_eq (List.getElem?_eq_getElem (by omega))]
  · rw [List.getElem?_eq_none (by omega), List.getElem?_eq_none (by rw [ofF_len]; omega)]
theorem rows_size : (Try.prog.info? 23).map (·.size) = some 1 := by kernel_rfl
theorem rows_info : (Try.prog.info? 23).map (fun i => (i.zero, i.size, i.bytes)) = some (some (.slice none 0 0), 1, 24) := by kernel_rfl
set_option maxRecDepth 100000 in
set_option maxHeartbeats 2000000 in
theorem solve_any (A : Option Addr) (m cap : Nat) (cl : List (List Int)) (w : World) (hl : RdII w w.heap.size A m cap cl) :
    Calls Try.prog 9 #[.slice A m cap] w (SolvePost w cl) := by
  have hlen := hl.len
  have Hright := Lib.hid (fun w h => right_any A m cap cl w h)
  cases hr : rightC cl
  · have hpost : ∀ w', Below w.heap.size w w' → SolvePost w cl (.returned (.tuple #[.agg #[.slice none 0 0, .slice none 0 0, .slice none 0 0], .int .i64 1])) w' := fun w' h => Or.inl ⟨hr, rfl, h⟩
    have Hpost := Lib.hid hpost; have Hr := Lib.hid hr
    have Hl := Lib.hid hl
    clear hpost hr hl hlen
    generalize SolvePost w cl = Q at *
    go_enter Try.func9, Try.ntmps9
    go_wp2_with fail
    have hbA := (Below.refl w.heap.size w).alloc (Nat.le_refl _) (.cells #[.slice none 0 0, .slice none 0 0, .slice none 0 0] 25)
    refine (Hright.out _ (Hl.out.up ii_lasts hbA)).mono ?_
    rw [Hr.out]
    rintro e w1 ⟨rfl, hb1⟩
    have pr1 : Hb w1 w.heap.size #[.slice none 0 0, .slice none 0 0, .slice none 0 0] 25 := (Hb.new w _ _).below hb1
    have hb01 := hbA.trans (hb1.mono hbA.size)
    have hg9 := grown_row w1 w.heap.size #[.slice none 0 0, .slice none 0 0, .slice none 0 0]
    have hp9 := pr1.cells3 #[.slice none 0 0, .slice none 0 0, .slice none 0 0]
    have hb9 := hb01.grown hg9 hb01.size (by intro q hq; cases hq; exact Nat.le_refl _)
    have hone : (#[.slice none 0 0, .slice none 0 0, .slice none 0 0] : Array Value).all (fun x => x.oneCell') = true := by simp [Value.oneCell']
    clear hg9 hb01 hb1 hbA
    go_wp2_with (first
      | (refine wpList_store_row rfl _ _ _ rfl w.heap.size #[.slice none 0 0, .slice none 0 0, .slice none 0 0] rfl rfl 25 _ pr1 match_size rfl hone ?_
         generalize w1.setRow w.heap.size #[.slice none 0 0, .slice none 0 0, .slice none 0 0] = w9 at *))
    have z0 : w9.cell? ⟨w.heap.size, 0, none⟩ = some (.slice none 0 0) := hp9.cell rfl
    have z1 : w9.cell? ⟨w.heap.size, 1, none⟩ = some (.slice none 0 0) := hp9.cell rfl
    have z2 : w9.cell? ⟨w.heap.size, 2, none⟩ = some (.slice none 0 0) := hp9.cell rfl
    refine bodyPost_ret (v := .tuple #[.agg #[.slice none 0 0, .slice none 0 0, .slice none 0 0], .int .i64 1]) (by simp [results, Try.results9, go_sem, z0, z1, z2]) rfl ?_
    exact Hpost.out _ hb9
  have htab := right_tab hr
  have hpost : ∀ e w', SolveYes w cl.length (wid cl) cl e w' → SolvePost w cl e w' := fun e w' h => Or.inr ⟨hr, h⟩
  rw [hlen] at htab hpost
  obtain ⟨n, hn⟩ : ∃ n, n = wid cl := ⟨_, rfl⟩
  rw [← hn] at htab hpost
  have Hr := Lib.hid hr; have Hpost := Lib.hid hpost; have Htab := Lib.hid htab
  obtain ⟨q1, q2, q3, q4⟩ := htab.mn
  have Hl := Lib.hid hl
  have hcaps := hl.caps
  clear hr hpost htab hn hlen hl
  generalize SolvePost w cl = Q at *
  go_enter Try.func9, Try.ntmps9
  go_wp2_with fail
  have hbA := (Below.refl w.heap.size w).alloc (Nat.le_refl _) (.cells #[.slice none 0 0, .slice none 0 0, .slice none 0 0] 25)
  refine (Hright.out _ (Hl.out.up ii_lasts hbA)).mono ?_
  rw [Hr.out]
  rintro e w1 ⟨rfl, hb1⟩
  have pr1 : Hb w1 w.heap.size #[.slice none 0 0, .slice none 0 0, .slice none 0 0] 25 := (Hb.new w _ _).below hb1
  have hb01 := hbA.trans (hb1.mono hbA.size)
  obtain ⟨gr, hgr⟩ : ∃ g, g = w.heap.size := ⟨_, rfl⟩
  rw [← hgr] at pr1 ⊢
  have HG := Lib.hid hgr
  have hsz1 : w.heap.size + 1 ≤ w1.heap.size := by have := pr1.lt; omega
  clear hgr hbA hb1
  go_wp2_with fail
  refine (prices_any A cap cl m n 1000000000 w1 (Hl.out.up ii_lasts hb01) Htab.out).mono ?_
  intro e w2 hp
  obtain ⟨T0, R, K, gT, g2, g3, rfl, hT, rR, rK, hce, hRb, hKb, hb2⟩ := hp
  have Hce := Lib.hid hce; have HRb := Lib.hid hRb; have HKb := Lib.hid hKb
  have hb02 := hb01.trans (hb2.mono hb01.size)
  have pr2 := pr1.below hb2
  clear hce hRb hKb pr1
  have hbM := (Below.refl w2.heap.size w2).alloc (Nat.le_refl _) (.cells #[.slice (some ⟨gT, 0, none⟩) m m, .slice (some ⟨g2, 1, none⟩) m m, .slice (some ⟨g3, 1, none⟩) n n] 25)
  have pm := Hb.new w2 #[.slice (some ⟨gT, 0, none⟩) m m, .slice (some ⟨g2, 1, none⟩) m m, .slice (some ⟨g3, 1, none⟩) n n] 25
  have hT3 := hT.below hbM
  have rR3 := rR.up (flat_lasts _) hbM
  have rK3 := rK.up (flat_lasts _) hbM
  have pr3 := pr2.below hbM
  have hb03 := hb02.trans (hbM.mono hb02.size)
  have hgTm : gT < w2.heap.size := (hT.lt gT rfl).2
  have hl3 := Hl.out.up ii_lasts hb03
  have hg23 : g2 < w2.heap.size ∧ g3 < w2.heap.size := by
    obtain ⟨b, off, hA, hb, _⟩ := rR.2.2.2 (by omega)
    obtain ⟨b', off', hA', hb', _⟩ := rK.2.2.2 (by omega)
    injection hA with hA; injection hA with hA
    injection hA' with hA'; injection hA' with hA'
    omega
  have hszM : w2.heap.size < (w2.alloc (.cells #[.slice (some ⟨gT, 0, none⟩) m m, .slice (some ⟨g2, 1, none⟩) m m, .slice (some ⟨g3, 1, none⟩) n n] 25)).heap.size := by simp
  go_wp2_with fail
  generalize (w2.alloc (.cells #[.slice (some ⟨gT, 0, none⟩) m m, .slice (some ⟨g2, 1, none⟩) m m, .slice (some ⟨g3, 1, none⟩) n n] 25)) = w3 at *
  obtain ⟨gm, hgm⟩ : ∃ g, g = w2.heap.size := ⟨_, rfl⟩
  rw [← hgm] at pm hszM hg23 ⊢
  have hgTm' : gT < gm := by omega
  have hgrm : gr < gm := by rw [hgm]; exact pr2.lt
  obtain ⟨A4, cc4, hv4, r4⟩ := hT3.rd iSized (by rw [ofF_len]; omega)
  rw [ofF_len] at hv4 r4
  injection hv4 with v1 v2 v3
  subst v1 v3
  have hcst := cl_costT (cl := cl) (T := T0) (m := m) m (Nat.le_refl _)
  have hcst2 : costT cl (ofF m (fun r => ((T0 r : Nat) : Int))) m = costF m (tb cl) T0 := hcst
  have Hcst := Lib.hid hcst2
  have hlook := Lib.hid (Look.start Hce.out.1 (fun F hF => Hce.out.least hF))
  have hT3w := hT3.mono (base' := w.heap.size + 1) hsz1
  clear hcst hcst2 hbM hgm rR rK hT hT3 pr2 hgTm v2 hb02 hb2 hb01
  refine (cost_any A _ m cap m m cl _ w3 hl3 r4 (cl_sums Htab.out (fun r hr => Hce.out.1.1 r hr))).mono ?_
  rw [Hcst.out]
  rintro e _ ⟨rfl, rfl⟩
  obtain ⟨L0, hL0⟩ : ∃ L, L = costF m (tb cl) T0 := ⟨_, rfl⟩
  rw [← hL0]
  have HL0 := Lib.hid hL0
  have hmk := run_make_row' (P := Try.prog) 22 23 (.slice none 0 0) 24 Try.underlying22 rows_info rfl .i64 .i64 m (by omega) (by omega)
  have hf0 : Fx (w3.alloc (.cells (madeCells #[.slice none 0 0] m) 23)) w3.heap.size m n 0 w3.heap.size (fun _ => 0) (fun _ => 0) (tb cl) := ⟨by
    have := Own.madeQ (n := m) (e := 23) (base := w3.heap.size) (H := w3.heap.size) rfl rfl (Nat.le_refl _) (by omega)
    simpa using this, fun i hi => absurd hi (by omega), fun i j hi => absurd hi (by omega), fun i hi => absurd hi (by omega)⟩
  have hbF := (Below.refl w3.heap.size w3).alloc (Nat.le_refl _) (.cells (madeCells #[.slice none 0 0] m) 23)
  have hclone := fun A n cap l w hl hn hn2 => clone_any A n cap l w hl hn hn2
  clear hL0 r4
  go_wp2_with fail
  generalize w3.alloc (.cells (madeCells #[.slice none 0 0] m) 23) = w4 at *
  obtain ⟨h, hh⟩ : ∃ g, g = w3.heap.size := ⟨_, rfl⟩
  rw [← hh] at hf0 hbF hszM ⊢
  have Hh := Lib.hid hh
  clear hmk hh
  go_loopg [27] m (fun gk iv wx => ∃ (i : Nat) (rows caps : Nat → Nat) (D : Nat → Nat → Int), i ≤ m ∧ gk = m - i ∧ iv = .int .i64 i ∧ Fx wx h m n i h rows caps D ∧ (∀ r k, r < i → k < n → D r k = tb cl r k) ∧ Below h w3 wx)
  case atStart => exact ⟨0, _, _, _, Nat.zero_le _, rfl, rfl, hf0, (fun r k hr => absurd hr (by omega)), hbF⟩
  case round =>
    clear hf0 hbF
    obtain ⟨i, rows, caps, D, hi, rfl, rfl, hf, hDe, hb⟩ := hrel
    have HDe := Lib.hid hDe
    clear hDe
    by_cases hlt : i < m
    · have hii : (i : Int) < (m : Int) := by omega
      have hi0 : (0 : Int) ≤ (i : Int) := by omega
      obtain ⟨b, off, Ai, ni, capi, xi, rfl, hbB, hxi, c0, ri⟩ := (hl3.below ii_lasts hb (by rw [Hh.out]; exact Nat.le_refl _) (Nat.le_refl _)).atII (k := i) hlt
      have hn' : ni = n := by rw [← ri.len, ← clAt_eq hxi]; exact Htab.out.row i hlt
      subst hn'
      have hxe : xi = ofF ni (tb cl i) := by
        have h1 := list_gi ri.len
        rw [h1]
        have h2 := clAt_eq hxi
        unfold tb
        rw [h2, ← h1]
      rw [hxe] at ri
      clear hxi hxe
      obtain ⟨⟨u0, s0⟩, s1⟩ := hf.spot (i := i) hlt
      go_wp2_with fail
      refine (hclone _ ni capi _ wr (ri.keep (flat_lasts _) hb.size (fun _ _ => rfl)) (by omega) (by omega)).mono ?_
      rintro e w5 ⟨g5, c5, rfl, ho5, hb5⟩
      obtain ⟨⟨u5, s50⟩, s51⟩ := (hf.below hb5).spot (i := i) hlt
      have hf6 := hf.next hlt hb5 ho5 (Nat.le_trans hf.hlt.1 (Nat.le_of_lt hf.hlt.2))
      have hb6 : Below h w3 (w5.setCell ⟨h, i, none⟩ (.slice (some ⟨g5, 0, none⟩) ni c5)) := (hb.trans (hb5.mono (Nat.le_of_lt hf.hlt.2))).setCell (Nat.le_refl _) _
      have hDe6 : ∀ r k, r < i + 1 → k < ni → updR D i (tb cl i) r k = tb cl r k := fun r k hr hk => by
        unfold updR
        by_cases e : r = i
        · rw [if_pos e, e]
        · rw [if_neg e]; exact HDe.out r k (by omega) hk
      have HDe6 := Lib.hid hDe6
      clear hDe6
      go_wp2_with (first
        | (refine wpList_st0 rfl rfl _ _ _ rfl ⟨h, i, none⟩ (.slice (some ⟨g5, 0, none⟩) ni c5) rfl rfl rfl rows_size s50 s51 ?_
           intro w6 hw6
           rw [← hw6] at hf6 hb6
           clear hw6))
      go_roundg (m - (i + 1))
      case rel => exact ⟨i + 1, _, _, _, by omega, rfl, by go_num, hf6, HDe6.out, hb6⟩
      case measure => omega
    · have ei : m = i := by omega
      subst ei
      have hf2 : Fx wr h m n m h rows caps (fx (tb cl) T0 0) := hf.congr fun r k hr hk => by
        rw [HDe.out r k hr hk]
        unfold fx
        rw [if_neg (by omega)]
      have pm2 := pm.below (Hh.out ▸ hb)
      have hT2 := hT3w.below (Hh.out ▸ hb)
      have hkS : Kept (fun b => b = gm) w3 wr := (below_keptAll (Hh.out ▸ hb)).mono (fun _ _ h => False.elim h)
      have hrh : ∀ a, a < m → h ≤ rows a := fun a ha => (hf.rlt ha).1
      have hgTr : ∀ a, a < m → rows a ≠ gT := fun a ha e => by have := hrh a ha; omega
      have Hrh := Lib.hid hrh; have HgTr := Lib.hid hgTr
      clear hf hb pm hT3w hrh hgTr
      have hg0 : gT ≠ gm := by omega
      go_wp2_with fail
      go_loopg [41] m (fun gk iv wx => ∃ (i : Nat) (T : Nat → Nat) (gT' : Nat), i ≤ m ∧ gk = m - i ∧ iv = .int .i64 i ∧ Fx wx h m n m h rows caps (fx (tb cl) T i) ∧ Hb wx gm #[.slice (some ⟨gT', 0, none⟩) m m, .slice (some ⟨g2, 1, none⟩) m m, .slice (some ⟨g3, 1, none⟩) n n] 25 ∧
        Own 1 iEnc wx (w.heap.size + 1) 3 (.slice (some ⟨gT', 0, none⟩) m m) (ofF m (fun r => ((T r : Nat) : Int))) ∧ (∀ a, a < m → rows a ≠ gT') ∧ gT' ≠ gm ∧ Look m n (tb cl) T i 0 ∧ costF m (tb cl) T = L0 ∧ Kept (fun b => b = gm) w3 wx)
      case atStart => exact ⟨0, T0, gT, Nat.zero_le _, rfl, rfl, hf2, pm2, hT2, HgTr.out, hg0, hlook.out, HL0.out.symm, hkS⟩
      case round =>
        clear hf2 pm2 hT2 hg0 hkS
        obtain ⟨i, T, gT', hi, rfl, rfl, hf, pm, hT, hgTr, hgne, hlk, hcost, hkS⟩ := hrel
        have Hlk := Lib.hid hlk; have HgTr' := Lib.hid hgTr; have Hcost := Lib.hid hcost
        clear hlk hgTr hcost
        by_cases hlt : i < m
        · have hii : (i : Int) < (m : Int) := by omega
          have hi0 : (0 : Int) ≤ (i : Int) := by omega
          have hlw : RdII wr w.heap.size A m cap cl := Hl.out.below ii_lasts (hb03.trans (hkS.below hb03.size (fun b e => by have := HG.out; omega))) (Nat.le_refl _) (Nat.le_refl _)
          obtain ⟨b, off, Ai, ni, capi, xi, rfl, hbB, hxi, c0, ri⟩ := hlw.atII (k := i) hlt
          have hn' : n = ni := by rw [← ri.len, ← clAt_eq hxi]; exact (Htab.out.row i hlt).symm
          subst hn'
          have hcapi := ri.caps
          clear hxi ri
          go_wp2_with fail
          go_loopg [49] n (fun gk kv wx => ∃ k : Nat, k ≤ n ∧ gk = n - k ∧ kv = .int .i64 k ∧ Fx wx h m n m h rows caps (fx (tb cl) T i) ∧ Hb wx gm #[.slice (some ⟨gT', 0, none⟩) m m, .slice (some ⟨g2, 1, none⟩) m m, .slice (some ⟨g3, 1, none⟩) n n] 25 ∧
            Own 1 iEnc wx (w.heap.size + 1) 3 (.slice (some ⟨gT', 0, none⟩) m m) (ofF m (fun r => ((T r : Nat) : Int))) ∧ Look m n (tb cl) T i k ∧ Kept (fun b => b = gm) w3 wx)
          case atStart => exact ⟨0, Nat.zero_le _, rfl, rfl, hf, pm, hT, Hlk.out, hkS⟩
          case round =>
            clear hf pm hT hkS Hlk c0
            obtain ⟨k, hk, rfl, rfl, hf, pm, hT, hlk, hkS⟩ := hrel
            have Hlk := Lib.hid hlk
            by_cases hkn : k < n
            case neg =>
              exfalso
              have h1 := hlk.2.2.2 T hlk.1 rfl (fun _ _ => rfl)
              have h2 := hlk.1.1 i hlt
              omega
            clear hlk
            have hkk : (k : Int) < (n : Int) := by omega
            have hk0 : (0 : Int) ≤ (k : Int) := by omega
            obtain ⟨A7, cc7, hv7, r7⟩ := hT.rd iSized (by rw [ofF_len]; omega)
            rw [ofF_len] at hv7 r7
            injection hv7 with v1 v2 v3
            subst v1 v3
            have z0 := pm.cell (j := 0) (u := .slice (some ⟨gT', 0, none⟩) m m) rfl
            have hhas := hasN_any (some ⟨gT', 0, none⟩) i m _ (k : Int) wr (r7.take hi)
            rw [has_take hi] at hhas
            obtain ⟨x0, -⟩ := hT.cellI (i := i) hlt
            have him : (i : Int) ≤ (m : Int) := by omega
            clear r7 v2
            by_cases hu : ∀ q, q < i → T q ≠ k
            case neg =>
              rw [decide_eq_false hu] at hhas
              obtain ⟨q, hq1, hq2⟩ : ∃ q, q < i ∧ T q = k := Classical.byContradiction fun hno => hu fun q hq e => hno ⟨q, hq, e⟩
              have hlk2 := Lib.hid (Hlk.out.used hlt hq1 hq2)
              clear hu hq1 hq2
              go_wp2_with fail
              refine hhas.mono ?_
              rintro e _ ⟨rfl, rfl⟩
              go_wp2_with fail
              go_roundg (n - (k + 1))
              case rel => exact ⟨k + 1, by omega, rfl, by go_num, hf, pm, hT, hlk2.out, hkS⟩
              case measure => omega
            rw [decide_eq_true hu] at hhas
            clear hu
            by_cases htk : T i = k
            · have hlkf : Look m n (tb cl) T (i + 1) 0 := by
                have h1 := Hlk.out
                rw [← htk] at h1
                exact h1.found
              have Hlkf := Lib.hid hlkf
              have hteq : (((T i : Nat) : Int) == (k : Int)) = true := by simp [htk]
              clear hlkf htk
              go_wp2_with fail
              refine hhas.mono ?_
              rintro e _ ⟨rfl, rfl⟩
              clear x0 z0 hhas
              obtain ⟨x0, -⟩ := hT.cellI (i := i) hlt
              have y0 := hf.head hlt hlt
              have z0 := pm.cell (j := 0) (u := .slice (some ⟨gT', 0, none⟩) m m) rfl
              have hTi := Hlkf.out.1.1 i hlt
              have hcap := (hf.row i hlt).capOf (by rw [ofF_len]; omega)
              go_wp2_with fail
              go_still_tail 9, (by kernel_rfl)
              change wpList _ _ _ _ _ wr.drew
              have hrow : Own 1 iEnc wr.drew h 3 (.slice (some ⟨rows i, 0, none⟩) n (caps i)) (ofF n (fx (tb cl) T i i)) := hf.row i hlt
              go_wp2_with fail
              refine (only_any (rows i) n (caps i) h (T i) (fx (tb cl) T i i) wr.drew hrow (by omega) hTi).mono ?_
              rintro e w8 ⟨rfl, ho8, hk8⟩
              have hf8 : Fx w8 h m n m h rows caps (fx (tb cl) T (i + 1)) := (Fx.turn (w := wr.drew) ⟨hf.hdr, hf.row, hf.inj, hf.ne⟩ hlt hk8 ho8).congr fun r q hr hq => fx_next r q hq
              have pm8 := (pm.drew).keptS hk8 (by have := Hrh.out i hlt; intro e; omega)
              have hT8 := (Own.drew hT).keptS hk8 (fun q hq e => by
                have h1 : gT' = q := by simpa [Value.ownBlock] using hq
                exact HgTr'.out i hlt (by omega))
              have hk38 : Kept (fun b => b = gm) w3 w8 := (hkS.drew).trans hk8 (fun b hb e => by
                exfalso
                have := Hrh.out i hlt
                have := Hh.out
                omega)
              clear hk8 ho8 hrow x0 y0 z0
              go_wp2
              go_roundg (m - (i + 1))
              case rel => exact ⟨i + 1, T, gT', by omega, rfl, by go_num, hf8, pm8, hT8, HgTr'.out, hgne, Hlkf.out, Hcost.out, hk38⟩
              case measure => omega
            · have hteq : (((T i : Nat) : Int) == (k : Int)) = false := by simp; omega
              clear htk
              go_wp2_with fail
              refine hhas.mono ?_
              rintro e _ ⟨rfl, rfl⟩
              go_wp2_with fail
              refine (with_any h m n h i k rows caps (fx (tb cl) T i) L0 wr hf (fx_bd Htab.out) ⟨q1, q2, q3, q4⟩ hlt hkn).mono ?_
              intro e w6 hw
              obtain ⟨T7, g7, rfl, has7, hle7, hT6, hf6, hk6⟩ := hw
              have hcc : ∀ G, As m n G → costF m (updR (fx (tb cl) T i) i (onlyF k (fx (tb cl) T i i) n)) G = costF m (fx (tb cl) (fun q => if q = i then k else T q) (i + 1)) G := fun G hG => costF_congr (fun r q _ hq => fx_upd r q hq) hG.1
              have hw7 := Look.with q4 (fun r q hr hq => Htab.out.bd r q hr hq) Hlk.out hlt has7 (fun G hG => by rw [← hcc T7 has7, ← hcc G hG]; exact hle7 G hG)
              rw [← hcc T7 has7, Hcost.out] at hw7
              have Hw7 := Lib.hid hw7
              have hkS6 : Kept (fun b => b = gm) w3 w6 := hkS.trans hk6 (fun b hb e => by
                exfalso
                have := Hrh.out i hlt
                have := Hh.out
                omega)
              have pm6 := pm.keptS hk6 (by have := Hrh.out i hlt; intro e; omega)
              have hT60 := hT.keptS hk6 (fun q hq e => by
                have h1 : gT' = q := by simpa [Value.ownBlock] using hq
                exact HgTr'.out i hlt (by omega))
              have hg7 : ∀ a, a < m → rows a ≠ g7 := fun a ha e => by
                have h1 := (hT6.lt g7 rfl).1
                have h2 := (hf.rlt ha).2
                omega
              have HgT7 := Lib.hid hg7
              have hg7m : g7 ≠ gm := fun e => by
                have h1 := (hT6.lt g7 rfl).1
                have h2 := pm.lt
                omega
              have hszw : w.heap.size + 1 ≤ wr.heap.size := by have h1 := pm.lt; have h2 := HG.out; omega
              have Has7 := Lib.hid has7
              have Hcc := Lib.hid (hcc T7 has7)
              clear hf pm hT hkS hw7 hcc has7 hle7 hk6 hg7 x0 z0 hhas
              obtain ⟨bb, hbb⟩ : ∃ bb : Bool, bb = decide (costF m (updR (fx (tb cl) T i) i (onlyF k (fx (tb cl) T i i) n)) T7 = L0) := ⟨_, rfl⟩
              rw [← hbb]
              cases bb
              · have hlk7 := Lib.hid (Hw7.out.2 (by simpa using hbb.symm))
                clear hbb
                go_wp2_with fail
                go_roundg (n - (k + 1))
                case rel => exact ⟨k + 1, by omega, rfl, by go_num, hf6, pm6, hT60, hlk7.out, hkS6⟩
                case measure => omega
              · have hag := fx_only q4 (fun r q hr hq => Htab.out.bd r q hr hq) Has7.out Hlk.out.1 (T := fun q => if q = i then k else T q) (i := i + 1) (by rw [← Hcc.out, Hcost.out]; simpa using hbb.symm)
                have Hag := Lib.hid (fun r q (hr : r < m) (_ : q < n) => (show fx (tb cl) T i r q = fx (tb cl) T7 i r q by
                  unfold fx
                  by_cases e : r < i
                  · have h1 := hag.1 r (by omega) hr
                    rw [if_neg (by omega)] at h1
                    rw [h1]
                  · rw [if_neg (fun h => e h.1), if_neg (fun h => e h.1)]))
                have hlk7 := Hw7.out.1 (by simpa using hbb.symm)
                have Hlk7 := Lib.hid hlk7
                have Hcost7 := Lib.hid (show costF m (tb cl) T7 = L0 by
                  have h1 := Hlk.out.2.1 T7 hlk7.1
                  have h2 := hlk7.2.1 T Hlk.out.1
                  have h3 := Hcost.out
                  omega)
                obtain ⟨z1, z2⟩ : w6.cell? ⟨gm, 0, none⟩ = some (.slice (some ⟨gT', 0, none⟩) m m) ∧ w6.frozen? ⟨gm, 0, none⟩ = false := by
                  have h6 := pm6
                  unfold Hb at h6
                  exact ⟨pm6.cell rfl, by simp [World.frozen?, h6]⟩
                clear hlk7 hbb hag
                go_wp2_with (first
                  | (refine wpList_st0 rfl rfl _ _ _ rfl ⟨gm, 0, none⟩ (.slice (some ⟨g7, 0, none⟩) m m) rfl rfl rfl rows_size z1 z2 ?_
                     intro w7 hw7
                     have pm7 := pm6.set0 (v := .slice (some ⟨g7, 0, none⟩) m m)
                     rw [← hw7] at pm7
                     have hk67 : Kept (fun b => b = gm) w6 w7 := by rw [hw7]; exact (grown_kept (grown_set _ gm 0 _)).mono (fun b _ e => by injection e with e; exact e.symm)
                     clear hw7))
                have hkS7 := hkS6.trans hk67 (fun _ _ h => h)
                have hf7 : Fx w7 h m n m h rows caps (fx (tb cl) T7 i) := (hf6.keptS hk67 (by have := Hh.out; omega) (fun a ha => by have := Hrh.out a ha; omega)).congr Hag.out
                have hT7 := (hT6.mono (base' := w.heap.size + 1) hszw).keptS hk67 (fun q hq e => by
                  have h1 : g7 = q := by simpa [Value.ownBlock] using hq
                  exact hg7m (by omega))
                clear hf6 hT6 pm6 hkS6 hk67 z1 z2
                obtain ⟨x0, -⟩ := hT7.cellI (i := i) hlt
                have y0 := hf7.head hlt hlt
                have z0 := pm7.cell (j := 0) (u := .slice (some ⟨g7, 0, none⟩) m m) rfl
                have hTi := Hlk7.out.1.1 i hlt
                have hcap := (hf7.row i hlt).capOf (by rw [ofF_len]; omega)
                go_wp2_with fail
                go_still_tail 9, (by kernel_rfl)
                change wpList _ _ _ _ _ w7.drew
                have hrow : Own 1 iEnc w7.drew h 3 (.slice (some ⟨rows i, 0, none⟩) n (caps i)) (ofF n (fx (tb cl) T7 i i)) := hf7.row i hlt
                go_wp2_with fail
                refine (only_any (rows i) n (caps i) h (T7 i) (fx (tb cl) T7 i i) w7.drew hrow (by omega) hTi).mono ?_
                rintro e w8 ⟨rfl, ho8, hk8⟩
                have hf8 : Fx w8 h m n m h rows caps (fx (tb cl) T7 (i + 1)) := (Fx.turn (w := w7.drew) ⟨hf7.hdr, hf7.row, hf7.inj, hf7.ne⟩ hlt hk8 ho8).congr fun r q hr hq => fx_next r q hq
                have pm8 := (pm7.drew).keptS hk8 (by have := Hrh.out i hlt; intro e; omega)
                have hT8 := (Own.drew hT7).keptS hk8 (fun q hq e => by
                  have h1 : g7 = q := by simpa [Value.ownBlock] using hq
                  exact HgT7.out i hlt (by omega))
                have hk38 : Kept (fun b => b = gm) w3 w8 := (hkS7.drew).trans hk8 (fun b hb e => by
                  exfalso
                  have := Hrh.out i hlt
                  have := Hh.out
                  omega)
                clear hk8 ho8 hrow x0 y0 z0
                go_wp2
                go_roundg (m - (i + 1))
                case rel => exact ⟨i + 1, T7, g7, by omega, rfl, by go_num, hf8, pm8, hT8, HgT7.out, hg7m, Hlk7.out, Hcost7.out, hk38⟩
                case measure => omega
        · have ei : m = i := by omega
          subst ei
          have hfirst := Lib.hid Hlk.out.fin
          have hcert := Lib.hid (Hce.out.other Hlk.out.1 (by rw [Hcost.out]; exact HL0.out))
          have pr4 := pr3.keptS hkS (by omega)
          have e0 : wr.cell? ⟨gm, 0, none⟩ = some (.slice (some ⟨gT', 0, none⟩) m m) := pm.cell rfl
          have e1 : wr.cell? ⟨gm, 1, none⟩ = some (.slice (some ⟨g2, 1, none⟩) m m) := pm.cell rfl
          have e2 : wr.cell? ⟨gm, 2, none⟩ = some (.slice (some ⟨g3, 1, none⟩) n n) := pm.cell rfl
          have hRr := rR3.keptS (B' := wr.heap.size) hkS (Nat.le_refl _) hkS.size (fun _ b off e h1 => by injection e with e; injection e with e; omega)
          have hRk := rK3.keptS (B' := wr.heap.size) hkS (Nat.le_refl _) hkS.size (fun _ b off e h1 => by injection e with e; injection e with e; omega)
          obtain ⟨A9, cc9, hv9, rT⟩ := hT.rd iSized (by rw [ofF_len]; omega)
          rw [ofF_len] at hv9 rT
          injection hv9 with v1 v2 v3
          subst v1 v3
          have hg9 := grown_row wr gr #[.slice (some ⟨gT', 0, none⟩) m m, .slice (some ⟨g2, 1, none⟩) m m, .slice (some ⟨g3, 1, none⟩) n n]
          have hp9 := pr4.cells3 #[.slice (some ⟨gT', 0, none⟩) m m, .slice (some ⟨g2, 1, none⟩) m m, .slice (some ⟨g3, 1, none⟩) n n]
          have hb9 := (hb03.trans (hkS.below hb03.size (fun b e => by have := HG.out; omega))).grown hg9 (Nat.le_trans hb03.size hkS.size) (by intro q hq; cases hq; exact Nat.le_of_eq HG.out.symm)
          have hk9 := grown_kept hg9
          have hgTr9 : gT' ≠ gr := by have h1 := (hT.lt gT' rfl).1; have h2 := HG.out; omega
          have hne2 : g2 ≠ gr ∧ g3 ≠ gr := by
            obtain ⟨b, off, x, hA, -, -, hc⟩ := hRr.atI (k := 0) (by omega)
            obtain ⟨b', off', x', hA', -, -, hc'⟩ := hRk.atI (k := 0) (by omega)
            have h1 : wr.cell? ⟨gr, 1, none⟩ = some (.slice none 0 0) := pr4.cell rfl
            injection hA with hA; injection hA with hA hA2
            injection hA' with hA'; injection hA' with hA' hA2'
            subst hA hA2 hA' hA2'
            refine ⟨fun e => ?_, fun e => ?_⟩
            · rw [e, h1] at hc; cases hc
            · rw [e, h1] at hc'; cases hc'
          have hR9 := hRr.keptS (B' := (wr.setRow gr #[.slice (some ⟨gT', 0, none⟩) m m, .slice (some ⟨g2, 1, none⟩) m m, .slice (some ⟨g3, 1, none⟩) n n]).heap.size) hk9 (Nat.le_refl _) hk9.size (fun _ b off e h1 => by
            injection e with e; injection e with e; injection h1 with h1
            exact hne2.1 (by omega))
          have hK9 := hRk.keptS (B' := (wr.setRow gr #[.slice (some ⟨gT', 0, none⟩) m m, .slice (some ⟨g2, 1, none⟩) m m, .slice (some ⟨g3, 1, none⟩) n n]).heap.size) hk9 (Nat.le_refl _) hk9.size (fun _ b off e h1 => by
            injection e with e; injection e with e; injection h1 with h1
            exact hne2.2 (by omega))
          have hT9 := rT.keptS (B' := (wr.setRow gr #[.slice (some ⟨gT', 0, none⟩) m m, .slice (some ⟨g2, 1, none⟩) m m, .slice (some ⟨g3, 1, none⟩) n n]).heap.size) hk9 (Nat.le_refl _) hk9.size (fun _ b off e h1 => by
            injection e with e; injection e with e; injection h1 with h1
            exact hgTr9 (by omega))
          have hone : (#[.slice (some ⟨gT', 0, none⟩) m m, .slice (some ⟨g2, 1, none⟩) m m, .slice (some ⟨g3, 1, none⟩) n n] : Array Value).all (fun x => x.oneCell') = true := by simp [Value.oneCell']
          clear hRr hRk rT hk9 hg9 hf hT pm hkS hne2 v2
          go_wp2_with (first
            | (refine wpList_store_row rfl _ _ _ rfl gr #[.slice (some ⟨gT', 0, none⟩) m m, .slice (some ⟨g2, 1, none⟩) m m, .slice (some ⟨g3, 1, none⟩) n n] rfl rfl 25 _ pr4 match_size rfl hone ?_
               generalize wr.setRow gr #[.slice (some ⟨gT', 0, none⟩) m m, .slice (some ⟨g2, 1, none⟩) m m, .slice (some ⟨g3, 1, none⟩) n n] = w9 at *))
          have z0 : w9.cell? ⟨gr, 0, none⟩ = some (.slice (some ⟨gT', 0, none⟩) m m) := hp9.cell rfl
          have z1 : w9.cell? ⟨gr, 1, none⟩ = some (.slice (some ⟨g2, 1, none⟩) m m) := hp9.cell rfl
          have z2 : w9.cell? ⟨gr, 2, none⟩ = some (.slice (some ⟨g3, 1, none⟩) n n) := hp9.cell rfl
          refine bodyPost_ret (v := .tuple #[.agg #[.slice (some ⟨gT', 0, none⟩) m m, .slice (some ⟨g2, 1, none⟩) m m, .slice (some ⟨g3, 1, none⟩) n n], .int .i64 0]) (by simp [results, Try.results9, go_sem, z0, z1, z2]) rfl ?_
          exact Hpost.out _ _ ⟨T, R, K, gT', g2, g3, rfl, hT9, hR9, hK9, hfirst.out, hcert.out, HRb.out, HKb.out, hb9⟩
end Go.Proofs.Ytmcamadcoglodaa
