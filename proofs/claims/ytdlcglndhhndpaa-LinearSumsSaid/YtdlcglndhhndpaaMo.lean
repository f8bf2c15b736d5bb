/- Plain law: what the functions of package linear say of three small unknowns. Conditions stand in each theorem. -/
import Derived.Test.YtdlcglndhhndpaaMh
import Derived.Test.YtdlcglndhhndpaaMk
namespace Go.Proofs.Ytdlcglndhhndpaa
open Go.RowKit
set_option linter.unusedVariables false
set_option linter.unusedSimpArgs false

theorem few_pt {x : Fv} (hk : x.ok = true) {d : Nat} (h : fewV (d : Int) x = true) : Pt d x.rat := by
  unfold fewV fewF at h
  rw [Bool.and_eq_true] at h
  have h1 : x.l.length ≤ d := by have := of_decide_eq_true h.1; omega
  have h2 : x.m.length ≤ d := by have := of_decide_eq_true h.2; omega
  have e := fv_form hk
  rw [e] at h1 h2
  exact ⟨digs_len.1 h1, digs_len.1 h2⟩
theorem Pt.fits {q : Rat} {k : Nat} (h : Pt k q) (hk : k ≤ 60) : fitsF q = true := by
  unfold fitsF
  rw [fits_lt h.1 hk, fits_lt (z := (q.den : Int)) (by have := h.2; omega) hk]
  rfl
theorem few_len {M d : Int} {l : List Rv} (h : few6R M d l = true) : (l.length : Int) ≤ M := by
  unfold few6R at h
  rw [Bool.and_eq_true] at h
  exact of_decide_eq_true h.1
theorem right_row {n : Nat} {l : List Rv} (h : rightL (n : Int) l = true) {i : Nat} {x : Rv} (hx : l[i]? = some x) : x.a.length = n ∧ x.b.ok = true ∧ (∀ y ∈ x.a, y.ok = true) := by
  unfold rightL at h
  rw [Bool.and_eq_true, List.all_eq_true] at h
  have h1 := h.2 x (List.mem_of_getElem? hx)
  unfold rowF at h1
  rw [Bool.and_eq_true, Bool.and_eq_true, decide_eq_true_eq, List.all_eq_true] at h1
  exact ⟨by omega, h1.1.2, h1.2⟩
theorem few_row {M : Int} {d : Nat} {l : List Rv} (h : few6R M (d : Int) l = true) {i : Nat} {x : Rv} (hx : l[i]? = some x) : fewV (d : Int) x.b = true ∧ ∀ y ∈ x.a, fewV (d : Int) y = true := by
  unfold few6R at h
  rw [Bool.and_eq_true, List.all_eq_true] at h
  have h1 := h.2 x (List.mem_of_getElem? hx)
  unfold fewRow few6L at h1
  rw [Bool.and_eq_true, Bool.and_eq_true, List.all_eq_true] at h1
  exact ⟨h1.2, h1.1.2⟩
/-- an element of the rows -/
theorem mxR_el {n : Nat} {l : List Rv} {i k : Nat} {x : Rv} (hx : l[i]? = some x) (hn : x.a.length = n) {y : Fv} (hy : x.a[k]? = some y) : mxR l i k = y.rat := mxR_at hx (by
  unfold rowL
  rw [List.getElem?_append_left (List.getElem?_eq_some_iff.1 hy).1]
  exact hy)
theorem mxR_val {n : Nat} {l : List Rv} {i : Nat} {x : Rv} (hx : l[i]? = some x) (hn : x.a.length = n) : mxR l i n = x.b.rat := mxR_at hx (by
  unfold rowL
  rw [List.getElem?_append_right (by omega), hn, Nat.sub_self]
  rfl)
theorem small_mx {n d : Nat} {M : Int} {l : List Rv} (hr : rightL (n : Int) l = true) (hf : few6R M (d : Int) l = true) (hn : l.length = n) : ∀ i k, i < n → k < n + 1 → Pt d (mxR l i k) := fun i k hi hk => by
  have hx : l[i]? = some l[i] := List.getElem?_eq_getElem (by omega)
  obtain ⟨h1, h2, h3⟩ := right_row hr hx
  obtain ⟨g1, g2⟩ := few_row hf hx
  by_cases e : k = n
  · rw [e, mxR_val hx h1]
    exact few_pt h2 g1
  · have hy : (l[i]).a[k]? = some (l[i]).a[k] := List.getElem?_eq_getElem (by omega)
    rw [mxR_el hx h1 hy]
    exact few_pt (h3 _ (List.mem_of_getElem? hy)) (g2 _ (List.mem_of_getElem? hy))
theorem vc_ofF {n i : Nat} {f : Nat → Rat} (hi : i < n) : vcL (ofF n fun i => fvQ (f i)) i = f i := by
  rw [vcL_at (ofF_get hi), fvQ_rat]
theorem ok_ofF {n : Nat} {f : Nat → Rat} (h : ∀ i, i < n → fitsF (f i) = true) : (ofF n fun i => fvQ (f i)).all Fv.ok = true := by
  rw [List.all_eq_true]
  intro x hx
  obtain ⟨j, hj, rfl⟩ := List.mem_iff_getElem.1 hx
  rw [ofF_len] at hj
  have e : (ofF n fun i => fvQ (f i))[j]'(by rw [ofF_len]; exact hj) = fvQ (f j) := by
    have := ofF_get (f := fun i => fvQ (f i)) hj
    rw [List.getElem?_eq_getElem (by rw [ofF_len]; exact hj)] at this
    exact Option.some.inj this
  rw [e]
  exact fvQ_ok (h j hj)
theorem dotK_congr {a x y : Nat → Rat} : ∀ {n : Nat}, (∀ k, k < n → x k = y k) → dotK a x n = dotK a y n
  | 0, _ => rfl
  | n + 1, h => by
    rw [dotK, dotK, dotK_congr (fun k hk => h k (by omega)), h n (by omega)]
theorem dotK_congr2 {a b x : Nat → Rat} : ∀ {n : Nat}, (∀ k, k < n → a k = b k) → dotK a x n = dotK b x n
  | 0, _ => rfl
  | n + 1, h => by
    rw [dotK, dotK, dotK_congr2 (fun k hk => h k (by omega)), h n (by omega)]
theorem chkM_congr {n : Nat} {m m' : Mx} {x y : Nat → Rat} (hm : ∀ i k, i < n → k < n + 1 → m i k = m' i k) (hx : ∀ k, k < n → x k = y k) : chkM n m x = chkM n m' y := by
  unfold chkM
  rw [Bool.eq_iff_iff, List.all_eq_true, List.all_eq_true]
  constructor
  · intro h i hi
    have hi' := List.mem_range.1 hi
    have h1 := of_decide_eq_true (h i hi)
    rw [dotK_congr hx, dotK_congr2 (b := m' i) (fun k hk => hm i k hi' (by omega)), hm i n hi' (by omega)] at h1
    exact decide_eq_true h1
  · intro h i hi
    have hi' := List.mem_range.1 hi
    have h1 := of_decide_eq_true (h i hi)
    rw [← dotK_congr hx, ← dotK_congr2 (a := m i) (fun k hk => hm i k hi' (by omega)), ← hm i n hi' (by omega)] at h1
    exact decide_eq_true h1
theorem ok_same {l m : List Fv} (h : ∀ x ∈ l, x.ok = true) (h' : ∀ x ∈ m, x.ok = true) (hl : l.length = m.length) (e : ∀ k, k < l.length → vcL l k = vcL m k) : l = m := by
  apply List.ext_getElem hl
  intro k h1 h2
  have e1 := fv_form (h _ (List.getElem_mem h1))
  have e2 := fv_form (h' _ (List.getElem_mem h2))
  have e3 := e k h1
  rw [vcL_at (List.getElem?_eq_getElem h1), vcL_at (List.getElem?_eq_getElem h2)] at e3
  rw [e1, e2, e3]
theorem hom_right {N : Int} {l : List Rv} (h : rightL N l = true) : rightL N (l.map homR) = true := by
  unfold rightL at h ⊢
  rw [Bool.and_eq_true, List.all_eq_true] at h
  rw [Bool.and_eq_true, List.all_eq_true, List.length_map]
  refine ⟨h.1, fun x hx => ?_⟩
  obtain ⟨y, hy, rfl⟩ := List.mem_map.1 hx
  have h1 := h.2 y hy
  unfold rowF homR at *
  rw [Bool.and_eq_true, Bool.and_eq_true] at h1 ⊢
  exact ⟨⟨h1.1.1, fvQ_ok fitsF_zero⟩, h1.2⟩
theorem hom_mx {n : Nat} {l : List Rv} (h : rightL (n : Int) l = true) (hn : l.length = n) : ∀ i k, i < n → k < n + 1 → mxR (l.map homR) i k = homM n (mxR l) i k := fun i k hi hk => by
  have hx : l[i]? = some l[i] := List.getElem?_eq_getElem (by omega)
  obtain ⟨h1, h2, h3⟩ := right_row h hx
  have hx2 : (l.map homR)[i]? = some (homR l[i]) := by rw [List.getElem?_map, hx]; rfl
  unfold homM
  by_cases e : k = n
  · rw [if_pos e, e, mxR_val hx2 h1]
    exact fvQ_rat 0
  · have hy : (l[i]).a[k]? = some (l[i]).a[k] := List.getElem?_eq_getElem (by omega)
    rw [if_neg e, mxR_el hx h1 hy]
    exact mxR_el hx2 h1 hy
section
variable {n : Nat} {l : List Rv}
theorem only_n (hf : few6R 3 1 l = true) (hn : l.length = n) : n ≤ 3 := by have := few_len hf; omega
/-- the elimination of a small system: one solution, or a kernel -/
theorem only_law (hr : rightL (n : Int) l = true) (hf : few6R 3 1 l = true) (hn : l.length = n) : (∃ m', elimF n true n (mxR l) [] = some (m', []) ∧ solL (n : Int) l = (ofF n fun i => fvQ (m' i n), 0) ∧ kerL (n : Int) l = ([], false) ∧ checkL (n : Int) l (ofF n fun i => fvQ (m' i n)) = true ∧ (∀ x, checkL (n : Int) l x = true → x = ofF n fun i => fvQ (m' i n)) ∧ (∀ i, i < n → fitsF (m' i n) = true)) ∨
    (∃ m' c, elimF n true n (mxR l) [] = some (m', [c]) ∧ c < n ∧ solL (n : Int) l = ([], 16) ∧ kerL (n : Int) l = (ofF n fun i => fvQ (kerV m' c i), true) ∧ kerV m' c c ≠ 0 ∧ (∀ i, i < n → fitsF (kerV m' c i) = true) ∧ checkL (n : Int) (l.map homR) (ofF n fun i => fvQ (kerV m' c i)) = true) := by
  have hn3 := only_n hf hn
  have hS : SmallM n (mxR l) := small_mx (d := 1) hr hf hn
  obtain ⟨m', free, he⟩ := small_elim hn3 hS true
  obtain ⟨hU1, hU2⟩ := elim_uni hn3 n (mxR l) m' free (Nat.le_refl _) (by rw [Nat.sub_self]; exact small_uni hn3 hS) he
  rcases elim_fact he with ⟨rfl, h1, h2⟩ | ⟨c, rfl, hc, h1, h2⟩
  · left
    have hU := hU1 rfl
    have hfit : ∀ i, i < n → fitsF (m' i n) = true := fun i hi => by
      by_cases e3 : n = 3
      · subst e3
        exact (cramer3 (small_uni hn3 hS) h2 ((h1 _).2 fun i hi => rfl) i hi).fits (by omega)
      · exact (hU.pt (j := 19) (by have := hB_le (c := n) (by omega); omega) hi (by omega)).fits (by omega)
    refine ⟨m', he, ?_, ?_, ?_, fun x hx => ?_, hfit⟩
    · unfold solL
      rw [if_pos hr, hn, he]
      rfl
    · unfold kerL
      rw [if_pos hr, hn, he]
      rfl
    · unfold checkL
      rw [hr, ofF_len, decide_eq_true rfl, ok_ofF hfit, hn, chkM_congr (fun _ _ _ _ => rfl) (fun k hk => vc_ofF hk), check_sol hn3 hS he]
      rfl
    · unfold checkL at hx
      rw [Bool.and_eq_true, Bool.and_eq_true, Bool.and_eq_true, decide_eq_true_eq, List.all_eq_true, hn] at hx
      have hs := (h1 (vcL x)).1 (chkM_sol hx.2.2)
      have hok := List.all_eq_true.1 (ok_ofF hfit)
      exact ok_same hx.2.1.2 hok (by rw [ofF_len]; omega) (fun k hk => by
        rw [vc_ofF (by omega)]
        exact hs k (by omega))
  · right
    have hU := hU2 c rfl
    have hfit : ∀ i, i < n → fitsF (kerV m' c i) = true := fun i hi => by
      unfold kerV
      split
      · exact Pt.one.fits (by omega)
      · split
        · exact fitsF_neg ((hU.pt (j := 19) (by have := hB_le (c := c) (by omega); omega) hi (by omega)).fits (by omega))
        · exact fitsF_zero
    refine ⟨m', c, he, hc, ?_, ?_, h2, hfit, ?_⟩
    · unfold solL
      rw [if_pos hr, hn, he]
      rfl
    · unfold kerL
      rw [if_pos hr, hn, he]
      rfl
    · unfold checkL
      rw [hom_right hr, ofF_len, decide_eq_true rfl, ok_ofF hfit, List.length_map, hn, chkM_congr (m' := homM n (mxR l)) (hom_mx hr hn) (fun k hk => vc_ofF hk), check_ker hn3 hS he]
      rfl
end
end Go.Proofs.Ytdlcglndhhndpaa
