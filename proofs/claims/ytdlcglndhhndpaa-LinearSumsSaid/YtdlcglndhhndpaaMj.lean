/- Plain law: other values, and sums of values: what becomes of the solution. Conditions stand in each theorem. -/
import Derived.Test.YtdlcglndhhndpaaMz
namespace Go.Proofs.Ytdlcglndhhndpaa
open Go.RowKit
set_option linter.unusedVariables false
set_option linter.unusedSimpArgs false

/-- a small system is solved, or has no solution; and the solution fits -/
theorem solve_fit {n : Nat} {l : List Rv} (hr : rightL (n : Int) l = true) (hn : l.length = n) (hn3 : n ≤ 3) (hS : SmallM n (mxR l)) :
    (TrivN n (mxR l) ∧ ∃ s : Nat → Rat, solL (n : Int) l = (ofF n fun i => fvQ (s i), 0) ∧ (∀ i, i < n → fitsF (s i) = true) ∧ ∀ x, solM n (mxR l) x ↔ ∀ i, i < n → x i = s i) ∨ (¬ TrivN n (mxR l) ∧ solL (n : Int) l = ([], 16)) := by
  obtain ⟨m', free, he⟩ := small_elim hn3 hS true
  obtain ⟨hU1, hU2⟩ := elim_uni hn3 n (mxR l) m' free (Nat.le_refl _) (by rw [Nat.sub_self]; exact small_uni hn3 hS) he
  have ht := elim_triv he
  unfold solL
  rw [if_pos hr, hn, he]
  rcases elim_fact he with ⟨rfl, h1, h2⟩ | ⟨c, rfl, hc, h1, h2⟩
  · left
    have hU := hU1 rfl
    refine ⟨h2, fun i => m' i n, rfl, fun i hi => ?_, h1⟩
    by_cases e3 : n = 3
    · subst e3
      exact (cramer3 (small_uni hn3 hS) h2 ((h1 _).2 fun i hi => rfl) i hi).fits (by omega)
    · exact (hU.pt (j := 19) (by have := hB_le (c := n) (by omega); omega) hi (by omega)).fits (by omega)
  · refine Or.inr ⟨fun h => ?_, rfl⟩
    have := ht.2 h
    cases this
/-- rows with other values -/
def valR (n : Nat) (V : Nat → Rv) (Y : Nat → Fv) : List Rv := ofF n fun i => ⟨(V i).a, Y i⟩
section
variable {n : Nat} {l : List Rv} {V : Nat → Rv} {Y : Nat → Fv}
theorem val_get (i : Nat) (hi : i < n) : (valR n V Y)[i]? = some ⟨(V i).a, Y i⟩ := ofF_get hi
theorem val_mx (hr : rightL (n : Int) l = true) (hV : ∀ i, i < n → l[i]? = some (V i)) (i k : Nat) (hi : i < n) (hk : k < n + 1) : mxR (valR n V Y) i k = if k = n then (Y i).rat else mxR l i k := by
  obtain ⟨q1, q2, q3⟩ := right_row hr (hV i hi)
  rw [mxR_row (val_get i hi)]
  by_cases e : k = n
  · rw [if_pos e, e, rwM_val (x := ⟨(V i).a, Y i⟩) q1]
  · rw [if_neg e]
    have h1 : (V i).a[k]? = some ((V i).a[k]'(by omega)) := List.getElem?_eq_getElem _
    rw [rwM_el (x := ⟨(V i).a, Y i⟩) q1 h1, mxR_row (hV i hi), rwM_el q1 h1]
theorem val_right (hr : rightL (n : Int) l = true) (hV : ∀ i, i < n → l[i]? = some (V i)) (hY : ∀ i, i < n → (Y i).ok = true) : rightL (n : Int) (valR n V Y) = true := by
  have h40 := rightL_len hr
  refine rightL_of (by omega) ofF_len fun i x hx => ?_
  have hi : i < n := by
    have := (List.getElem?_eq_some_iff.1 hx).1
    unfold valR at this
    rw [ofF_len] at this
    exact this
  rw [val_get i hi] at hx
  rw [← Option.some.inj hx]
  obtain ⟨q1, q2, q3⟩ := right_row hr (hV i hi)
  exact rowF_of q1 (hY i hi) q3
theorem val_nul (hr : rightL (n : Int) l = true) (hV : ∀ i, i < n → l[i]? = some (V i)) (x : Nat → Rat) : nulM n (mxR (valR n V Y)) x ↔ nulM n (mxR l) x :=
  nul_congr (fun i k hi hk => by rw [val_mx hr hV i k hi (by omega), if_neg (by omega)]) x
theorem val_dot (hr : rightL (n : Int) l = true) (hV : ∀ i, i < n → l[i]? = some (V i)) (x : Nat → Rat) : solM n (mxR (valR n V Y)) x ↔ ∀ i, i < n → dotM n (mxR l i) x = (Y i).rat := by
  have e : ∀ i, i < n → dotM n (mxR (valR n V Y) i) x = dotM n (mxR l i) x := fun i hi => smQ_congr fun k hk => by rw [val_mx hr hV i k hi (by omega), if_neg (by omega)]
  constructor
  · intro h i hi
    have := h i hi
    rw [e i hi, val_mx hr hV i n hi (by omega), if_pos rfl] at this
    exact this
  · intro h i hi
    rw [e i hi, val_mx hr hV i n hi (by omega), if_pos rfl]
    exact h i hi
theorem val_small (hr : rightL (n : Int) l = true) (hV : ∀ i, i < n → l[i]? = some (V i)) (hs : SmallM n (mxR l)) (hY : ∀ i, i < n → Pt 1 (Y i).rat) : SmallM n (mxR (valR n V Y)) := fun i k hi hk => by
  rw [val_mx hr hV i k hi hk]
  split
  · exact hY i hi
  · exact hs i k hi hk
theorem dot_plus (n : Nat) (a x y : Nat → Rat) : dotM n a (fun k => x k + y k) = dotM n a x + dotM n a y := by
  unfold dotM
  rw [← smQ_add]
  exact smQ_congr fun k _ => by grind
theorem sums_law (hr : rightL (n : Int) l = true) (hf : few6R 3 1 l = true) (hn : l.length = n) (hV : ∀ i, i < n → l[i]? = some (V i)) (hY : ∀ i, i < n → (Y i).ok = true) (hP : ∀ i, i < n → Pt 1 (Y i).rat) :
    ∃ E : Int, E ≠ 6 ∧ (solL (n : Int) l).2 = E ∧ (solL (n : Int) (valR n V Y)).2 = E ∧ (solL (n : Int) (l.map homR)).2 = E ∧ ((solL (n : Int) (valR n V fun i => fvQ ((V i).b.rat + (Y i).rat))).2 = 6 ∨ (solL (n : Int) (valR n V fun i => fvQ ((V i).b.rat + (Y i).rat))).2 = E) ∧
      (E = 0 → (solL (n : Int) (valR n V fun i => fvQ ((V i).b.rat + (Y i).rat))).2 = 0 → ∃ s t : Nat → Rat, (∀ i, i < n → fitsF (s i) = true ∧ fitsF (t i) = true) ∧ solL (n : Int) l = (ofF n fun i => fvQ (s i), 0) ∧ solL (n : Int) (valR n V Y) = (ofF n fun i => fvQ (t i), 0) ∧ solL (n : Int) (valR n V fun i => fvQ ((V i).b.rat + (Y i).rat)) = (ofF n fun i => fvQ (s i + t i), 0) ∧ solL (n : Int) (l.map homR) = (ofF n fun i => fvQ 0, 0)) := by
  have hn3 := only_n hf hn
  have hs : SmallM n (mxR l) := small_mx (d := 1) hr hf hn
  have hro := val_right (Y := Y) hr hV hY
  have hrs := val_right (Y := fun i => fvQ ((V i).b.rat + (Y i).rat)) hr hV (fun i hi => by
    obtain ⟨q1, q2, q3⟩ := right_row hr (hV i hi)
    obtain ⟨w1, w2⟩ := few_row (d := 1) hf (hV i hi)
    exact fvQ_ok (((few_pt q2 w1).add (hP i hi) (by omega)).2.fits (by omega)))
  have hS0 := solve_fit hr hn hn3 hs
  have hSo := solve_fit hro ofF_len hn3 (val_small hr hV hs hP)
  have hSs := solve_says hrs ofF_len
  have hSh := solve_fit (hom_right hr) (by rw [List.length_map]; exact hn) hn3 (hom_small hr hn hs)
  have T1 : TrivN n (mxR (valR n V Y)) ↔ TrivN n (mxR l) := ⟨fun h x hx => h x ((val_nul hr hV x).2 hx), fun h x hx => h x ((val_nul hr hV x).1 hx)⟩
  have T2 : TrivN n (mxR (valR n V fun i => fvQ ((V i).b.rat + (Y i).rat))) ↔ TrivN n (mxR l) := ⟨fun h x hx => h x ((val_nul hr hV x).2 hx), fun h x hx => h x ((val_nul hr hV x).1 hx)⟩
  have T3 : TrivN n (mxR (l.map homR)) ↔ TrivN n (mxR l) := ⟨fun h x hx => h x ((hom_nulR hr hn x).2 hx), fun h x hx => h x ((hom_nulR hr hn x).1 hx)⟩
  rcases hS0 with ⟨h1, s, h2, h3, h4⟩ | ⟨h1, h2⟩
  · rcases hSo with ⟨-, t, g2, g3, g4⟩ | ⟨g1, -⟩
    case inr => exact absurd (T1.2 h1) g1
    rcases hSh with ⟨-, z, k2, k3, k4⟩ | ⟨k1, -⟩
    case inr => exact absurd (T3.2 h1) k1
    have hz : ∀ i, i < n → z i = 0 := fun i hi => by
      have hz0 : solM n (mxR (l.map homR)) (fun _ => 0) := by
        refine (sol_congr (hom_mx hr hn) _).2 fun i hi => ?_
        unfold homM
        rw [if_pos rfl, dot_hom]
        exact smQ_nil fun k _ => by grind
      exact ((k4 _).1 hz0 i hi).symm
    refine ⟨0, by decide, by rw [h2], by rw [g2], by rw [k2], ?_, fun _ h0 => ⟨s, t, fun i hi => ⟨h3 i hi, g3 i hi⟩, h2, g2, ?_, ?_⟩⟩
    · rcases hSs with e | ⟨-, u, e, -⟩ | ⟨e, -⟩
      · exact Or.inl (by rw [e])
      · exact Or.inr (by rw [e])
      · exact absurd (T2.2 h1) e
    · rcases hSs with e | ⟨-, u, e, e2⟩ | ⟨e, -⟩
      · rw [e] at h0; cases h0
      · rw [e, ofF_congr (f := fun i => fvQ (u i)) (g := fun i => fvQ (s i + t i)) (fun i hi => ?_)]
        have hst : solM n (mxR (valR n V fun i => fvQ ((V i).b.rat + (Y i).rat))) (fun k => s k + t k) := by
          refine (val_dot hr hV _).2 fun i hi => ?_
          have a1 := (h4 s).2 (fun _ _ => rfl) i hi
          have a2 := (val_dot hr hV _).1 ((g4 t).2 (fun _ _ => rfl)) i hi
          rw [dot_plus, a1, a2, fvQ_rat]
          obtain ⟨q1, q2, q3⟩ := right_row hr (hV i hi)
          rw [mxR_val (hV i hi) q1]
        rw [(e2 _).1 hst i hi]
      · exact absurd (T2.2 h1) e
    · rw [k2, ofF_congr (f := fun i => fvQ (z i)) (g := fun _ => fvQ 0) (fun i hi => by rw [hz i hi])]
  · rcases hSo with ⟨g1, -⟩ | ⟨-, g2⟩
    · exact absurd (T1.1 g1) h1
    rcases hSh with ⟨k1, -⟩ | ⟨-, k2⟩
    · exact absurd (T3.1 k1) h1
    refine ⟨16, by decide, by rw [h2], by rw [g2], by rw [k2], ?_, fun h => by cases h⟩
    rcases hSs with e | ⟨e, -⟩ | ⟨-, e⟩
    · exact Or.inl (by rw [e])
    · exact absurd (T2.1 e) h1
    · exact Or.inr (by rw [e])
end
end Go.Proofs.Ytdlcglndhhndpaa
