/- Plain law: rows scaled, added, exchanged, and other values: what becomes of the solution. Conditions stand in each theorem. -/
import Derived.Test.YtdlcglndhhndpaaMv
namespace Go.Proofs.Ytdlcglndhhndpaa
open Go.RowKit
set_option linter.unusedVariables false
set_option linter.unusedSimpArgs false

theorem rowL_len {n : Nat} {x : Rv} (h : x.a.length = n) : (rowL x).length = n + 1 := by
  unfold rowL
  rw [List.length_append, h]
  rfl
/-- a row whose numbers are turned -/
theorem rwM_map {n : Nat} {x : Rv} (h : x.a.length = n) (g : Rat → Rat) {k : Nat} (hk : k < n + 1) : rwM ⟨x.a.map fun y => fvQ (g y.rat), fvQ (g x.b.rat)⟩ k = g (rwM x k) := by
  have e1 : rowL ⟨x.a.map fun y => fvQ (g y.rat), fvQ (g x.b.rat)⟩ = (rowL x).map fun y => fvQ (g y.rat) := by
    unfold rowL
    rw [List.map_append]
    rfl
  have hx : (rowL x)[k]? = some ((rowL x)[k]'(by rw [rowL_len h]; exact hk)) := List.getElem?_eq_getElem _
  unfold rwM
  rw [e1, List.getElem?_map, hx]
  show (fvQ (g _)).rat = g _
  rw [fvQ_rat]
  rfl
theorem rwM_sum {n : Nat} {x y : Rv} (h : x.a.length = n) (h' : y.a.length = n) {k : Nat} (hk : k < n + 1) : rwM ⟨ofF n fun i => fvQ (vcL x.a i + vcL y.a i), fvQ (x.b.rat + y.b.rat)⟩ k = rwM x k + rwM y k := by
  by_cases e : k = n
  · subst e
    rw [rwM_val h, rwM_val h', rwM_val (n := k) (x := ⟨ofF k fun i => fvQ (vcL x.a i + vcL y.a i), fvQ (x.b.rat + y.b.rat)⟩) ofF_len]
    exact fvQ_rat _
  · have hkn : k < n := by omega
    have e1 : x.a[k]? = some (x.a[k]'(by omega)) := List.getElem?_eq_getElem _
    have e2 : y.a[k]? = some (y.a[k]'(by omega)) := List.getElem?_eq_getElem _
    rw [rwM_el h e1, rwM_el h' e2, rwM_el (n := n) (x := ⟨ofF n fun i => fvQ (vcL x.a i + vcL y.a i), fvQ (x.b.rat + y.b.rat)⟩) ofF_len (ofF_get hkn), fvQ_rat, vcL_at e1, vcL_at e2]
/-- rows that are combined: nothing is lost -/
theorem row_scale {n a : Nat} {m m' : Mx} {f : Rat} (hf : f ≠ 0) (ha : a < n) (h : ∀ i k, i < n → k < n + 1 → m' i k = if i = a then m i k * f else m i k) (x : Nat → Rat) : (solM n m' x ↔ solM n m x) ∧ (nulM n m' x ↔ nulM n m x) := by
  have e : ∀ i, i < n → dotM n (m' i) x = if i = a then dotM n (m i) x * f else dotM n (m i) x := fun i hi => by
    unfold dotM
    by_cases e : i = a
    · rw [if_pos e]
      have : ∀ k : Nat, k ≤ n → smQ (fun k => m' i k * x k) k = smQ (fun k => m i k * x k) k * f := fun k => by
        induction k with
        | zero => intro _; rw [smQ, smQ]; grind
        | succ k ih =>
          intro hk
          rw [smQ, smQ, ih (by omega), h i k hi (by omega), if_pos e]
          grind
      exact this n (Nat.le_refl _)
    · rw [if_neg e]
      exact smQ_congr fun k hk => by rw [h i k hi (by omega), if_neg e]
  refine ⟨⟨fun g i hi => ?_, fun g i hi => ?_⟩, ⟨fun g i hi => ?_, fun g i hi => ?_⟩⟩
  · have := g i hi
    rw [e i hi, h i n hi (by omega)] at this
    by_cases e2 : i = a
    · rw [if_pos e2, if_pos e2] at this
      grind
    · rw [if_neg e2, if_neg e2] at this
      exact this
  · have := g i hi
    rw [e i hi, h i n hi (by omega), this]
  · have := g i hi
    rw [e i hi] at this
    by_cases e2 : i = a
    · rw [if_pos e2] at this
      grind
    · rw [if_neg e2] at this
      exact this
  · have := g i hi
    rw [e i hi, this]
    split <;> grind
theorem row_add {n a b : Nat} {m m' : Mx} (ha : a < n) (hb : b < n) (hne : a ≠ b) (h : ∀ i k, i < n → k < n + 1 → m' i k = if i = a then m a k + m b k else m i k) (x : Nat → Rat) : (solM n m' x ↔ solM n m x) ∧ (nulM n m' x ↔ nulM n m x) := by
  have e : ∀ i, i < n → dotM n (m' i) x = if i = a then dotM n (m a) x + dotM n (m b) x else dotM n (m i) x := fun i hi => by
    unfold dotM
    by_cases e : i = a
    · rw [if_pos e, ← smQ_add]
      exact smQ_congr fun k hk => by rw [h i k hi (by omega), if_pos e]; grind
    · rw [if_neg e]
      exact smQ_congr fun k hk => by rw [h i k hi (by omega), if_neg e]
  have hn := fun i (hi : i < n) => h i n hi (by omega)
  refine ⟨⟨fun g i hi => ?_, fun g i hi => ?_⟩, ⟨fun g i hi => ?_, fun g i hi => ?_⟩⟩
  · have g1 := g i hi
    have g2 := g b hb
    rw [e i hi, hn i hi] at g1
    rw [e b hb, hn b hb, if_neg (fun h => hne h.symm), if_neg (fun h => hne h.symm)] at g2
    by_cases e2 : i = a
    · rw [if_pos e2, if_pos e2] at g1
      rw [e2]
      grind
    · rw [if_neg e2, if_neg e2] at g1
      exact g1
  · have g1 := g i hi
    have g2 := g b hb
    have g3 := g a ha
    rw [e i hi, hn i hi]
    split
    · rw [g3, g2]
    · exact g1
  · have g1 := g i hi
    have g2 := g b hb
    rw [e i hi] at g1
    rw [e b hb, if_neg (fun h => hne h.symm)] at g2
    by_cases e2 : i = a
    · rw [if_pos e2] at g1
      rw [e2]
      grind
    · rw [if_neg e2] at g1
      exact g1
  · have g1 := g i hi
    have g2 := g b hb
    have g3 := g a ha
    rw [e i hi]
    split
    · rw [g3, g2]; grind
    · exact g1
theorem SolveIs.same6 {n : Nat} {m m' : Mx} {r r' : List Fv × Int} (h : SolveIs n m r) (h' : SolveIs n m' r') (hs : ∀ x, (solM n m' x ↔ solM n m x) ∧ (nulM n m' x ↔ nulM n m x)) (h6 : r.2 ≠ 6) : r'.2 = 6 ∨ r' = r := by
  by_cases e : r'.2 = 6
  · exact Or.inl e
  · exact Or.inr (h'.same h (fun x => (hs x).1) (fun x => (hs x).2) e h6)
/-- a row scaled, a row added to another one, two rows exchanged -/
theorem moves_law {n a b : Nat} {l : List Rv} {V : Nat → Rv} {f : Rat} (hr : rightL (n : Int) l = true) (hf : few6R 3 1 l = true) (hn : l.length = n) (hV : ∀ i, i < n → l[i]? = some (V i)) (ha : a < n) (hb : b < n) (h0 : f ≠ 0) (hp : Pt 1 f) :
    (solL (n : Int) l).2 ≠ 6 ∧
    ((solL (n : Int) (ofF n (putF V a ⟨(V a).a.map fun y => fvQ (y.rat * f), fvQ ((V a).b.rat * f)⟩))).2 = 6 ∨ solL (n : Int) (ofF n (putF V a ⟨(V a).a.map fun y => fvQ (y.rat * f), fvQ ((V a).b.rat * f)⟩)) = solL (n : Int) l) ∧
    (a ≠ b → (solL (n : Int) (ofF n (putF V a ⟨ofF n fun i => fvQ (vcL (V a).a i + vcL (V b).a i), fvQ ((V a).b.rat + (V b).b.rat)⟩))).2 = 6 ∨ solL (n : Int) (ofF n (putF V a ⟨ofF n fun i => fvQ (vcL (V a).a i + vcL (V b).a i), fvQ ((V a).b.rat + (V b).b.rat)⟩)) = solL (n : Int) l) ∧
    solL (n : Int) (ofF n (putF (putF V a (V b)) b (V a))) = solL (n : Int) l := by
  have hn3 := only_n hf hn
  have hs : SmallM n (mxR l) := small_mx (d := 1) hr hf hn
  have h6 := solve_small hr hn hn3 hs
  have hS := solve_says hr hn
  obtain ⟨q1, q2, q3⟩ := right_row hr (hV a ha)
  obtain ⟨p1, p2, p3⟩ := right_row hr (hV b hb)
  obtain ⟨w1, w2⟩ := few_row (d := 1) hf (hV a ha)
  obtain ⟨v1, v2⟩ := few_row (d := 1) hf (hV b hb)
  refine ⟨h6, ?_, fun hne => ?_, ?_⟩
  · have g := ofF_put_get (a := a) (r := ⟨(V a).a.map fun y => fvQ (y.rat * f), fvQ ((V a).b.rat * f)⟩) hV
    have m1 := put_mx (fun i hi => ⟨_, hV i hi⟩) g
    have hr' := put_right hr ofF_len (rowF_of (by rw [List.length_map]; exact q1) (fvQ_ok (((few_pt q2 w1).mul hp (by omega)).2.fits (by omega))) (fun y hy => by
      obtain ⟨z, hz, rfl⟩ := List.mem_map.1 hy
      exact fvQ_ok (((few_pt (q3 z hz) (w2 z hz)).mul hp (by omega)).2.fits (by omega)))) g
    refine hS.same6 (solve_says hr' ofF_len) (row_scale h0 ha fun i k hi hk => ?_) h6
    rw [m1 i hi]
    by_cases e : i = a
    · rw [if_pos e, if_pos e, rwM_map (x := V a) q1 (fun y => y * f) hk, e, mxR_row (hV a ha)]
    · rw [if_neg e, if_neg e]
  · have g := ofF_put_get (a := a) (r := ⟨ofF n fun i => fvQ (vcL (V a).a i + vcL (V b).a i), fvQ ((V a).b.rat + (V b).b.rat)⟩) hV
    have m1 := put_mx (fun i hi => ⟨_, hV i hi⟩) g
    have hr' := put_right hr ofF_len (rowF_of ofF_len (fvQ_ok (((few_pt q2 w1).add (few_pt p2 v1) (by omega)).2.fits (by omega))) (fun y hy => by
      obtain ⟨j, hj, rfl⟩ := List.mem_iff_getElem.1 hy
      rw [ofF_len] at hj
      have e1 : (V a).a[j]? = some ((V a).a[j]'(by omega)) := List.getElem?_eq_getElem _
      have e2 : (V b).a[j]? = some ((V b).a[j]'(by omega)) := List.getElem?_eq_getElem _
      have e3 : (ofF n fun i => fvQ (vcL (V a).a i + vcL (V b).a i))[j]'(by rw [ofF_len]; exact hj) = fvQ (vcL (V a).a j + vcL (V b).a j) := by
        have := ofF_get (f := fun i => fvQ (vcL (V a).a i + vcL (V b).a i)) hj
        rw [List.getElem?_eq_getElem (by rw [ofF_len]; exact hj)] at this
        exact Option.some.inj this
      rw [e3, vcL_at e1, vcL_at e2]
      exact fvQ_ok (((few_pt (q3 _ (List.mem_of_getElem? e1)) (w2 _ (List.mem_of_getElem? e1))).add (few_pt (p3 _ (List.mem_of_getElem? e2)) (v2 _ (List.mem_of_getElem? e2))) (by omega)).2.fits (by omega)))) g
    refine hS.same6 (solve_says hr' ofF_len) (row_add ha hb hne fun i k hi hk => ?_) h6
    rw [m1 i hi]
    by_cases e : i = a
    · rw [if_pos e, if_pos e, rwM_sum q1 p1 hk, mxR_row (hV a ha), mxR_row (hV b hb)]
    · rw [if_neg e, if_neg e]
  · have g1 := ofF_put_get (a := a) (r := V b) hV
    have g2 := ofF_put_get (n := n) (V := putF V a (V b)) (a := b) (r := V a) (l := ofF n (putF V a (V b))) (fun i hi => ofF_get hi)
    have m1 := put_mx (fun i hi => ⟨_, hV i hi⟩) g1
    have m2 := put_mx (fun i hi => ⟨_, ofF_get hi⟩) g2
    have hr1 := put_right hr ofF_len (rightL_row hr (hV b hb)) g1
    have hr2 := put_right hr1 ofF_len (rightL_row hr (hV a ha)) g2
    have e : ∀ i, i < n → mxR (ofF n (putF (putF V a (V b)) b (V a))) i = swpM (mxR l) a b i := fun i hi => by
      rw [m2 i hi, m1 i hi, ← mxR_row (hV a ha), ← mxR_row (hV b hb)]
      unfold swpM
      by_cases e1 : i = b
      · rw [if_pos e1]
        by_cases e2 : i = a
        · rw [if_pos e2, ← e1, ← e2]
        · rw [if_neg e2, if_pos e1]
      · rw [if_neg e1, if_neg e1]
    have hs2 : SmallM n (mxR (ofF n (putF (putF V a (V b)) b (V a)))) := fun i k hi hk => by
      rw [e i hi]
      unfold swpM
      split
      · exact hs b k hb hk
      · split
        · exact hs a k ha hk
        · exact hs i k hi hk
    have hx : ∀ x, (solM n (mxR (ofF n (putF (putF V a (V b)) b (V a)))) x ↔ solM n (mxR l) x) ∧ (nulM n (mxR (ofF n (putF (putF V a (V b)) b (V a)))) x ↔ nulM n (mxR l) x) := fun x =>
      ⟨(sol_congr (m' := swpM (mxR l) a b) (fun i k hi _ => by rw [e i hi]) x).trans (sol_swap ha hb), (nul_congr (m' := swpM (mxR l) a b) (fun i k hi _ => by rw [e i hi]) x).trans (nul_swap ha hb)⟩
    exact (solve_says hr2 ofF_len).same hS (fun x => (hx x).1) (fun x => (hx x).2) (solve_small hr2 ofF_len hn3 hs2) h6
end Go.Proofs.Ytdlcglndhhndpaa
