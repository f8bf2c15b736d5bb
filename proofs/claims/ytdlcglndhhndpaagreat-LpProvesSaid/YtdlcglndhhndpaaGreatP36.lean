/- Laws and walks; conditions stand in each theorem. -/
import Derived.Test.YtdlcglndhhndpaaGreatP21
import Derived.Test.YtdlcglndhhndpaaGreatP35
import Derived.Test.YtdlcglndhhndpaaGreatP11
set_option linter.unusedSimpArgs false
set_option linter.unusedVariables false
namespace Go.Proofs.YtdlcglndhhndpaaGreat
open Go.RowKit
theorem ZQ61 {p : Prop} (h : p := by
 first
  | (generalize σ (D.own r) = o at n1
     generalize σ (D.free s) = f at n2
     generalize D.a r s = p at h0
     grind)
  | fail) : p := h
theorem ZQ109 {p : Prop} (h : p := by
 first
  | (generalize σ (D.own r) = o at n1
     generalize σ (D.free s) = f at n2
     generalize σ (D.free j) = g at n3
     generalize D.a r s = p at h0
     grind)
  | fail) : p := h
theorem lstP_congr {vars : Nat → Nat} {f g : Nat → Bool} : ∀ {n : Nat}, (∀ i, i < n → f i = g i) → lstP vars f n = lstP vars g n
 | 0, _ => rfl
 | n + 1, h => by rw [lstP, lstP, lstP_congr fun i hi => h i (by omega), h n (by omega)]
theorem pos_times {t x : Rat} (ht : 0 < t) : 0 < t * x ↔ 0 < x := by
 refine ⟨fun h => Rat.not_le.1 fun hn => ?_, fun h => Rat.mul_pos ht h⟩
 have h1 : t * x ≤ t * 0 := Rat.mul_le_mul_of_nonneg_left hn (Rat.le_of_lt ht)
 grind
theorem neg_times {t x : Rat} (ht : 0 < t) : t * x < 0 ↔ x < 0 := by
 have h := pos_times (x := - x) ht
 have e : t * (-x) = - (t * x) := by grind
 rw [e] at h
 constructor
 · intro h1
   have := h.1 (by grind)
   grind
 · intro h1
   have := h.2 (by grind)
   grind
theorem div_pos' {a b : Rat} (ha : 0 < a) (hb : 0 < b) : 0 < a / b := by
 rw [Rat.div_def]
 exact Rat.mul_pos ha (Rat.inv_pos.2 hb)
structure Scl (σ : Nat → Rat) (γ : Rat) (m n : Nat) (D D' : Dc) : Prop where
 own : D'.own = D.own
 free : D'.free = D.free
 v : ∀ i, i < m → D'.v i = σ (D.own i) * D.v i
 a : ∀ i j, i < m → j < n → D'.a i j = σ (D.own i) / σ (D.free j) * D.a i j
 c : ∀ j, j < n → D'.c j = γ / σ (D.free j) * D.c j
section
variable {σ : Nat → Rat} {γ : Rat} {m n : Nat} {D D' : Dc}
theorem Scl.rowP (h : Scl σ γ m n D D') (hσ : ∀ u, 0 < σ u) {r : Nat} (hr : r < m) : D'.rowP n r = D.rowP n r := by
 unfold Dc.rowP
 rw [h.free, lstP_congr (f := D'.negA r) (g := D.negA r) fun j hj => by
  unfold Dc.negA
  rw [h.a r j hr hj]
  exact decide_eq_decide.2 (neg_times (div_pos' (hσ _) (hσ _)))]
theorem Scl.colP (h : Scl σ γ m n D D') (hσ : ∀ u, 0 < σ u) {s : Nat} (hs : s < n) : D'.colP m s = D.colP m s := by
 unfold Dc.colP
 rw [h.own, lstP_congr (f := D'.posA s) (g := D.posA s) fun i hi => by
  unfold Dc.posA
  rw [h.a i s hi hs]
  exact decide_eq_decide.2 (pos_times (div_pos' (hσ _) (hσ _)))]
theorem Scl.pick (h : Scl σ γ m n D D') (hσ : ∀ u, 0 < σ u) (hγ : 0 < γ) : D'.pick m n = D.pick m n := by
 have e1 : lstP D'.own D'.negR m = lstP D.own D.negR m := by
  rw [h.own]
  exact lstP_congr fun i hi => by
   unfold Dc.negR
   rw [h.v i hi]
   exact decide_eq_decide.2 (neg_times (hσ _))
 have e2 : lstP D'.free D'.posC n = lstP D.free D.posC n := by
  rw [h.free]
  exact lstP_congr fun j hj => by
   unfold Dc.posC
   rw [h.c j hj]
   exact decide_eq_decide.2 (pos_times (div_pos' hγ (hσ _)))
 unfold Dc.pick
 rw [e1, e2]
 cases h1 : lstP D.own D.negR m with
 | none =>
  cases h2 : lstP D.free D.posC n with
  | none => rfl
  | some s => exact h.colP hσ (lstP_some h2).1
 | some r =>
  cases h2 : lstP D.free D.posC n with
  | none => exact h.rowP hσ (lstP_some h1).1
  | some s =>
   show (if D'.own r < D'.free s then D'.rowP n r else D'.colP m s) = if D.own r < D.free s then D.rowP n r else D.colP m s
   rw [h.own, h.free, h.rowP hσ (lstP_some h1).1, h.colP hσ (lstP_some h2).1]
theorem Scl.xch (h : Scl σ γ m n D D') (hσ : ∀ u, 0 < σ u) {r s : Nat} (hr : r < m) (hs : s < n) (h0 : D.a r s ≠ 0) : Scl σ γ m n (D.xch r s) (D'.xch r s) := by
 have nz : ∀ u, σ u ≠ 0 := fun u e => by have := hσ u; rw [e] at this; exact absurd this (by decide)
 have n1 := nz (D.own r)
 have n2 := nz (D.free s)
 refine ⟨?_, ?_, fun i hi => ?_, fun i j hi hj => ?_, fun j hj => ?_⟩
 · show (fun i => if i = r then D'.free s else D'.own i) = fun i => if i = r then D.free s else D.own i
   rw [h.own, h.free]
 · show (fun j => if j = s then D'.own r else D'.free j) = fun j => if j = s then D.own r else D.free j
   rw [h.own, h.free]
 · show (if i = r then D'.v r / D'.a r s else D'.v i - D'.a i s * (D'.v r / D'.a r s)) = σ (if i = r then D.free s else D.own i) * (if i = r then D.v r / D.a r s else D.v i - D.a i s * (D.v r / D.a r s))
   rw [h.a r s hr hs, h.v r hr]
   by_cases e : i = r
   · rw [if_pos e, if_pos e, if_pos e]
     exact ZQ61
   · rw [if_neg e, if_neg e, if_neg e, h.a i s hi hs, h.v i hi]
     exact ZQ61
 · show (if i = r then (if j = s then 1 / D'.a r s else D'.a r j / D'.a r s) else (if j = s then 0 - D'.a i s * (1 / D'.a r s) else D'.a i j - D'.a i s * (D'.a r j / D'.a r s))) = σ (if i = r then D.free s else D.own i) / σ (if j = s then D.own r else D.free j) * (if i = r then (if j = s then 1 / D.a r s else D.a r j / D.a r s) else (if j = s then 0 - D.a i s * (1 / D.a r s) else D.a i j - D.a i s * (D.a r j / D.a r s)))
   have n3 := nz (D.free j)
   have n4 := nz (D.own i)
   rw [h.a r s hr hs]
   by_cases e : i = r
   · by_cases e2 : j = s
     · simp only [if_pos e, if_pos e2]
       exact ZQ61
     · simp only [if_pos e, if_neg e2]
       rw [h.a r j hr hj]
       exact ZQ109
   · by_cases e2 : j = s
     · simp only [if_neg e, if_pos e2]
       rw [h.a i s hi hs]
       generalize σ (D.own r) = o at n1
       generalize σ (D.free s) = f at n2
       generalize σ (D.own i) = q at n4
       generalize D.a r s = p at h0
       grind
     · simp only [if_neg e, if_neg e2]
       rw [h.a i s hi hs, h.a i j hi hj, h.a r j hr hj]
       generalize σ (D.own r) = o at n1
       generalize σ (D.free s) = f at n2
       generalize σ (D.own i) = q at n4
       generalize σ (D.free j) = g at n3
       generalize D.a r s = p at h0
       grind
 · show (if j = s then 0 - D'.c s * (1 / D'.a r s) else D'.c j - D'.c s * (D'.a r j / D'.a r s)) = γ / σ (if j = s then D.own r else D.free j) * (if j = s then 0 - D.c s * (1 / D.a r s) else D.c j - D.c s * (D.a r j / D.a r s))
   have n3 := nz (D.free j)
   rw [h.a r s hr hs, h.c s hs]
   by_cases e2 : j = s
   · simp only [if_pos e2]
     exact ZQ61
   · simp only [if_neg e2]
     rw [h.c j hj, h.a r j hr hj]
     exact ZQ109
end
section
variable {m n : Nat} {A A' : Nat → Nat → Rat} {b c b' c' : Nat → Rat}
end
def CerE (m n : Nat) (A : Nat → Nat → Rat) (b c : Nat → Rat) : LpEnd → Prop
 | .full => True
 | .none y => CerN m n A b y
 | .ray x => CerR m n A c x ∧ ∃ z, Sol m n A b z
 | .best x y => CerB m n A b c x y
section
variable {m n : Nat} {A A' : Nat → Nat → Rat} {b c b' c' : Nat → Rat}
theorem sol_congr {x : Nat → Rat} (hA : ∀ i j, i < m → j < n → A i j = A' i j) (hb : ∀ i, i < m → b i = b' i) (h : Sol m n A b x) : Sol m n A' b' x := ⟨h.1, fun i hi => by
 rw [← hb i hi, ← smQ_congr (f := fun j => A i j * x j) (fun j hj => by rw [hA i j hi hj])]
 exact h.2 i hi⟩
theorem pri_congr {y : Nat → Rat} (hA : ∀ i j, i < m → j < n → A i j = A' i j) (hc : ∀ j, j < n → c j = c' j) (h : Pri m n A c y) : Pri m n A' c' y := ⟨h.1, fun k hk => by
 rw [← hc k hk, ← smQ_congr (f := fun i => y i * A i k) (fun i hi => by rw [hA i k hi hk])]
 exact h.2 k hk⟩
theorem CerE.congr (hA : ∀ i j, i < m → j < n → A i j = A' i j) (hb : ∀ i, i < m → b i = b' i) (hc : ∀ j, j < n → c j = c' j) {E : LpEnd} (h : CerE m n A b c E) : CerE m n A' b' c' E := by
 have e1 : ∀ y : Nat → Rat, smQ (fun i => y i * b i) m = smQ (fun i => y i * b' i) m := fun y => smQ_congr fun i hi => by rw [hb i hi]
 have e2 : ∀ x : Nat → Rat, smQ (fun j => c j * x j) n = smQ (fun j => c' j * x j) n := fun x => smQ_congr fun j hj => by rw [hc j hj]
 cases E with
 | full => exact True.intro
 | none y => exact ⟨pri_congr hA (fun _ _ => rfl) h.1, by rw [← e1]; exact h.2⟩
 | ray x => exact ⟨⟨sol_congr hA (fun _ _ => rfl) h.1.1, by rw [← e2]; exact h.1.2⟩, by obtain ⟨z, hz⟩ := h.2; exact ⟨z, sol_congr hA hb hz⟩⟩
 | best x y => exact ⟨sol_congr hA hb h.1, pri_congr hA hc h.2.1, by rw [← e1, ← e2]; exact h.2.2⟩
end
theorem few_pt9 {x : Fv} (hk : x.ok = true) (h : fewV 1 x = true) : Pt 1 x.rat := by
 unfold fewV fewF at h
 rw [Bool.and_eq_true] at h
 have h1 : x.l.length ≤ 1 := by have := of_decide_eq_true h.1; omega
 have h2 : x.m.length ≤ 1 := by have := of_decide_eq_true h.2; omega
 have e := fv_form hk
 rw [e] at h1 h2
 exact ⟨digs_len.1 h1, digs_len.1 h2⟩
theorem rwA2_at {ls : List Rv} {i : Nat} {X : Rv} (h : ls[i]? = some X) (j : Nat) : rwA2 ls i j = fvR X.a j := by
 unfold rwA2 fvR
 rw [h, Option.bind_some]
theorem rwB2_at {ls : List Rv} {i : Nat} {X : Rv} (h : ls[i]? = some X) : rwB2 ls false i = X.b.rat := by
 unfold rwB2
 rw [if_neg (by decide), h, Option.map_some, Option.getD_some]
theorem ofF_allP9 {α : Type} {p : α → Bool} {n : Nat} {f : Nat → α} (h : ∀ i, i < n → p (f i) = true) : (ofF n f).all p = true := List.all_eq_true.2 fun x hx => by
 obtain ⟨i, hi, rfl⟩ := List.mem_iff_getElem.1 hx
 have hi' : i < n := by rw [ofF_len] at hi; exact hi
 have := ofF_get (f := f) hi'
 rw [List.getElem?_eq_getElem hi] at this
 rw [Option.some.inj this]
 exact h i hi'
theorem rowF_parts {n : Nat} {X : Rv} (h : rowF (n : Int) X = true) : X.a.length = n ∧ X.b.ok = true ∧ X.a.all Fv.ok = true := by
 unfold rowF at h
 rw [Bool.and_eq_true, Bool.and_eq_true, decide_eq_true_eq] at h
 exact ⟨by omega, h.1.2, h.2⟩
theorem fewP_parts {l : List Fv} {ls : List Rv} (h : fewP l ls = true) : l.length ≤ 4 ∧ ls.length ≤ 4 ∧ (∀ x ∈ l, fewV 1 x = true) ∧ ∀ X ∈ ls, fewV 1 X.b = true ∧ ∀ x ∈ X.a, fewV 1 x = true := by
 unfold fewP few6L at h
 rw [Bool.and_eq_true, Bool.and_eq_true, Bool.and_eq_true, decide_eq_true_eq, decide_eq_true_eq, List.all_eq_true, List.all_eq_true] at h
 refine ⟨by omega, h.1, h.2.1.2, fun X hX => ?_⟩
 have := h.2.2 X hX
 unfold fewRow few6L at this
 rw [Bool.and_eq_true, Bool.and_eq_true, List.all_eq_true] at this
 exact ⟨this.2, this.1.2⟩
section
variable {m n k u t : Nat} {l : List Fv} {ls : List Rv} {V : Nat → Rv}
theorem fvR_pt (h : ∀ x ∈ l, fewV 1 x = true) (ho : l.all Fv.ok = true) (hl : l.length = n) : ∀ i, i < n → Pt 1 (fvR l i) := fun i hi => by
 have hm : l[i]? = some l[i] := List.getElem?_eq_getElem (by omega)
 unfold fvR
 rw [hm, Option.map_some, Option.getD_some]
 exact few_pt9 (List.all_eq_true.1 ho _ (List.getElem_mem _)) (h _ (List.getElem_mem _))
end
def colA (n : Nat) (A : Nat → Nat → Rat) (u i : Nat) : Rat := if u < n then A i u else if u = n + i then 1 else 0
structure Bas (m n : Nat) (A : Nat → Nat → Rat) (b : Nat → Rat) (D : Dc) : Prop where
 col : ∀ i, i < m → ∀ j, j < n → smQ (fun k => D.a k j * colA n A (D.own k) i) m = colA n A (D.free j) i
 val : ∀ i, i < m → smQ (fun k => D.v k * colA n A (D.own k) i) m = b i
theorem Bas.opn (m n : Nat) (A : Nat → Nat → Rat) (b c : Nat → Rat) : Bas m n A b (opnD n A b c) := by
 have hc : ∀ i k, colA n A (n + k) i = if k = i then 1 else 0 := fun i k => by
  unfold colA
  rw [if_neg (by omega)]
  by_cases e : k = i
  · rw [if_pos (by omega), if_pos e]
  · rw [if_neg (by omega), if_neg e]
 have one : ∀ (f : Nat → Rat) i, i < m → smQ (fun k => f k * colA n A (n + k) i) m = f i := fun f i hi => by
  rw [smQ_only hi (fun k hk hne => by rw [hc, if_neg hne]; grind), hc, if_pos rfl]
  grind
 refine ⟨fun i hi j hj => ?_, fun i hi => one b i hi⟩
 have h := one (fun k => A k j) i hi
 refine h.trans ?_
 show A i j = colA n A j i
 unfold colA
 rw [if_pos hj]
theorem bas_step {m r : Nat} (hr : r < m) (e a g : Nat → Rat) (p G : Rat) (hp : a r = p) (h0 : p ≠ 0) (hG : smQ (fun k => a k * g k) m = G) :
 smQ (fun k => (if k = r then e r / p else e k - a k * (e r / p)) * (if k = r then G else g k)) m = smQ (fun k => e k * g k) m := by
 have e1 : smQ (fun k => (e k - a k * (e r / p)) * g k) m = smQ (fun k => e k * g k) m - G * (e r / p) := by
  rw [← hG, ← smQ_scale, ← smQ_sub]
  exact smQ_congr fun k _ => by grind
 rw [smQ_one (f := fun k => (e k - a k * (e r / p)) * g k) (b := r) (c := e r / p * G) hr (by
  rw [if_pos rfl, if_pos rfl, hp]
  grind) (fun i _ hne => by rw [if_neg hne, if_neg hne]), e1]
 grind
theorem Bas.xch {m n r s : Nat} {A : Nat → Nat → Rat} {b : Nat → Rat} {D : Dc} (h : Bas m n A b D) (hr : r < m) (hs : s < n) (h0 : D.a r s ≠ 0) : Bas m n A b (D.xch r s) := by
 have ow : ∀ i k, colA n A ((D.xch r s).own k) i = if k = r then colA n A (D.free s) i else colA n A (D.own k) i := fun i k => by
  show colA n A (if k = r then D.free s else D.own k) i = _
  split <;> rfl
 have key : ∀ i, i < m → ∀ (e : Nat → Rat), smQ (fun k => (if k = r then e r / D.a r s else e k - D.a k s * (e r / D.a r s)) * (if k = r then colA n A (D.free s) i else colA n A (D.own k) i)) m = smQ (fun k => e k * colA n A (D.own k) i) m := fun i hi e =>
  bas_step hr e (fun k => D.a k s) (fun k => colA n A (D.own k) i) (D.a r s) (colA n A (D.free s) i) rfl h0 (h.col i hi s hs)
 refine ⟨fun i hi j hj => ?_, fun i hi => ?_⟩
 · by_cases ej : j = s
   · have e2 : smQ (fun k => dlt r k * colA n A (D.own k) i) m = colA n A (D.own r) i := by
      rw [smQ_only hr (fun k hk hne => by unfold dlt; rw [if_neg hne]; grind)]
      unfold dlt
      rw [if_pos rfl]
      grind
     have h1 := (key i hi (dlt r)).trans e2
     have e3 : colA n A ((D.xch r s).free j) i = colA n A (D.own r) i := by
      show colA n A (if j = s then D.own r else D.free j) i = _
      rw [if_pos ej]
     rw [e3, ← h1]
     refine smQ_congr fun k hk => ?_
     rw [ow]
     congr 1
     show (if k = r then (if j = s then 1 / D.a r s else D.a r j / D.a r s) else (if j = s then 0 - D.a k s * (1 / D.a r s) else D.a k j - D.a k s * (D.a r j / D.a r s))) = _
     rw [if_pos ej, if_pos ej]
     unfold dlt
     rw [if_pos rfl]
     by_cases ek : k = r
     · rw [if_pos ek, if_pos ek]
     · rw [if_neg ek, if_neg ek, if_neg ek]
   · have h1 := (key i hi (fun k => D.a k j)).trans (h.col i hi j hj)
     have e3 : colA n A ((D.xch r s).free j) i = colA n A (D.free j) i := by
      show colA n A (if j = s then D.own r else D.free j) i = _
      rw [if_neg ej]
     rw [e3, ← h1]
     refine smQ_congr fun k hk => ?_
     rw [ow]
     congr 1
     show (if k = r then (if j = s then 1 / D.a r s else D.a r j / D.a r s) else (if j = s then 0 - D.a k s * (1 / D.a r s) else D.a k j - D.a k s * (D.a r j / D.a r s))) = _
     rw [if_neg ej, if_neg ej]
 · refine Eq.trans (smQ_congr fun k hk => ?_) ((key i hi D.v).trans (h.val i hi))
   rw [ow]
   rfl
def D4 (a0 a1 a2 a3 b0 b1 b2 b3 c0 c1 c2 c3 d0 d1 d2 d3 : Rat) : Rat :=
 a0 * (b1 * (c2 * d3 - c3 * d2) - b2 * (c1 * d3 - c3 * d1) + b3 * (c1 * d2 - c2 * d1)) - a1 * (b0 * (c2 * d3 - c3 * d2) - b2 * (c0 * d3 - c3 * d0) + b3 * (c0 * d2 - c2 * d0)) + a2 * (b0 * (c1 * d3 - c3 * d1) - b1 * (c0 * d3 - c3 * d0) + b3 * (c0 * d1 - c1 * d0)) - a3 * (b0 * (c1 * d2 - c2 * d1) - b1 * (c0 * d2 - c2 * d0) + b2 * (c0 * d1 - c1 * d0))
def det4 (M : Nat → Nat → Rat) : Rat := D4 (M 0 0) (M 0 1) (M 0 2) (M 0 3) (M 1 0) (M 1 1) (M 1 2) (M 1 3) (M 2 0) (M 2 1) (M 2 2) (M 2 3) (M 3 0) (M 3 1) (M 3 2) (M 3 3)
theorem det4_congr {M N : Nat → Nat → Rat} (h : ∀ i k, i < 4 → k < 4 → M i k = N i k) : det4 M = det4 N := by
 unfold det4
 rw [h 0 0, h 0 1, h 0 2, h 0 3, h 1 0, h 1 1, h 1 2, h 1 3, h 2 0, h 2 1, h 2 2, h 2 3, h 3 0, h 3 1, h 3 2, h 3 3] <;> decide
theorem cram0 (a0 a1 a2 a3 b0 b1 b2 b3 c0 c1 c2 c3 d0 d1 d2 d3 x y z t : Rat) : D4 (a0 * x + a1 * y + a2 * z + a3 * t) a1 a2 a3 (b0 * x + b1 * y + b2 * z + b3 * t) b1 b2 b3 (c0 * x + c1 * y + c2 * z + c3 * t) c1 c2 c3 (d0 * x + d1 * y + d2 * z + d3 * t) d1 d2 d3 = x * D4 a0 a1 a2 a3 b0 b1 b2 b3 c0 c1 c2 c3 d0 d1 d2 d3 := by
 unfold D4
 grind
theorem cram1 (a0 a1 a2 a3 b0 b1 b2 b3 c0 c1 c2 c3 d0 d1 d2 d3 x y z t : Rat) : D4 a0 (a0 * x + a1 * y + a2 * z + a3 * t) a2 a3 b0 (b0 * x + b1 * y + b2 * z + b3 * t) b2 b3 c0 (c0 * x + c1 * y + c2 * z + c3 * t) c2 c3 d0 (d0 * x + d1 * y + d2 * z + d3 * t) d2 d3 = y * D4 a0 a1 a2 a3 b0 b1 b2 b3 c0 c1 c2 c3 d0 d1 d2 d3 := by
 unfold D4
 grind
theorem cram2 (a0 a1 a2 a3 b0 b1 b2 b3 c0 c1 c2 c3 d0 d1 d2 d3 x y z t : Rat) : D4 a0 a1 (a0 * x + a1 * y + a2 * z + a3 * t) a3 b0 b1 (b0 * x + b1 * y + b2 * z + b3 * t) b3 c0 c1 (c0 * x + c1 * y + c2 * z + c3 * t) c3 d0 d1 (d0 * x + d1 * y + d2 * z + d3 * t) d3 = z * D4 a0 a1 a2 a3 b0 b1 b2 b3 c0 c1 c2 c3 d0 d1 d2 d3 := by
 unfold D4
 grind
theorem cram3 (a0 a1 a2 a3 b0 b1 b2 b3 c0 c1 c2 c3 d0 d1 d2 d3 x y z t : Rat) : D4 a0 a1 a2 (a0 * x + a1 * y + a2 * z + a3 * t) b0 b1 b2 (b0 * x + b1 * y + b2 * z + b3 * t) c0 c1 c2 (c0 * x + c1 * y + c2 * z + c3 * t) d0 d1 d2 (d0 * x + d1 * y + d2 * z + d3 * t) = t * D4 a0 a1 a2 a3 b0 b1 b2 b3 c0 c1 c2 c3 d0 d1 d2 d3 := by
 unfold D4
 grind
theorem det4_turn (M : Nat → Nat → Rat) : det4 (fun i k => M k i) = det4 M := by
 unfold det4 D4
 grind
theorem cram {M : Nat → Nat → Rat} {z h : Nat → Rat} (hz : ∀ i, i < 4 → h i = M i 0 * z 0 + M i 1 * z 1 + M i 2 * z 2 + M i 3 * z 3) {r : Nat} (hr : r < 4) : det4 (fun i k => if k = r then h i else M i k) = z r * det4 M := by
 have h0 := hz 0 (by omega)
 have h1 := hz 1 (by omega)
 have h2 := hz 2 (by omega)
 have h3 := hz 3 (by omega)
 unfold det4
 match r, hr with
 | 0, _ => simp; rw [h0, h1, h2, h3]; exact cram0 ..
 | 1, _ => simp; rw [h0, h1, h2, h3]; exact cram1 ..
 | 2, _ => simp; rw [h0, h1, h2, h3]; exact cram2 ..
 | 3, _ => simp; rw [h0, h1, h2, h3]; exact cram3 ..
def padM (m : Nat) (M : Nat → Nat → Rat) (i k : Nat) : Rat := if i < m ∧ k < m then M i k else if i = k then 1 else 0
def padV (m : Nat) (z : Nat → Rat) (k : Nat) : Rat := if k < m then z k else 0
theorem smQ4 {m : Nat} (hm : m ≤ 4) (f : Nat → Rat) : smQ f m = padV m f 0 + padV m f 1 + padV m f 2 + padV m f 3 := by
 unfold padV
 match m, hm with
 | 0, _ => simp [smQ]; grind
 | 1, _ => simp [smQ]; grind
 | 2, _ => simp [smQ]; grind
 | 3, _ => simp [smQ]; grind
 | 4, _ => simp [smQ]; grind
theorem pad_eq {m : Nat} (hm : m ≤ 4) (M : Nat → Nat → Rat) (z h : Nat → Rat) (he : ∀ i, i < m → smQ (fun k => M i k * z k) m = h i) : ∀ i, i < 4 → padV m h i = padM m M i 0 * padV m z 0 + padM m M i 1 * padV m z 1 + padM m M i 2 * padV m z 2 + padM m M i 3 * padV m z 3 := by
 intro i hi
 by_cases e : i < m
 · have e1 : padV m h i = h i := if_pos e
   have e2 : ∀ k, padV m (fun k => M i k * z k) k = padM m M i k * padV m z k := fun k => by
    unfold padV padM
    by_cases ek : k < m
    · rw [if_pos ek, if_pos ⟨e, ek⟩, if_pos ek]
    · rw [if_neg ek, if_neg ek]
      grind
   rw [e1, ← he i e, smQ4 hm, e2, e2, e2, e2]
 · have e1 : padV m h i = 0 := if_neg e
   have e2 : ∀ k, padM m M i k * padV m z k = 0 := fun k => by
    unfold padV padM
    rw [if_neg (fun h => e h.1)]
    by_cases ek : k < m
    · rw [if_neg (by omega)]
      grind
    · rw [if_neg ek]
      grind
   rw [e1, e2, e2, e2, e2]
   grind
theorem cramP {m : Nat} (hm : m ≤ 4) {M : Nat → Nat → Rat} {z h : Nat → Rat} (he : ∀ i, i < m → smQ (fun k => M i k * z k) m = h i) {r : Nat} (hr : r < m) : det4 (padM m fun i k => if k = r then h i else M i k) = z r * det4 (padM m M) := by
 have h1 := cram (pad_eq hm M z h he) (r := r) (by omega)
 have e : padV m z r = z r := if_pos hr
 rw [e] at h1
 rw [← h1]
 refine det4_congr fun i k hi hk => ?_
 unfold padM padV
 by_cases ek : k = r
 · rw [if_pos ek]
   by_cases ei : i < m
   · rw [if_pos ⟨ei, by omega⟩, if_pos ei]
     exact if_pos ek
   · rw [if_neg (fun h => ei h.1), if_neg (by omega), if_neg ei]
 · rw [if_neg ek]
   by_cases ei : i < m ∧ k < m
   · rw [if_pos ei, if_pos ei]
     exact if_neg ek
   · rw [if_neg ei, if_neg ei]
def basM (n : Nat) (A : Nat → Nat → Rat) (T : Nat → Rat) (D : Dc) (i k : Nat) : Rat := T i * colA n A (D.own k) i
theorem basM_mul {m n i : Nat} {A : Nat → Nat → Rat} {T z : Nat → Rat} {D : Dc} {q : Rat} (h : smQ (fun k => z k * colA n A (D.own k) i) m = q) : smQ (fun k => basM n A T D i k * z k) m = T i * q := by
 rw [← h]
 have : smQ (fun k => basM n A T D i k * z k) m = smQ (fun k => (z k * colA n A (D.own k) i) * T i) m := smQ_congr fun k _ => by unfold basM; grind
 rw [this, smQ_scale]
 grind
theorem det_opn {m n : Nat} (hm : m ≤ 4) (A : Nat → Nat → Rat) (b c T : Nat → Rat) (hT : ∀ i, i < m → T i ≠ 0) : det4 (padM m (basM n A T (opnD n A b c))) ≠ 0 := by
 have e : ∀ i k, padM m (basM n A T (opnD n A b c)) i k = if i = k then (if i < m then T i else 1) else 0 := fun i k => by
  have hc : colA n A ((opnD n A b c).own k) i = if k = i then 1 else 0 := by
   show colA n A (n + k) i = _
   unfold colA
   rw [if_neg (by omega)]
   by_cases e : k = i
   · rw [if_pos (by omega), if_pos e]
   · rw [if_neg (by omega), if_neg e]
  unfold padM basM
  rw [hc]
  by_cases e1 : i = k
  · subst e1
    rw [if_pos rfl, if_pos rfl]
    by_cases e2 : i < m
    · rw [if_pos ⟨e2, e2⟩, if_pos e2]
      grind
    · rw [if_neg (fun h => e2 h.1), if_neg e2]
  · rw [if_neg e1, if_neg e1, if_neg (fun h : k = i => e1 h.symm)]
    split <;> grind
 have n0 : ∀ i, (if i < m then T i else 1) ≠ 0 := fun i => by
  by_cases e2 : i < m
  · rw [if_pos e2]; exact hT i e2
  · rw [if_neg e2]; decide
 have a0 := n0 0
 have a1 := n0 1
 have a2 := n0 2
 have a3 := n0 3
 unfold det4 D4
 simp only [e]
 simp
 generalize (if 0 < m then T 0 else 1) = t0 at *
 generalize (if 1 < m then T 1 else 1) = t1 at *
 generalize (if 2 < m then T 2 else 1) = t2 at *
 generalize (if 3 < m then T 3 else 1) = t3 at *
 have h1 : t0 * (t1 * (t2 * t3)) ≠ 0 := by
  intro h
  rcases Rat.mul_eq_zero.1 h with h | h
  · exact a0 h
  · rcases Rat.mul_eq_zero.1 h with h | h
    · exact a1 h
    · rcases Rat.mul_eq_zero.1 h with h | h
      · exact a2 h
      · exact a3 h
 intro h
 apply h1
 grind
theorem det_xch {m n r s : Nat} (hm : m ≤ 4) {A : Nat → Nat → Rat} {b T : Nat → Rat} {D : Dc} (h : Bas m n A b D) (hr : r < m) (hs : s < n) (h0 : D.a r s ≠ 0) (hd : det4 (padM m (basM n A T D)) ≠ 0) : det4 (padM m (basM n A T (D.xch r s))) ≠ 0 := by
 have h1 := cramP hm (M := basM n A T D) (z := fun k => D.a k s) (h := fun i => T i * colA n A (D.free s) i) (fun i hi => basM_mul (h.col i hi s hs)) hr
 have e : det4 (padM m (basM n A T (D.xch r s))) = D.a r s * det4 (padM m (basM n A T D)) := by
  rw [← h1]
  refine det4_congr fun i k hi hk => ?_
  unfold padM
  congr 1
  show T i * colA n A (if k = r then D.free s else D.own k) i = if k = r then T i * colA n A (D.free s) i else T i * colA n A (D.own k) i
  split <;> rfl
 rw [e]
 intro h2
 rcases Rat.mul_eq_zero.1 h2 with h2 | h2
 · exact h0 h2
 · exact hd h2
theorem Srch.bas {m n : Nat} {A : Nat → Nat → Rat} {b T : Nat → Rat} (hm : m ≤ 4) {D : Dc} {R : Option Dc} (h : Srch m n D R) (hD : D.Ok m n) (hB : Bas m n A b D) (hd : det4 (padM m (basM n A T D)) ≠ 0) : ∀ D', R = some D' → Bas m n A b D' ∧ det4 (padM m (basM n A T D')) ≠ 0 := by
 induction h with
 | stop h =>
  intro D' e
  cases e
  exact ⟨hB, hd⟩
 | full h hf => intro D' e; cases e
 | step h hf hR ih =>
  intro D' e
  obtain ⟨h1, h2, -⟩ := Dc.pick_swap hD h
  have h0 := pick_ne hD h
  exact ih (hD.xch h1 h2) (hB.xch h1 h2 h0) (det_xch hm hB h1 h2 h0 hd) D' e
end Go.Proofs.YtdlcglndhhndpaaGreat
