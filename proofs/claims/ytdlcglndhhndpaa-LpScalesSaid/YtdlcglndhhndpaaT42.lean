/- Laws and walks laid together; the conditions stand in each theorem. -/
import Derived.Test.YtdlcglndhhndpaaT21
set_option linter.unusedSimpArgs false
set_option linter.unusedVariables false
namespace Go.Proofs.Ytdlcglndhhndpaa
open Go.RowKit
theorem ZQ51 {p : Prop} (h : p := by
  first
    | (generalize σ (D.own r) = o at n1
       generalize σ (D.free s) = f at n2
       generalize D.a r s = p at h0
       grind)
    | fail) : p := h
theorem ZQ93 {p : Prop} (h : p := by
  first
    | (generalize σ (D.own r) = o at n1
       generalize σ (D.free s) = f at n2
       generalize σ (D.free j) = g at n3
       generalize D.a r s = p at h0
       grind)
    | fail) : p := h
theorem lstP_congr {vars : Nat → Nat} {f g : Nat → Bool} : ∀ {n : Nat}, (∀ i, i < n → f i = g i) → lstP vars f n = lstP vars g n
  | 0, _ => rfl
  | n + 1, h => by rw [lstP, lstP, lstP_congr fun i hi => h i (by omega), h n (by omega)]
theorem pos_times {t x : Rat} (ht : 0 < t) : 0 < t * x ↔ 0 < x := by
  refine ⟨fun h => Rat.not_le.1 fun hn => ?_, fun h => Rat.mul_pos ht h⟩
  have h1 : t * x ≤ t * 0 := Rat.mul_le_mul_of_nonneg_left hn (Rat.le_of_lt ht)
  grind
theorem neg_times {t x : Rat} (ht : 0 < t) : t * x < 0 ↔ x < 0 := by
  have h := pos_times (x := - x) ht
  have e : t * (-x) = - (t * x) := by grind
  rw [e] at h
  constructor
  · intro h1
    have := h.1 (by grind)
    grind
  · intro h1
    have := h.2 (by grind)
    grind
theorem div_pos' {a b : Rat} (ha : 0 < a) (hb : 0 < b) : 0 < a / b := by
  rw [Rat.div_def]
  exact Rat.mul_pos ha (Rat.inv_pos.2 hb)
structure Scl (σ : Nat → Rat) (γ : Rat) (m n : Nat) (D D' : Dc) : Prop where
  own : D'.own = D.own
  free : D'.free = D.free
  v : ∀ i, i < m → D'.v i = σ (D.own i) * D.v i
  a : ∀ i j, i < m → j < n → D'.a i j = σ (D.own i) / σ (D.free j) * D.a i j
  c : ∀ j, j < n → D'.c j = γ / σ (D.free j) * D.c j
section
variable {σ : Nat → Rat} {γ : Rat} {m n : Nat} {D D' : Dc}
theorem Scl.rowP (h : Scl σ γ m n D D') (hσ : ∀ u, 0 < σ u) {r : Nat} (hr : r < m) : D'.rowP n r = D.rowP n r := by
  unfold Dc.rowP
  rw [h.free, lstP_congr (f := D'.negA r) (g := D.negA r) fun j hj => by
    unfold Dc.negA
    rw [h.a r j hr hj]
    exact decide_eq_decide.2 (neg_times (div_pos' (hσ _) (hσ _)))]
theorem Scl.colP (h : Scl σ γ m n D D') (hσ : ∀ u, 0 < σ u) {s : Nat} (hs : s < n) : D'.colP m s = D.colP m s := by
  unfold Dc.colP
  rw [h.own, lstP_congr (f := D'.posA s) (g := D.posA s) fun i hi => by
    unfold Dc.posA
    rw [h.a i s hi hs]
    exact decide_eq_decide.2 (pos_times (div_pos' (hσ _) (hσ _)))]
theorem Scl.pick (h : Scl σ γ m n D D') (hσ : ∀ u, 0 < σ u) (hγ : 0 < γ) : D'.pick m n = D.pick m n := by
  have e1 : lstP D'.own D'.negR m = lstP D.own D.negR m := by
    rw [h.own]
    exact lstP_congr fun i hi => by
      unfold Dc.negR
      rw [h.v i hi]
      exact decide_eq_decide.2 (neg_times (hσ _))
  have e2 : lstP D'.free D'.posC n = lstP D.free D.posC n := by
    rw [h.free]
    exact lstP_congr fun j hj => by
      unfold Dc.posC
      rw [h.c j hj]
      exact decide_eq_decide.2 (pos_times (div_pos' hγ (hσ _)))
  unfold Dc.pick
  rw [e1, e2]
  cases h1 : lstP D.own D.negR m with
  | none =>
    cases h2 : lstP D.free D.posC n with
    | none => rfl
    | some s => exact h.colP hσ (lstP_some h2).1
  | some r =>
    cases h2 : lstP D.free D.posC n with
    | none => exact h.rowP hσ (lstP_some h1).1
    | some s =>
      show (if D'.own r < D'.free s then D'.rowP n r else D'.colP m s) = if D.own r < D.free s then D.rowP n r else D.colP m s
      rw [h.own, h.free, h.rowP hσ (lstP_some h1).1, h.colP hσ (lstP_some h2).1]
theorem Scl.xch (h : Scl σ γ m n D D') (hσ : ∀ u, 0 < σ u) {r s : Nat} (hr : r < m) (hs : s < n) (h0 : D.a r s ≠ 0) : Scl σ γ m n (D.xch r s) (D'.xch r s) := by
  have nz : ∀ u, σ u ≠ 0 := fun u e => by have := hσ u; rw [e] at this; exact absurd this (by decide)
  have n1 := nz (D.own r)
  have n2 := nz (D.free s)
  refine ⟨?_, ?_, fun i hi => ?_, fun i j hi hj => ?_, fun j hj => ?_⟩
  · show (fun i => if i = r then D'.free s else D'.own i) = fun i => if i = r then D.free s else D.own i
    rw [h.own, h.free]
  · show (fun j => if j = s then D'.own r else D'.free j) = fun j => if j = s then D.own r else D.free j
    rw [h.own, h.free]
  · show (if i = r then D'.v r / D'.a r s else D'.v i - D'.a i s * (D'.v r / D'.a r s)) = σ (if i = r then D.free s else D.own i) * (if i = r then D.v r / D.a r s else D.v i - D.a i s * (D.v r / D.a r s))
    rw [h.a r s hr hs, h.v r hr]
    by_cases e : i = r
    · rw [if_pos e, if_pos e, if_pos e]
      exact ZQ51
    · rw [if_neg e, if_neg e, if_neg e, h.a i s hi hs, h.v i hi]
      exact ZQ51
  · show (if i = r then (if j = s then 1 / D'.a r s else D'.a r j / D'.a r s) else (if j = s then 0 - D'.a i s * (1 / D'.a r s) else D'.a i j - D'.a i s * (D'.a r j / D'.a r s))) = σ (if i = r then D.free s else D.own i) / σ (if j = s then D.own r else D.free j) * (if i = r then (if j = s then 1 / D.a r s else D.a r j / D.a r s) else (if j = s then 0 - D.a i s * (1 / D.a r s) else D.a i j - D.a i s * (D.a r j / D.a r s)))
    have n3 := nz (D.free j)
    have n4 := nz (D.own i)
    rw [h.a r s hr hs]
    by_cases e : i = r
    · by_cases e2 : j = s
      · simp only [if_pos e, if_pos e2]
        exact ZQ51
      · simp only [if_pos e, if_neg e2]
        rw [h.a r j hr hj]
        exact ZQ93
    · by_cases e2 : j = s
      · simp only [if_neg e, if_pos e2]
        rw [h.a i s hi hs]
        generalize σ (D.own r) = o at n1
        generalize σ (D.free s) = f at n2
        generalize σ (D.own i) = q at n4
        generalize D.a r s = p at h0
        grind
      · simp only [if_neg e, if_neg e2]
        rw [h.a i s hi hs, h.a i j hi hj, h.a r j hr hj]
        generalize σ (D.own r) = o at n1
        generalize σ (D.free s) = f at n2
        generalize σ (D.own i) = q at n4
        generalize σ (D.free j) = g at n3
        generalize D.a r s = p at h0
        grind
  · show (if j = s then 0 - D'.c s * (1 / D'.a r s) else D'.c j - D'.c s * (D'.a r j / D'.a r s)) = γ / σ (if j = s then D.own r else D.free j) * (if j = s then 0 - D.c s * (1 / D.a r s) else D.c j - D.c s * (D.a r j / D.a r s))
    have n3 := nz (D.free j)
    rw [h.a r s hr hs, h.c s hs]
    by_cases e2 : j = s
    · simp only [if_pos e2]
      exact ZQ51
    · simp only [if_neg e2]
      rw [h.c j hj, h.a r j hr hj]
      exact ZQ93
end
section
variable {m n : Nat} {A A' : Nat → Nat → Rat} {b c b' c' : Nat → Rat}
end
end Go.Proofs.Ytdlcglndhhndpaa
namespace Go.Proofs.Ytdlcglndhhndpaa
open Go.RowKit
def CerE (m n : Nat) (A : Nat → Nat → Rat) (b c : Nat → Rat) : LpEnd → Prop
  | .full => True
  | .none y => CerN m n A b y
  | .ray x => CerR m n A c x ∧ ∃ z, Sol m n A b z
  | .best x y => CerB m n A b c x y
section
variable {m n : Nat} {A A' : Nat → Nat → Rat} {b c b' c' : Nat → Rat}
theorem LpSays.cer {E : LpEnd} (h : LpSays m n A b c E) : CerE m n A b c E := by
  cases E with
  | full => exact True.intro
  | none y => exact h.isN
  | ray x => exact ⟨h.isR, h.rayF⟩
  | best x y => exact h.isB
theorem sol_congr {x : Nat → Rat} (hA : ∀ i j, i < m → j < n → A i j = A' i j) (hb : ∀ i, i < m → b i = b' i) (h : Sol m n A b x) : Sol m n A' b' x := ⟨h.1, fun i hi => by
  rw [← hb i hi, ← smQ_congr (f := fun j => A i j * x j) (fun j hj => by rw [hA i j hi hj])]
  exact h.2 i hi⟩
theorem pri_congr {y : Nat → Rat} (hA : ∀ i j, i < m → j < n → A i j = A' i j) (hc : ∀ j, j < n → c j = c' j) (h : Pri m n A c y) : Pri m n A' c' y := ⟨h.1, fun k hk => by
  rw [← hc k hk, ← smQ_congr (f := fun i => y i * A i k) (fun i hi => by rw [hA i k hi hk])]
  exact h.2 k hk⟩
theorem CerE.congr (hA : ∀ i j, i < m → j < n → A i j = A' i j) (hb : ∀ i, i < m → b i = b' i) (hc : ∀ j, j < n → c j = c' j) {E : LpEnd} (h : CerE m n A b c E) : CerE m n A' b' c' E := by
  have e1 : ∀ y : Nat → Rat, smQ (fun i => y i * b i) m = smQ (fun i => y i * b' i) m := fun y => smQ_congr fun i hi => by rw [hb i hi]
  have e2 : ∀ x : Nat → Rat, smQ (fun j => c j * x j) n = smQ (fun j => c' j * x j) n := fun x => smQ_congr fun j hj => by rw [hc j hj]
  cases E with
  | full => exact True.intro
  | none y => exact ⟨pri_congr hA (fun _ _ => rfl) h.1, by rw [← e1]; exact h.2⟩
  | ray x => exact ⟨⟨sol_congr hA (fun _ _ => rfl) h.1.1, by rw [← e2]; exact h.1.2⟩, by obtain ⟨z, hz⟩ := h.2; exact ⟨z, sol_congr hA hb hz⟩⟩
  | best x y => exact ⟨sol_congr hA hb h.1, pri_congr hA hc h.2.1, by rw [← e1, ← e2]; exact h.2.2⟩
theorem turn_endsC {E E' : LpEnd} (h : CerE m n A b c E) (h' : CerE n m (fun k i => - A i k) (fun k => - c k) (fun i => - b i) E') (hE : E ≠ .full) (hE' : E' ≠ .full) : Turn E E' := by
  cases E with
  | full => exact absurd rfl hE
  | none y =>
    cases E' with
    | full => exact absurd rfl hE'
    | none x => exact .nones
    | ray x => exact .none
    | best u v => exact (cerN_no h (turn_cerB h').1).elim
  | ray x =>
    cases E' with
    | full => exact absurd rfl hE'
    | none y => exact .ray
    | ray y => obtain ⟨x0, h0⟩ := h.2; exact (cerN_no (turn_cerR h'.1) h0).elim
    | best u v => exact (cerR_no h.1 (turn_cerB h').2.1).elim
  | best x y =>
    cases E' with
    | full => exact absurd rfl hE'
    | none z => exact (cerR_no (turn_cerN h') h.2.1).elim
    | ray z => exact (cerN_no (turn_cerR h'.1) h.1).elim
    | best u v => exact .best
theorem turn_valueC {x y u v : Nat → Rat} (h : CerB m n A b c x y) (h' : CerB n m (fun k i => - A i k) (fun k => - c k) (fun i => - b i) u v) : smQ (fun j => c j * x j) n + smQ (fun i => (- b i) * u i) m = 0 := by
  have h1 := one_value h (turn_cerB h')
  have h2 := (turn_cerB h').2.2
  rw [neg_sum b u m]
  grind
end
end Go.Proofs.Ytdlcglndhhndpaa
