/- Laws and walks; conditions stand in each theorem. -/
import Derived.Test.YtdlcglndhhndpaaGreatP19
import Derived.Test.YtdlcglndhhndpaaGreatP20
import Derived.Test.YtdlcglndhhndpaaGreatP10
set_option linter.unusedSimpArgs false
set_option linter.unusedVariables false
namespace Go.Proofs.YtdlcglndhhndpaaGreat
open Go.RowKit
def idxP (f : Nat → Nat) (u : Nat) : Nat → Option Nat
 | 0 => none
 | k + 1 => match idxP f u k with
  | some i => some i
  | none => if f k = u then some k else none
theorem idxP_spec (f : Nat → Nat) (u : Nat) : ∀ m : Nat, (idxP f u m = none ∧ ∀ i, i < m → f i ≠ u) ∨ ∃ i, idxP f u m = some i ∧ i < m ∧ f i = u
 | 0 => Or.inl ⟨rfl, fun i hi => absurd hi (by omega)⟩
 | m + 1 => by
  rw [idxP]
  rcases idxP_spec f u m with ⟨h1, h2⟩ | ⟨i, h1, h2, h3⟩
  · rw [h1]
    by_cases e : f m = u
    · exact Or.inr ⟨m, if_pos e, by omega, e⟩
    · refine Or.inl ⟨if_neg e, fun i hi => ?_⟩
      by_cases e2 : i = m
      · rw [e2]; exact e
      · exact h2 i (by omega)
  · rw [h1]
    exact Or.inr ⟨i, rfl, by omega, h3⟩
theorem idxP_at {f : Nat → Nat} {m i : Nat} (hi : i < m) (hf : ∀ i k, i < m → k < m → f i = f k → i = k) : idxP f (f i) m = some i := by
 rcases idxP_spec f (f i) m with ⟨h1, h2⟩ | ⟨k, h1, h2, h3⟩
 · exact absurd rfl (h2 i hi)
 · rw [h1, hf k i h2 hi h3]
theorem idxP_out {f : Nat → Nat} {m u : Nat} (h : ∀ i, i < m → f i ≠ u) : idxP f u m = none := by
 rcases idxP_spec f u m with ⟨h1, h2⟩ | ⟨k, h1, h2, h3⟩
 · exact h1
 · exact absurd h3 (h k h2)
def xB (m : Nat) (D : Dc) (u : Nat) : Rat := match idxP D.own u m with
 | some i => D.v i
 | none => 0
def yB (n : Nat) (D : Dc) (k : Nat) : Rat := match idxP D.free (n + k) n with
 | some j => 0 - D.c j
 | none => 0
def yC (n : Nat) (D : Dc) (r k : Nat) : Rat := if D.own r = n + k then 1 else match idxP D.free (n + k) n with
 | some j => D.a r j
 | none => 0
def xR (m : Nat) (D : Dc) (s u : Nat) : Rat := if D.free s = u then 1 else match idxP D.own u m with
 | some i => 0 - D.a i s
 | none => 0
section
variable {m n : Nat} {A : Nat → Nat → Rat} {b c : Nat → Rat} {D : Dc}
theorem best_is (hD : D.Ok m n) (hl : (opnD n A b c).Like m n D) (hv : ∀ i, i < m → 0 ≤ D.v i) (hc : ∀ j, j < n → D.c j ≤ 0) :
 (∀ u, u < n → 0 ≤ xB m D u) ∧ (∀ i, i < m → 0 ≤ yB n D i) ∧ (∀ i, i < m → smQ (fun j => A i j * xB m D j) n ≤ b i) ∧ (∀ k, k < n → c k ≤ smQ (fun i => yB n D i * A i k) m) ∧ smQ (fun i => yB n D i * b i) m = smQ (fun j => c j * xB m D j) n := by
 obtain ⟨x, y, h1, h2, h3, h4, h5, h6, h7, h8, h9⟩ := best_cert hD hl hv hc
 have ex : ∀ u, u < n → xB m D u = x u := fun u hu => by
  unfold xB
  rcases hD.all u (by omega) with ⟨i, hi, e⟩ | ⟨j, hj, e⟩
  · rw [← e, idxP_at hi hD.io]
    exact (h6 i hi (by omega)).symm
  · rw [idxP_out (fun i hi e2 => hD.ne i j hi hj (by rw [e2, e]))]
    rw [← e]
    exact (h7 j hj (by omega)).symm
 have ey : ∀ k, k < m → yB n D k = y k := fun k hk => by
  unfold yB
  rcases hD.all (n + k) (by omega) with ⟨i, hi, e⟩ | ⟨j, hj, e⟩
  · rw [idxP_out (fun j hj e2 => hD.ne i j hi hj (by rw [e, e2]))]
    have := h8 i hi (by omega)
    rw [e, Nat.add_sub_cancel_left] at this
    exact this.symm
  · rw [← e, idxP_at hj hD.jf]
    have := h9 j hj (by omega)
    rw [e, Nat.add_sub_cancel_left] at this
    rw [this]
    grind
 refine ⟨fun u hu => by rw [ex u hu]; exact h1 u hu, fun i hi => by rw [ey i hi]; exact h2 i hi, fun i hi => ?_, fun k hk => ?_, ?_⟩
 · rw [smQ_congr (g := fun j => A i j * x j) (fun j hj => by rw [ex j hj])]
   exact h3 i hi
 · rw [smQ_congr (g := fun i => y i * A i k) (fun i hi => by rw [ey i hi])]
   exact h4 k hk
 · rw [smQ_congr (g := fun i => y i * b i) (fun i hi => by rw [ey i hi]), smQ_congr (f := fun j => c j * xB m D j) (g := fun j => c j * x j) (fun j hj => by rw [ex j hj])]
   exact h5
theorem none_is {r : Nat} (hD : D.Ok m n) (hl : (opnD n A b c).Like m n D) (hr : r < m) (hv : D.v r < 0) (ha : ∀ j, j < n → 0 ≤ D.a r j) :
 (∀ i, i < m → 0 ≤ yC n D r i) ∧ (∀ k, k < n → 0 ≤ smQ (fun i => yC n D r i * A i k) m) ∧ smQ (fun i => yC n D r i * b i) m < 0 := by
 obtain ⟨y, h1, h2, h3, h4, h5, h6⟩ := none_cert hD hl hr hv ha
 have ey : ∀ k, k < m → yC n D r k = y k := fun k hk => by
  unfold yC
  by_cases e0 : D.own r = n + k
  · rw [if_pos e0]
    have := h5 (by omega)
    rw [e0, Nat.add_sub_cancel_left] at this
    exact this.symm
  · rw [if_neg e0]
    rcases hD.all (n + k) (by omega) with ⟨i, hi, e⟩ | ⟨j, hj, e⟩
    · rw [idxP_out (fun j hj e2 => hD.ne i j hi hj (by rw [e, e2]))]
      have := h4 i hi (fun e2 => e0 (by rw [← e2]; exact e)) (by omega)
      rw [e, Nat.add_sub_cancel_left] at this
      exact this.symm
    · rw [← e, idxP_at hj hD.jf]
      have := h6 j hj (by omega)
      rw [e, Nat.add_sub_cancel_left] at this
      exact this.symm
 refine ⟨fun i hi => by rw [ey i hi]; exact h1 i hi, fun k hk => ?_, ?_⟩
 · rw [smQ_congr (g := fun i => y i * A i k) (fun i hi => by rw [ey i hi])]
   exact h2 k hk
 · rw [smQ_congr (g := fun i => y i * b i) (fun i hi => by rw [ey i hi])]
   exact h3
theorem ray_is {s : Nat} (hD : D.Ok m n) (hl : (opnD n A b c).Like m n D) (hs : s < n) (hc : 0 < D.c s) (ha : ∀ i, i < m → D.a i s ≤ 0) :
 (∀ u, u < n → 0 ≤ xR m D s u) ∧ (∀ i, i < m → smQ (fun j => A i j * xR m D s j) n ≤ 0) ∧ 0 < smQ (fun j => c j * xR m D s j) n := by
 obtain ⟨x, h1, h2, h3, h4, h5, h6⟩ := ray_cert hD hl hs hc ha
 have ex : ∀ u, u < n → xR m D s u = x u := fun u hu => by
  unfold xR
  by_cases e0 : D.free s = u
  · rw [if_pos e0]
    have := h5 (by omega)
    rw [e0] at this
    exact this.symm
  · rw [if_neg e0]
    rcases hD.all u (by omega) with ⟨i, hi, e⟩ | ⟨j, hj, e⟩
    · rw [← e, idxP_at hi hD.io]
      rw [h4 i hi (by omega)]
      grind
    · rw [idxP_out (fun i hi e2 => hD.ne i j hi hj (by rw [e2, e]))]
      have := h6 j hj (fun e2 => e0 (by rw [← e2]; exact e)) (by omega)
      rw [e] at this
      exact this.symm
 refine ⟨fun u hu => by rw [ex u hu]; exact h1 u hu, fun i hi => ?_, ?_⟩
 · rw [smQ_congr (g := fun j => A i j * x j) (fun j hj => by rw [ex j hj])]
   exact h2 i hi
 · rw [smQ_congr (g := fun j => c j * x j) (fun j hj => by rw [ex j hj])]
   exact h3
theorem zero_end (hl : (opnD n A b fun _ => 0).Like m n D) (hD : D.Ok m n) {s : Nat} (hs : s < n) : D.c s = 0 := by
 obtain ⟨κ, hκ⟩ := hl.gol
 obtain ⟨x, x1, -, -, -, x5⟩ := hD.ray hs
 have h1 := hκ x 0 ((hl.on x 0).2 x1)
 rw [gol_opn, x5, smQ_zero (fun j _ => by grind)] at h1
 grind
end
inductive LpEnd
 | full
 | none (y : Nat → Rat)
 | ray (x : Nat → Rat)
 | best (x y : Nat → Rat)
def endOf (m n : Nat) (D : Dc) : LpEnd := match D.pick m n with
 | .endless s => .ray (xR m D s)
 | _ => .best (xB m D) (yB n D)
inductive LpSays (m n : Nat) (A : Nat → Nat → Rat) (b c : Nat → Rat) : LpEnd → Prop
 | full1 (h : Srch m n (opnD n A b fun _ => 0) none) : LpSays m n A b c .full
 | none {D : Dc} {r : Nat} (h : Srch m n (opnD n A b fun _ => 0) (some D)) (hr : D.pick m n = .contra r) : LpSays m n A b c (.none (yC n D r))
 | full2 {D : Dc} (h : Srch m n (opnD n A b fun _ => 0) (some D)) (hr : ∀ r, D.pick m n ≠ .contra r) (h2 : Srch m n (opnD n A b c) none) : LpSays m n A b c .full
 | fin {D D' : Dc} (h : Srch m n (opnD n A b fun _ => 0) (some D)) (hr : ∀ r, D.pick m n ≠ .contra r) (h2 : Srch m n (opnD n A b c) (some D')) : LpSays m n A b c (endOf m n D')
section
variable {m n : Nat} {A : Nat → Nat → Rat} {b c : Nat → Rat}
theorem LpSays.det {E E' : LpEnd} (h : LpSays m n A b c E) (h' : LpSays m n A b c E') : E = E' := by
 cases h with
 | full1 h =>
  cases h' with
  | full1 _ => rfl
  | none g _ => exact absurd (h.det g) (by simp)
  | full2 g _ _ => rfl
  | fin g _ _ => exact absurd (h.det g) (by simp)
 | none h hr =>
  cases h' with
  | full1 g => exact absurd (h.det g) (by simp)
  | none g gr =>
   have e := Option.some.inj (h.det g)
   subst e
   rw [hr] at gr
   cases gr
   rfl
  | full2 g gr _ =>
   have e := Option.some.inj (h.det g)
   subst e
   exact absurd hr (gr _)
  | fin g gr _ =>
   have e := Option.some.inj (h.det g)
   subst e
   exact absurd hr (gr _)
 | full2 h hr h2 =>
  cases h' with
  | full1 _ => rfl
  | none g gr =>
   have e := Option.some.inj (h.det g)
   subst e
   exact absurd gr (hr _)
  | full2 _ _ _ => rfl
  | fin _ _ g2 => exact absurd (h2.det g2) (by simp)
 | fin h hr h2 =>
  cases h' with
  | full1 g => exact absurd (h.det g) (by simp)
  | none g gr =>
   have e := Option.some.inj (h.det g)
   subst e
   exact absurd gr (hr _)
  | full2 _ _ g2 => exact absurd (h2.det g2) (by simp)
  | fin _ _ g2 =>
   have e := Option.some.inj (h2.det g2)
   subst e
   rfl
theorem LpSays.none_cert {y : Nat → Rat} (h : LpSays m n A b c (.none y)) : (∀ i, i < m → 0 ≤ y i) ∧ (∀ k, k < n → 0 ≤ smQ (fun i => y i * A i k) m) ∧ smQ (fun i => y i * b i) m < 0 := by
 generalize hE : LpEnd.none y = E at h
 cases h with
 | full1 _ => cases hE
 | none h hr =>
  cases hE
  obtain ⟨g1, g2, -⟩ := h.like (opn_ok m n A b _) _ rfl
  obtain ⟨k1, k2, k3⟩ := Dc.pick_contra hr
  exact none_is g1 g2 k1 k2 k3
 | full2 _ _ _ => cases hE
 | fin _ _ _ => unfold endOf at hE; split at hE <;> cases hE
theorem LpSays.ray_cert {x : Nat → Rat} (h : LpSays m n A b c (.ray x)) : (∀ u, u < n → 0 ≤ x u) ∧ (∀ i, i < m → smQ (fun j => A i j * x j) n ≤ 0) ∧ 0 < smQ (fun j => c j * x j) n := by
 generalize hE : LpEnd.ray x = E at h
 cases h with
 | full1 _ => cases hE
 | none _ _ => cases hE
 | full2 _ _ _ => cases hE
 | fin h hr h2 =>
  unfold endOf at hE
  split at hE
  · rename_i s hs
    cases hE
    obtain ⟨g1, g2, -⟩ := h2.like (opn_ok m n A b c) _ rfl
    obtain ⟨k1, k2, k3⟩ := Dc.pick_endless hs
    exact ray_is g1 g2 k1 k2 k3
  · cases hE
theorem feas_of {D : Dc} (h : Srch m n (opnD n A b fun _ => 0) (some D)) (hr : ∀ r, D.pick m n ≠ .contra r) : ∃ x : Nat → Rat, (∀ u, u < n → 0 ≤ x u) ∧ ∀ i, i < m → smQ (fun j => A i j * x j) n ≤ b i := by
 obtain ⟨g1, g2, g3⟩ := h.like (opn_ok m n A b _) _ rfl
 cases hp : D.pick m n with
 | best =>
  obtain ⟨k1, k2⟩ := Dc.pick_best hp
  obtain ⟨q1, -, q3, -⟩ := best_is g1 g2 k1 k2
  exact ⟨_, q1, q3⟩
 | contra r => exact absurd hp (hr r)
 | endless s =>
  obtain ⟨k1, k2, k3⟩ := Dc.pick_endless hp
  rw [zero_end g2 g1 k1] at k2
  exact absurd k2 (by decide)
 | swap r s => exact absurd ⟨r, s, hp⟩ g3
theorem smQ_swap (y x : Nat → Rat) (A : Nat → Nat → Rat) (n : Nat) : ∀ m : Nat, smQ (fun i => y i * smQ (fun j => A i j * x j) n) m = smQ (fun k => smQ (fun i => y i * A i k) m * x k) n := fun m => by
 induction m with
 | zero =>
  rw [smQ]
  exact (smQ_zero fun k _ => by rw [smQ]; grind).symm
 | succ m ih =>
  rw [smQ, ih]
  have e5 : y m * smQ (fun j => A m j * x j) n = smQ (fun k => (A m k * x k) * y m) n := by rw [smQ_scale]; grind
  rw [e5, ← smQ_add]
  exact smQ_congr fun k _ => by rw [smQ]; grind
theorem none_feas {x y : Nat → Rat} (hx : ∀ u, u < n → 0 ≤ x u) (hA : ∀ i, i < m → smQ (fun j => A i j * x j) n ≤ b i) (hy : ∀ i, i < m → 0 ≤ y i) (hB : ∀ k, k < n → 0 ≤ smQ (fun i => y i * A i k) m) (hb : smQ (fun i => y i * b i) m < 0) : False := by
 have h1 : smQ (fun i => y i * smQ (fun j => A i j * x j) n) m ≤ smQ (fun i => y i * b i) m := smQ_le fun i hi => Rat.mul_le_mul_of_nonneg_left (hA i hi) (hy i hi)
 rw [smQ_swap] at h1
 have h2 := smQ_le (f := fun _ => (0 : Rat)) (g := fun k => smQ (fun i => y i * A i k) m * x k) (n := n) (fun k hk => Rat.mul_nonneg (hB k hk) (hx k hk))
 rw [smQ_zero (f := fun _ => (0 : Rat)) (fun _ _ => rfl)] at h2
 grind
theorem weak_dual {x y : Nat → Rat} (hx : ∀ u, u < n → 0 ≤ x u) (hA : ∀ i, i < m → smQ (fun j => A i j * x j) n ≤ b i) (hy : ∀ i, i < m → 0 ≤ y i) (hB : ∀ k, k < n → c k ≤ smQ (fun i => y i * A i k) m) : smQ (fun j => c j * x j) n ≤ smQ (fun i => y i * b i) m := by
 have h1 : smQ (fun i => y i * smQ (fun j => A i j * x j) n) m ≤ smQ (fun i => y i * b i) m := smQ_le fun i hi => Rat.mul_le_mul_of_nonneg_left (hA i hi) (hy i hi)
 rw [smQ_swap] at h1
 have h2 : smQ (fun j => c j * x j) n ≤ smQ (fun k => smQ (fun i => y i * A i k) m * x k) n := smQ_le fun k hk => Rat.mul_le_mul_of_nonneg_right (hB k hk) (hx k hk)
 grind
theorem LpSays.best_cert {x y : Nat → Rat} (h : LpSays m n A b c (.best x y)) : (∀ u, u < n → 0 ≤ x u) ∧ (∀ i, i < m → 0 ≤ y i) ∧ (∀ i, i < m → smQ (fun j => A i j * x j) n ≤ b i) ∧ (∀ k, k < n → c k ≤ smQ (fun i => y i * A i k) m) ∧ smQ (fun i => y i * b i) m = smQ (fun j => c j * x j) n := by
 generalize hE : LpEnd.best x y = E at h
 cases h with
 | full1 _ => cases hE
 | none _ _ => cases hE
 | full2 _ _ _ => cases hE
 | fin h hr h2 =>
  rename_i D D'
  obtain ⟨g1, g2, g3⟩ := h2.like (opn_ok m n A b c) _ rfl
  obtain ⟨x0, f1, f2⟩ := feas_of h hr
  unfold endOf at hE
  cases hp : D'.pick m n with
  | best =>
   rw [hp] at hE
   cases hE
   obtain ⟨k1, k2⟩ := Dc.pick_best hp
   exact best_is g1 g2 k1 k2
  | contra r =>
   obtain ⟨k1, k2, k3⟩ := Dc.pick_contra hp
   obtain ⟨q1, q2, q3⟩ := none_is g1 g2 k1 k2 k3
   exact (none_feas f1 f2 q1 q2 q3).elim
  | endless s => rw [hp] at hE; cases hE
  | swap r s => exact absurd ⟨r, s, hp⟩ g3
end
def Sol (m n : Nat) (A : Nat → Nat → Rat) (b x : Nat → Rat) : Prop := (∀ u, u < n → 0 ≤ x u) ∧ ∀ i, i < m → smQ (fun j => A i j * x j) n ≤ b i
def Pri (m n : Nat) (A : Nat → Nat → Rat) (c y : Nat → Rat) : Prop := (∀ i, i < m → 0 ≤ y i) ∧ ∀ k, k < n → c k ≤ smQ (fun i => y i * A i k) m
def CerN (m n : Nat) (A : Nat → Nat → Rat) (b y : Nat → Rat) : Prop := Pri m n A (fun _ => 0) y ∧ smQ (fun i => y i * b i) m < 0
def CerR (m n : Nat) (A : Nat → Nat → Rat) (c x : Nat → Rat) : Prop := Sol m n A (fun _ => 0) x ∧ 0 < smQ (fun j => c j * x j) n
def CerB (m n : Nat) (A : Nat → Nat → Rat) (b c x y : Nat → Rat) : Prop := Sol m n A b x ∧ Pri m n A c y ∧ smQ (fun i => y i * b i) m = smQ (fun j => c j * x j) n
section
variable {m n : Nat} {A : Nat → Nat → Rat} {b c : Nat → Rat}
theorem cerN_no {x y : Nat → Rat} (h : CerN m n A b y) (hx : Sol m n A b x) : False := none_feas hx.1 hx.2 h.1.1 h.1.2 h.2
theorem weak {x y : Nat → Rat} (hx : Sol m n A b x) (hy : Pri m n A c y) : smQ (fun j => c j * x j) n ≤ smQ (fun i => y i * b i) m := weak_dual hx.1 hx.2 hy.1 hy.2
theorem LpSays.isN {y : Nat → Rat} (h : LpSays m n A b c (.none y)) : CerN m n A b y := ⟨⟨h.none_cert.1, h.none_cert.2.1⟩, h.none_cert.2.2⟩
theorem LpSays.isR {x : Nat → Rat} (h : LpSays m n A b c (.ray x)) : CerR m n A c x := ⟨⟨h.ray_cert.1, h.ray_cert.2.1⟩, h.ray_cert.2.2⟩
theorem LpSays.isB {x y : Nat → Rat} (h : LpSays m n A b c (.best x y)) : CerB m n A b c x y := ⟨⟨h.best_cert.1, h.best_cert.2.2.1⟩, ⟨h.best_cert.2.1, h.best_cert.2.2.2.1⟩, h.best_cert.2.2.2.2⟩
end
section
variable {w0 W : World} {L : List Blk} {D : List Hl}
theorem callCmp {Y Z : Rw} {f q : Rat} (K : St w0 L D W) (hY : isQ Y f) (hZ : isQ Z q) (m1 : (⟨rdP Y.A Y.n Y.c Y.l, rdS Y.A Y.n⟩ : Hl) ∈ D) (m2 : (⟨rdP Y.B Y.m Y.d Y.k, rdS Y.B Y.m⟩ : Hl) ∈ D) (m3 : (⟨rdP Z.A Z.n Z.c Z.l, rdS Z.A Z.n⟩ : Hl) ∈ D) (m4 : (⟨rdP Z.B Z.m Z.d Z.k, rdS Z.B Z.m⟩ : Hl) ∈ D) :
 Calls Tryz.prog 54 #[.agg #[.int .i64 Y.s, .slice Y.A Y.n Y.c, .int .i64 Y.t, .slice Y.B Y.m Y.d], .agg #[.int .i64 Z.s, .slice Z.A Z.n Z.c, .int .i64 Z.t, .slice Z.B Z.m Z.d]] W fun e W' => e = .returned (.int .i64 (cmpQ f q)) ∧ St w0 L D W' := by
 have h := fCompare_any Y.s Y.t Z.s Z.t Y.A Y.B Z.A Z.B Y.n Y.c Y.m Y.d Z.n Z.c Z.m Z.d Y.l Y.k Z.l Z.k W (K.rd m1) (K.rd m2) (K.rd m3) (K.rd m4)
 rw [hY.1.right hY.2, hZ.1.right hZ.2, hY.1.rat, hZ.1.rat] at h
 exact h.mono fun e W' ⟨he, hb⟩ => ⟨he, K.keep hb⟩
end
def sumsB (t : Nat → Bool) (p : Nat → Bool) : Nat → Bool
 | 0 => true
 | k + 1 => sumsB t p k && (t k && p k)
theorem sumsB_iff {t p : Nat → Bool} : ∀ {m : Nat}, sumsB t p m = true ↔ ∀ i, i < m → t i = true ∧ p i = true
 | 0 => ⟨fun _ i hi => absurd hi (by omega), fun _ => rfl⟩
 | m + 1 => by
  rw [sumsB, Bool.and_eq_true, Bool.and_eq_true, sumsB_iff]
  constructor
  · intro ⟨h1, h2, h3⟩ i hi
    by_cases e : i = m
    · rw [e]; exact ⟨h2, h3⟩
    · exact h1 i (by omega)
  · intro h
    exact ⟨fun i hi => h i (by omega), h m (by omega)⟩
theorem sumsB_bad {t p : Nat → Bool} {m k : Nat} (hk : k < m) (h : sumsB t p (k + 1) = false) : sumsB t p m = false := by
 cases e : sumsB t p m
 · rfl
 · have : sumsB t p (k + 1) = true := sumsB_iff.2 fun i hi => sumsB_iff.1 e i (by omega)
   rw [this] at h
   cases h
theorem sums_step {t p : Nat → Bool} {k : Nat} {b bk b1 q : Bool} (h : (!bk) = (!b && sumsB t p k)) (h1 : b1 = (bk || !t k)) (hq : t k = true → q = p k) :
 (q = true → (!b1) = (!b && sumsB t p (k + 1))) ∧ (q = false → (!b && sumsB t p (k + 1)) = false) := by
 subst h1
 rw [sumsB]
 cases ht : t k
 · simp
 · rw [hq ht]
   refine ⟨fun e => ?_, fun e => ?_⟩
   · rw [e]
     simpa using h
   · rw [e]
     simp
def belB (m n : Nat) (A : Nat → Nat → Rat) (b x : Nat → Rat) : Bool := sumsB (fun i => prdK (A i) x n) (fun i => decide (smQ (fun j => A i j * x j) n ≤ b i)) m
def covB (m n : Nat) (A : Nat → Nat → Rat) (c y : Nat → Rat) : Bool := sumsB (fun k => prdK y (fun i => A i k) m) (fun k => decide (c k ≤ smQ (fun i => y i * A i k) m)) n
theorem belB_sol {m n : Nat} {A : Nat → Nat → Rat} {b x : Nat → Rat} (h : belB m n A b x = true) (hx : ∀ u, u < n → 0 ≤ x u) : Sol m n A b x :=
 ⟨hx, fun i hi => of_decide_eq_true (sumsB_iff.1 h i hi).2⟩
def SumP (w0 : World) (mb : Nat) (R : List Value) (T : TypeId) (b : Bool) (L : List Blk) (D : List Hl) (S : Bool) (e : Ending) (W' : World) : Prop :=
 ∃ (o b' : Bool) (L' : List Blk), e = .returned (.bool o) ∧ Hid (Upd mb (Value.bool b :: R).toArray T (Value.bool b' :: R).toArray L L') ∧ Hid ((o && !b') = (!b && S)) ∧ St w0 L' D W'
theorem Upd.same {b : Nat} {cs : Array Value} {t : TypeId} {L : List Blk} (h : (b, cs, t) ∈ L) : ∃ L', Upd b cs t cs L L' ∧ L' = L := by
 induction L with
 | nil => cases h
 | cons x L ih =>
  rcases List.mem_cons.1 h with e | h
  · subst e; exact ⟨_, .head L, rfl⟩
  · obtain ⟨L', h1, h2⟩ := ih h
    exact ⟨_, .tail x h1, by rw [h2]⟩
theorem Upd.trans {b : Nat} {c1 c2 c3 : Array Value} {t : TypeId} {L L' : List Blk} (h : Upd b c1 t c2 L L') : ∀ {L'' : List Blk}, (L'.map (·.1)).Nodup → Upd b c2 t c3 L' L'' → Upd b c1 t c3 L L'' := by
 induction h with
 | head L =>
  intro L'' hn h2
  cases h2 with
  | head _ => exact .head L
  | tail _ h3 =>
   have := List.mem_map_of_mem (f := fun p : Blk => p.1) h3.mem
   rw [List.map_cons, List.nodup_cons] at hn
   exact absurd this hn.1
 | tail x h ih =>
  intro L'' hn h2
  rw [List.map_cons, List.nodup_cons] at hn
  cases h2 with
  | head _ =>
   have h4 : Upd b c1 t c2 _ _ := h
   have := List.mem_map_of_mem (f := fun p : Blk => p.1) h4.mem
   rw [← h4.fsts] at this
   exact absurd this hn.1
  | tail _ h3 => exact .tail x (ih hn.2 h3)
theorem St.nodup {w W : World} {L : List Blk} {D : List Hl} (K : St w L D W) : (L.map (·.1)).Nodup := by
 rw [List.nodup_iff_pairwise_ne, List.pairwise_map]
 exact K.2.2.1
section
variable {P : Program} {ops : Array Oper} {Q : Exit → Act → World → Prop} {md : Region.Mode} {S : World → Prop} {n : Nat}
theorem wpAnyT.firstA {i : Nat} {oi : Oper} {v : Value} (hi : ops[i]? = some oi) (hsz : ops.size ≤ n)
 (hsel : ∀ (j : Nat) (o : Oper) cs b, ops[j]? = some o → o.op ≠ .select cs b) (hQ : ∀ c a w, Q (.panic c) (a.put oi.dst v) w → Q (.panic c) a w) (fuel : Nat) :
 ∀ (listed : Array Bool) (a : Act) (w : World), (∀ j oj, ops[j]? = some oj → j ≠ i → listed.getD j true = false → (∀ e ∈ oj.after, Region.binds md e = true → e.on ≠ i) → oi.apart ops oj = true) →
  i ∈ Region.ready md ops listed → YieldsIf P ops S oi v a → S w → wpAnyT P md ops Q S n fuel (listed.setIfInBounds i true) (a.put oi.dst v) w → wpAnyT P md ops Q S n (fuel + 1) listed a w := by
 induction fuel with
 | zero =>
  intro listed a w _ hr hy hS H
  exact ZQ42
 | succ fuel ih =>
  intro listed a w hfree hr hy hS H
  refine ⟨(fun h => by rw [h] at hr; cases hr), fun j hj => ?_⟩
  by_cases hji : j = i
  · subst hji
    exact hy.wpOp hi hS ⟨fun _ => hS, H⟩
  obtain ⟨hjun, oj, hoj, hall⟩ := mem_ready.1 hj
  have hiun := getD_flip (mem_ready.1 hr).1
  have hno : ∀ e ∈ oj.after, Region.binds md e = true → e.on ≠ i := fun e he hb heq => by
   exact ZQ108
  have hjn : j ≠ n := fun e => by
   have := (Array.getElem?_eq_some_iff.1 hoj).1
   omega
  exact ZQ34
theorem wpAnyT.takeA {i : Nat} {oi : Oper} {v : Value} {fuel : Nat} {listed : Array Bool} {a : Act} {w : World} (hi : ops[i]? = some oi) (hB : (decide (ops.size ≤ n) && Region.noSelect ops && Region.free md ops listed i && (Region.ready md ops listed).contains i) = true)
 (hQ : ∀ c a w, Q (.panic c) (a.put oi.dst v) w → Q (.panic c) a w) (hy : YieldsIf P ops S oi v a) (hS : S w) (h : wpAnyT P md ops Q S n fuel (listed.setIfInBounds i true) (a.put oi.dst v) w) : wpAnyT P md ops Q S n (fuel + 1) listed a w := by
 simp only [Bool.and_eq_true, decide_eq_true_eq] at hB
 obtain ⟨⟨⟨h1, h3⟩, h4⟩, h5⟩ := hB
 exact wpAnyT.firstA hi h1 (Region.noSelect_spec h3) hQ fuel listed a w (Region.free_spec hi h4) (by simpa using h5) hy hS h
theorem wpAnyT.tkA (i : Nat) {oi : Oper} {v : Value} {fuel : Nat} {listed : Array Bool} {a : Act} {w : World} {q : Prop} (hi : ops[i]? = some oi) (k : q) (hB : (decide (ops.size ≤ n) && Region.noSelect ops && Region.free md ops listed i && (Region.ready md ops listed).contains i) = true := by decide +kernel)
 (hQ : ∀ c a w, Q (.panic c) (a.put oi.dst v) w → Q (.panic c) a w := by exact fun _ _ _ h => h) (hy : YieldsIf P ops S oi v a := by (refine Or.inl ⟨by rfl, ?_⟩; intro w hSw; (try dsimp only at hSw); go_simp; try with_reducible rfl)) (hS : S w := by assumption) (h : q → wpAnyT P md ops Q S n fuel (listed.setIfInBounds i true) (a.put oi.dst v) w := by (intro hq; (try simp only [Act.put, List.setIfInBounds_toArray, List.set_cons_zero, List.set_cons_succ]); exact hq)) : wpAnyT P md ops Q S n (fuel + 1) listed a w :=
 wpAnyT.takeA hi hB hQ hy hS (h k)
theorem wpAnyT.done {listed : Array Bool} {a : Act} {w : World} (hB : decide (Region.ready md ops listed = []) = true) (h : Q .normal a w) : wpAnyT P md ops Q S n 0 listed a w := ⟨of_decide_eq_true hB, h⟩
end
end Go.Proofs.YtdlcglndhhndpaaGreat
