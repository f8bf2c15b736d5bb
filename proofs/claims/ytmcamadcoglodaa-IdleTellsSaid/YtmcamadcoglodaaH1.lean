/- Plain law: the Hungarian method, a row after the other, with prices. Rows and columns are counted from 1 on; 0 is the column of the row that is to be placed. No condition. -/
import Derived.Test.YtmcamadcoglodaaApp
namespace Go.Proofs.Ytmcamadcoglodaa
open Go.RowKit

theorem pigeon : ∀ (n : Nat) (f : Nat → Nat), (∀ k, k ≤ n → f k < n) → ∃ i j, i < j ∧ j ≤ n ∧ f i = f j
  | 0, f, h => absurd (h 0 (Nat.le_refl _)) (by omega)
  | n + 1, f, h => by
    by_cases hx : ∃ k, k ≤ n ∧ f k = f (n + 1)
    · obtain ⟨k, hk, e⟩ := hx
      exact ⟨k, n + 1, by omega, Nat.le_refl _, e⟩
    · have hne : ∀ k, k ≤ n → f k ≠ f (n + 1) := fun k hk e => hx ⟨k, hk, e⟩
      have hl := h (n + 1) (Nat.le_refl _)
      obtain ⟨i, j, hij, hj, e⟩ := pigeon n (fun k => if f k = n then f (n + 1) else f k) (fun k hk => by
        have h1 := h k (by omega)
        have h2 := hne k hk
        by_cases e : f k = n
        · simp only [if_pos e]; omega
        · simp only [if_neg e]; omega)
      refine ⟨i, j, hij, by omega, ?_⟩
      have hi2 := hne i (by omega)
      have hj2 := hne j hj
      by_cases e1 : f i = n <;> by_cases e2 : f j = n <;> simp only [e1, e2, if_true, if_false] at e <;> omega

/-- prices, and rows 1 to i that have columns -/
structure Mt (m n i : Nat) (c : Nat → Nat → Int) (U V : Nat → Int) (O : Nat → Nat) : Prop where
  feas : ∀ r k, 1 ≤ r → r ≤ m → 1 ≤ k → k ≤ n → U r + V k ≤ c r k
  tight : ∀ k, 1 ≤ k → k ≤ n → O k ≠ 0 → U (O k) + V k = c (O k) k
  neg : ∀ k, 1 ≤ k → k ≤ n → V k ≤ 0
  free : ∀ k, 1 ≤ k → k ≤ n → O k = 0 → V k = 0
  own : ∀ k, 1 ≤ k → k ≤ n → O k ≤ i
  inj : ∀ k k', 1 ≤ k → k ≤ n → 1 ≤ k' → k' ≤ n → O k = O k' → O k ≠ 0 → k = k'
  sur : ∀ r, 1 ≤ r → r ≤ i → ∃ k, 1 ≤ k ∧ k ≤ n ∧ O k = r
  pos : ∀ r, 0 ≤ U r
section
variable {m n p : Nat} {c : Nat → Nat → Int} {U V : Nat → Int} {O : Nat → Nat} {M far : Int}
theorem Mt.some (h : Mt m n p c U V O) (hp : p < n) : ∃ k, 1 ≤ k ∧ k ≤ n ∧ O k = 0 := by
  refine Classical.byContradiction fun hno => ?_
  have hz : ∀ k, 1 ≤ k → k ≤ n → O k ≠ 0 := fun k h1 h2 e => hno ⟨k, h1, h2, e⟩
  obtain ⟨i, j, hij, hj, e⟩ := pigeon (n - 1) (fun k => O (k + 1) - 1) (fun k hk => by
    have h1 := h.own (k + 1) (by omega) (by omega)
    have h2 := hz (k + 1) (by omega) (by omega)
    show O (k + 1) - 1 < n - 1
    omega)
  have e' : O (i + 1) - 1 = O (j + 1) - 1 := e
  have h1 := hz (i + 1) (by omega) (by omega)
  have h2 := hz (j + 1) (by omega) (by omega)
  have := h.inj (i + 1) (j + 1) (by omega) (by omega) (by omega) (by omega) (by omega) h1
  omega
theorem Mt.u_le (h : Mt m n p c U V O) (hp : p < n) (hc : ∀ r k, 1 ≤ r → r ≤ m → 1 ≤ k → k ≤ n → 0 ≤ c r k ∧ c r k ≤ M) {r : Nat} (h1 : 1 ≤ r) (h2 : r ≤ m) : U r ≤ M := by
  obtain ⟨k, k1, k2, k3⟩ := h.some hp
  have := h.feas r k h1 h2 k1 k2
  have := h.free k k1 k2 k3
  have := (hc r k h1 h2 k1 k2).2
  omega
theorem Mt.v_ge (h : Mt m n p c U V O) (hp : p < n) (hpm : p ≤ m) (hM : 0 ≤ M) (hc : ∀ r k, 1 ≤ r → r ≤ m → 1 ≤ k → k ≤ n → 0 ≤ c r k ∧ c r k ≤ M) {k : Nat} (h1 : 1 ≤ k) (h2 : k ≤ n) : -M ≤ V k := by
  by_cases e : O k = 0
  · have := h.free k h1 h2 e; omega
  · have h3 := h.own k h1 h2
    have h4 := h.tight k h1 h2 e
    have h5 := h.u_le hp hc (r := O k) (by omega) (by omega)
    have h6 := (hc (O k) k (by omega) (by omega) h1 h2).1
    omega
/-- before a step from column at: the columns D are in the tree -/
structure Hp (m n p : Nat) (M far : Int) (c : Nat → Nat → Int) (U V : Nat → Int) (O W : Nat → Nat) (L : Nat → Int) (D : Nat → Bool) (a : Nat) : Prop where
  mt : Mt m n p c U V O
  o0 : O 0 = p + 1
  uz : ∀ r, p + 1 < r → U r = 0
  v0 : -((p : Int) * M) ≤ V 0 + U (p + 1) ∧ V 0 ≤ 0
  ale : a ≤ n
  na : D a = false
  dn : ∀ k, D k = true → k ≤ n ∧ O k ≠ 0
  d0 : a ≠ 0 → D 0 = true
  fst : a = 0 → ∀ k, D k = false
  tree : ∃ rk : Nat → Nat, ∀ k, D k = true → 1 ≤ k → D (W k) = true ∧ rk (W k) < rk k ∧ U (O (W k)) + V k = c (O (W k)) k
  low : ∀ k, 1 ≤ k → k ≤ n → D k = false → ∀ j, D j = true → L k ≤ c (O j) k - U (O j) - V k
  lst : ∀ k, 1 ≤ k → k ≤ n → D k = false → (a = 0 ∧ L k = far) ∨ (D (W k) = true ∧ L k = c (O (W k)) k - U (O (W k)) - V k)
  la : a ≠ 0 → L a = 0
theorem Hp.start (h : Mt m n p c U V O) (hu : ∀ r, p < r → U r = 0) (hv : -((p : Int) * M) ≤ V 0 ∧ V 0 ≤ 0) (W : Nat → Nat) (L : Nat → Int) (hL : ∀ k, 1 ≤ k → k ≤ n → L k = far) :
    Hp m n p M far c U V (fun k => if k = 0 then p + 1 else O k) W L (fun _ => false) 0 where
  mt := ⟨h.feas, fun k h1 h2 => by simp only [if_neg (show k ≠ 0 by omega)]; exact h.tight k h1 h2, h.neg, fun k h1 h2 => by simp only [if_neg (show k ≠ 0 by omega)]; exact h.free k h1 h2,
    fun k h1 h2 => by simp only [if_neg (show k ≠ 0 by omega)]; exact h.own k h1 h2, fun k k' h1 h2 h3 h4 => by simp only [if_neg (show k ≠ 0 by omega), if_neg (show k' ≠ 0 by omega)]; exact h.inj k k' h1 h2 h3 h4,
    fun r h1 h2 => by
      obtain ⟨k, k1, k2, k3⟩ := h.sur r h1 h2
      exact ⟨k, k1, k2, by simp only [if_neg (show k ≠ 0 by omega)]; exact k3⟩, h.pos⟩
  o0 := rfl
  uz := fun r hr => hu r (by omega)
  v0 := by rw [hu (p + 1) (by omega)]; omega
  ale := Nat.zero_le _
  na := rfl
  dn := fun k h => by cases h
  d0 := fun h => absurd rfl h
  fst := fun _ _ => rfl
  tree := ⟨fun _ => 0, fun k h => by cases h⟩
  low := fun k _ _ _ j h => by cases h
  lst := fun k h1 h2 _ => Or.inl ⟨rfl, hL k h1 h2⟩
  la := fun h => absurd rfl h
/-- the owner of a column of the tree, and of the one that comes to it, is a row -/
theorem Hp.row {W : Nat → Nat} {L : Nat → Int} {D : Nat → Bool} {a : Nat} (h : Hp m n p M far c U V O W L D a) (hp : p < m) {j : Nat} (hj : j ≤ n) (ho : O j ≠ 0) : 1 ≤ O j ∧ O j ≤ m ∧ O j ≤ p + 1 := by
  by_cases e : j = 0
  · subst e; have := h.o0; omega
  · have := h.mt.own j (by omega) hj; omega
theorem Hp.oinj {W : Nat → Nat} {L : Nat → Int} {D : Nat → Bool} {a : Nat} (h : Hp m n p M far c U V O W L D a) {j k : Nat} (hj : j ≤ n) (hk : k ≤ n) (ho : O j ≠ 0) (e : O j = O k) : j = k := by
  by_cases e1 : j = 0 <;> by_cases e2 : k = 0
  · omega
  · subst e1; have := h.o0; have := h.mt.own k (by omega) hk; omega
  · subst e2; have := h.o0; have := h.mt.own j (by omega) hj; omega
  · exact h.mt.inj j k (by omega) hj (by omega) hk e ho
end
def mark (D : Nat → Bool) (a : Nat) : Nat → Bool := fun k => if k = a then true else D k
/-- within the scan: the columns before k have been seen -/
structure Scan (n : Nat) (far : Int) (c : Nat → Nat → Int) (U V : Nat → Int) (O : Nat → Nat) (D' : Nat → Bool) (a : Nat) (W0 : Nat → Nat) (L0 : Nat → Int) (k : Nat) (W : Nat → Nat) (L : Nat → Int) (d : Int) (nx : Nat) : Prop where
  old : ∀ q, k ≤ q ∨ D' q = true ∨ q = 0 → W q = W0 q ∧ L q = L0 q
  new : ∀ q, 1 ≤ q → q < k → D' q = false → (L q = L0 q ∧ W q = W0 q ∧ L0 q ≤ c (O a) q - U (O a) - V q) ∨ (L q = c (O a) q - U (O a) - V q ∧ W q = a ∧ L q < L0 q)
  nxt : (nx = 0 ∧ d = far ∧ ∀ q, 1 ≤ q → q < k → D' q = false → far ≤ L q) ∨ (1 ≤ nx ∧ nx < k ∧ D' nx = false ∧ d = L nx ∧ d < far ∧ ∀ q, 1 ≤ q → q < k → D' q = false → d ≤ L q)
section
variable {n : Nat} {far : Int} {c : Nat → Nat → Int} {U V : Nat → Int} {O : Nat → Nat} {D' : Nat → Bool} {a : Nat} {W0 : Nat → Nat} {L0 : Nat → Int} {k : Nat} {W : Nat → Nat} {L : Nat → Int} {d : Int} {nx : Nat}
theorem Scan.start : Scan n far c U V O D' a W0 L0 1 W0 L0 far 0 := ⟨fun _ _ => ⟨rfl, rfl⟩, fun q h1 h2 => absurd h2 (by omega), Or.inl ⟨rfl, rfl, fun q h1 h2 => absurd h2 (by omega)⟩⟩
theorem Scan.skip (h : Scan n far c U V O D' a W0 L0 k W L d nx) (hk : D' k = true) : Scan n far c U V O D' a W0 L0 (k + 1) W L d nx where
  old := fun q hq => h.old q (hq.imp (fun h => by omega) id)
  new := fun q h1 h2 h3 => by
    by_cases e : q = k
    · subst e; rw [hk] at h3; cases h3
    · exact h.new q h1 (by omega) h3
  nxt := by
    have ne : ∀ q, D' q = false → q ≠ k := fun q h1 e => by subst e; rw [hk] at h1; cases h1
    rcases h.nxt with ⟨h1, h2, h3⟩ | ⟨h1, h2, h3, h4, h5, h6⟩
    · exact Or.inl ⟨h1, h2, fun q q1 q2 q3 => h3 q q1 (by have := ne q q3; omega) q3⟩
    · exact Or.inr ⟨h1, by omega, h3, h4, h5, fun q q1 q2 q3 => h6 q q1 (by have := ne q q3; omega) q3⟩
/-- a column is seen: its least sum L' and the way W' to it, the least so far d' and where nx' -/
theorem Scan.step (h : Scan n far c U V O D' a W0 L0 k W L d nx) (h1 : 1 ≤ k) (hk : D' k = false) {x : Int} {y : Nat}
    (hx : (x = c (O a) k - U (O a) - V k ∧ y = a ∧ x < L k) ∨ (x = L k ∧ y = W k ∧ L k ≤ c (O a) k - U (O a) - V k)) {d' : Int} {nx' : Nat} (hd : (x < d ∧ d' = x ∧ nx' = k) ∨ (d ≤ x ∧ d' = d ∧ nx' = nx)) :
    Scan n far c U V O D' a W0 L0 (k + 1) (fun q => if q = k then y else W q) (fun q => if q = k then x else L q) d' nx' where
  old := fun q hq => by
    have hne : q ≠ k := fun e => by
      subst e
      rcases hq with hq | hq | hq
      · omega
      · rw [hk] at hq; cases hq
      · omega
    simp only [if_neg hne]
    exact h.old q (hq.imp (fun h => by omega) id)
  new := fun q q1 q2 q3 => by
    by_cases e : q = k
    · subst e
      simp only [if_true]
      obtain ⟨o1, o2⟩ := h.old q (by omega)
      rcases hx with ⟨x1, x2, x3⟩ | ⟨x1, x2, x3⟩
      · exact Or.inr ⟨x1, x2, by omega⟩
      · exact Or.inl ⟨by omega, by omega, by omega⟩
    · simp only [if_neg e]
      exact h.new q q1 (by omega) q3
  nxt := by
    rcases hd with ⟨d1, d2, d3⟩ | ⟨d1, d2, d3⟩
    · right
      subst d2; subst d3
      refine ⟨h1, by omega, hk, by simp, ?_, fun q q1 q2 q3 => ?_⟩
      · rcases h.nxt with ⟨_, h2, _⟩ | ⟨_, _, _, _, h5, _⟩ <;> omega
      · by_cases e : q = nx'
        · subst e; simp
        · simp only [if_neg e]
          rcases h.nxt with ⟨_, h2, h3⟩ | ⟨_, _, _, h4, h5, h6⟩
          · have := h3 q q1 (by omega) q3; omega
          · have := h6 q q1 (by omega) q3; omega
    · subst d2; subst d3
      rcases h.nxt with ⟨p1, p2, p3⟩ | ⟨p1, p2, p3, p4, p5, p6⟩
      · refine Or.inl ⟨p1, p2, fun q q1 q2 q3 => ?_⟩
        by_cases e : q = k
        · subst e; simp; omega
        · simp only [if_neg e]; exact p3 q q1 (by omega) q3
      · refine Or.inr ⟨p1, by omega, p3, by simp only [if_neg (show nx' ≠ k by omega)]; exact p4, p5, fun q q1 q2 q3 => ?_⟩
        by_cases e : q = k
        · subst e; simp; omega
        · simp only [if_neg e]; exact p6 q q1 (by omega) q3
end
/-- within the second loop: the columns before k have been moved by d -/
structure Shift (O : Nat → Nat) (D' : Nat → Bool) (d : Int) (U V L : Nat → Int) (k : Nat) (U' V' L' : Nat → Int) : Prop where
  uy : ∀ j, j < k → D' j = true → U' (O j) = U (O j) + d
  un : ∀ r, (∀ j, j < k → D' j = true → O j ≠ r) → U' r = U r
  v : ∀ q, V' q = if q < k ∧ D' q = true then V q - d else V q
  l : ∀ q, L' q = if q < k ∧ D' q = false then L q - d else L q
section
variable {O : Nat → Nat} {D' : Nat → Bool} {d : Int} {U V L : Nat → Int} {k : Nat} {U' V' L' : Nat → Int}
theorem Shift.start : Shift O D' d U V L 0 U V L := ⟨fun j h => absurd h (by omega), fun _ _ => rfl, fun q => by rw [if_neg (by omega)], fun q => by rw [if_neg (by omega)]⟩
theorem Shift.yes (h : Shift O D' d U V L k U' V' L') (hk : D' k = true) (hi : ∀ j, j < k → D' j = true → O j ≠ O k) :
    Shift O D' d U V L (k + 1) (fun r => if r = O k then U' (O k) + d else U' r) (fun q => if q = k then V' k - d else V' q) L' where
  uy := fun j hj hd => by
    by_cases e : j = k
    · subst e
      simp only [if_true]
      rw [h.un (O j) (fun q h1 h2 => hi q h1 h2)]
    · simp only [if_neg (hi j (by omega) hd)]
      exact h.uy j (by omega) hd
  un := fun r hr => by
    have := hr k (by omega) hk
    rw [if_neg (fun e : r = O k => this e.symm)]
    exact h.un r (fun j hj hd => hr j (by omega) hd)
  v := fun q => by
    by_cases e : q = k
    · subst e
      simp only [if_true]
      rw [h.v q, if_neg (by omega), if_pos ⟨by omega, hk⟩]
    · simp only [if_neg e]
      rw [h.v q]
      by_cases e2 : q < k ∧ D' q = true
      · rw [if_pos e2, if_pos ⟨by omega, e2.2⟩]
      · rw [if_neg e2, if_neg (fun h => e2 ⟨by omega, h.2⟩)]
  l := fun q => by
    rw [h.l q]
    by_cases e2 : q < k ∧ D' q = false
    · rw [if_pos e2, if_pos ⟨by omega, e2.2⟩]
    · rw [if_neg e2, if_neg (fun h => by
        by_cases e : q = k
        · subst e; rw [hk] at h; cases h.2
        · exact e2 ⟨by omega, h.2⟩)]
theorem Shift.no (h : Shift O D' d U V L k U' V' L') (hk : D' k = false) : Shift O D' d U V L (k + 1) U' V' (fun q => if q = k then L' k - d else L' q) where
  uy := fun j hj hd => by
    by_cases e : j = k
    · subst e; rw [hk] at hd; cases hd
    · exact h.uy j (by omega) hd
  un := fun r hr => h.un r (fun j hj hd => hr j (by omega) hd)
  v := fun q => by
    rw [h.v q]
    by_cases e2 : q < k ∧ D' q = true
    · rw [if_pos e2, if_pos ⟨by omega, e2.2⟩]
    · rw [if_neg e2, if_neg (fun h => by
        by_cases e : q = k
        · subst e; rw [hk] at h; cases h.2
        · exact e2 ⟨by omega, h.2⟩)]
  l := fun q => by
    by_cases e : q = k
    · subst e
      simp only [if_true]
      rw [h.l q, if_neg (by omega), if_pos ⟨by omega, hk⟩]
    · simp only [if_neg e]
      rw [h.l q]
      by_cases e2 : q < k ∧ D' q = false
      · rw [if_pos e2, if_pos ⟨by omega, e2.2⟩]
      · rw [if_neg e2, if_neg (fun h => e2 ⟨by omega, h.2⟩)]
end
end Go.Proofs.Ytmcamadcoglodaa
