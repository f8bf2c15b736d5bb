/- Plain law: the Hungarian method, the step and the change along the way. No condition. -/
import Derived.Test.YtmcamadcoglodaaH1
namespace Go.Proofs.Ytmcamadcoglodaa
open Go.RowKit

section
variable {m n p : Nat} {M far : Int} {c : Nat → Nat → Int} {U V : Nat → Int} {O W0 : Nat → Nat} {L0 : Nat → Int} {D : Nat → Bool} {a : Nat} {W : Nat → Nat} {L : Nat → Int} {d : Int} {nx : Nat}
theorem mark_self (D : Nat → Bool) (a : Nat) : mark D a a = true := by simp [mark]
theorem mark_of {D : Nat → Bool} {a k : Nat} (h : D k = true) : mark D a k = true := by unfold mark; split <;> simp_all
theorem mark_true {D : Nat → Bool} {a k : Nat} (h : mark D a k = true) : k = a ∨ D k = true := by
  unfold mark at h
  by_cases e : k = a
  · exact Or.inl e
  · rw [if_neg e] at h; exact Or.inr h
theorem mark_false {D : Nat → Bool} {a k : Nat} (h : mark D a k = false) : k ≠ a ∧ D k = false := by
  unfold mark at h
  by_cases e : k = a
  · rw [if_pos e] at h; cases h
  · rw [if_neg e] at h; exact ⟨e, h⟩
theorem mark_no {D : Nat → Bool} {a k : Nat} (h : k ≠ a) (h2 : D k = false) : mark D a k = false := by simp [mark, h, h2]
theorem Hp.dn' (h : Hp m n p M far c U V O W0 L0 D a) (ha : O a ≠ 0) {j : Nat} (hj : mark D a j = true) : j ≤ n ∧ O j ≠ 0 := by
  rcases mark_true hj with e | e
  · subst e; exact ⟨h.ale, ha⟩
  · exact h.dn j e
/-- what the scan has brought about -/
structure Seen (n : Nat) (c : Nat → Nat → Int) (U V : Nat → Int) (O W : Nat → Nat) (L : Nat → Int) (D' : Nat → Bool) (d : Int) (nx : Nat) : Prop where
  n1 : 1 ≤ nx
  n2 : nx ≤ n
  nd : D' nx = false
  dL : d = L nx
  d0 : 0 ≤ d
  dl : ∀ q, 1 ≤ q → q ≤ n → D' q = false → d ≤ L q
  low : ∀ k, 1 ≤ k → k ≤ n → D' k = false → ∀ j, D' j = true → L k ≤ c (O j) k - U (O j) - V k
  lst : ∀ k, 1 ≤ k → k ≤ n → D' k = false → D' (W k) = true ∧ L k = c (O (W k)) k - U (O (W k)) - V k
theorem Hp.seen (h : Hp m n p M far c U V O W0 L0 D a) (hp : p < m) (hmn : m ≤ n) (hM : 0 ≤ M) (hf : 2 * M < far) (hc : ∀ r k, 1 ≤ r → r ≤ m → 1 ≤ k → k ≤ n → 0 ≤ c r k ∧ c r k ≤ M) (ha : O a ≠ 0)
    (hs : Scan n far c U V O (mark D a) a W0 L0 (n + 1) W L d nx) : Seen n c U V O W L (mark D a) d nx := by
  have ra := h.row hp h.ale ha
  have hred : ∀ k, 1 ≤ k → k ≤ n → c (O a) k - U (O a) - V k < far := fun k h1 h2 => by
    have h3 := (hc (O a) k ra.1 ra.2.1 h1 h2).2
    have h4 := h.mt.pos (O a)
    have h5 := h.mt.v_ge (by omega) (by omega) hM hc h1 h2
    omega
  have hreal : ∀ k, 1 ≤ k → k ≤ n → mark D a k = false → L k ≤ L0 k ∧ L k ≤ c (O a) k - U (O a) - V k := fun k h1 h2 h3 => by
    rcases hs.new k h1 (by omega) h3 with ⟨q1, q2, q3⟩ | ⟨q1, q2, q3⟩ <;> omega
  have hlow : ∀ k, 1 ≤ k → k ≤ n → mark D a k = false → ∀ j, mark D a j = true → L k ≤ c (O j) k - U (O j) - V k := fun k h1 h2 h3 j hj => by
    have h4 := hreal k h1 h2 h3
    rcases mark_true hj with e | e
    · subst e; exact h4.2
    · have := h.low k h1 h2 (mark_false h3).2 j e
      omega
  have hlst : ∀ k, 1 ≤ k → k ≤ n → mark D a k = false → mark D a (W k) = true ∧ L k = c (O (W k)) k - U (O (W k)) - V k := fun k h1 h2 h3 => by
    rcases hs.new k h1 (by omega) h3 with ⟨q1, q2, q3⟩ | ⟨q1, q2, q3⟩
    · rw [q1, q2]
      rcases h.lst k h1 h2 (mark_false h3).2 with ⟨e1, e2⟩ | ⟨e1, e2⟩
      · have := hred k h1 h2; omega
      · exact ⟨mark_of e1, e2⟩
    · rw [q2]; exact ⟨mark_self D a, q1⟩
  rcases hs.nxt with ⟨e1, e2, e3⟩ | ⟨e1, e2, e3, e4, e5, e6⟩
  · exfalso
    obtain ⟨f, f1, f2, f3⟩ := h.mt.some (show p < n by omega)
    have hD : mark D a f = false := mark_no (fun e => ha (by rw [← e]; exact f3)) (by
      cases hd : D f
      · rfl
      · exact absurd f3 (h.dn f hd).2)
    have h1 := e3 f f1 (by omega) hD
    have h2 := (hreal f f1 f2 hD).2
    have h3 := hred f f1 f2
    omega
  · refine ⟨e1, by omega, e3, e4, ?_, fun q h1 h2 h3 => e6 q h1 (by omega) h3, hlow, hlst⟩
    obtain ⟨h1, h2⟩ := hlst nx e1 (by omega) e3
    obtain ⟨h3, h4⟩ := h.dn' ha h1
    have h5 := h.row hp h3 h4
    have h6 := h.mt.feas (O (W nx)) nx h5.1 h5.2.1 e1 (by omega)
    omega
theorem Hp.next {U' V' L' : Nat → Int} (h : Hp m n p M far c U V O W0 L0 D a) (hp : p < m) (ha : O a ≠ 0) (hold : ∀ q, mark D a q = true → W q = W0 q)
    (hs : Seen n c U V O W L (mark D a) d nx) (hh : Shift O (mark D a) d U V L (n + 1) U' V' L') : Hp m n p M far c U' V' O W L' (mark D a) nx := by
  have hd := hs.d0
  have hyes : ∀ j, mark D a j = true → U' (O j) = U (O j) + d := fun j hj => hh.uy j (by have := (h.dn' ha hj).1; omega) hj
  have hge : ∀ r, U r ≤ U' r := fun r => by
    by_cases e : ∃ j, mark D a j = true ∧ O j = r
    · obtain ⟨j, j1, rfl⟩ := e
      rw [hyes j j1]; omega
    · rw [hh.un r (fun j _ hj e2 => e ⟨j, hj, e2⟩)]; exact Int.le_refl _
  have hvt : ∀ k, mark D a k = true → V' k = V k - d := fun k hk => by
    rw [hh.v k, if_pos ⟨by have := (h.dn' ha hk).1; omega, hk⟩]
  have hvf : ∀ k, mark D a k = false → V' k = V k := fun k hk => by
    rw [hh.v k, if_neg (fun e => by rw [hk] at e; cases e.2)]
  have hlf : ∀ k, k ≤ n → mark D a k = false → L' k = L k - d := fun k h1 hk => by
    rw [hh.l k, if_pos ⟨by omega, hk⟩]
  have hD0 : mark D a 0 = true := by
    by_cases e : a = 0
    · subst e; exact mark_self D 0
    · exact mark_of (h.d0 e)
  have hnot : ∀ k, k ≤ n → mark D a k = false → O k ≠ 0 → U' (O k) = U (O k) := fun k h1 hk h0 => hh.un (O k) fun j _ hj e => by
    have h2 := h.dn' ha hj
    have := h.oinj h2.1 h1 h2.2 e
    subst this
    rw [hj] at hk; cases hk
  refine ⟨⟨fun r k r1 r2 k1 k2 => ?_, fun k k1 k2 k3 => ?_, fun k k1 k2 => ?_, fun k k1 k2 k3 => ?_, h.mt.own, h.mt.inj, h.mt.sur, fun r => ?_⟩, h.o0, fun r hr => ?_, ?_, hs.n2, hs.nd, fun k hk => h.dn' ha hk, fun _ => hD0, fun e => ?_, ?_, fun k k1 k2 k3 j hj => ?_, fun k k1 k2 k3 => ?_, fun _ => ?_⟩
  · have h1 := h.mt.feas r k r1 r2 k1 k2
    by_cases e : ∃ j, mark D a j = true ∧ O j = r
    · obtain ⟨j, j1, rfl⟩ := e
      rw [hyes j j1]
      cases hk : mark D a k
      · rw [hvf k hk]
        have h2 := hs.low k k1 k2 hk j j1
        have h3 := hs.dl k k1 k2 hk
        omega
      · rw [hvt k hk]; omega
    · rw [hh.un r (fun j _ hj e2 => e ⟨j, hj, e2⟩)]
      cases hk : mark D a k
      · rw [hvf k hk]; exact h1
      · rw [hvt k hk]; omega
  · have h1 := h.mt.tight k k1 k2 k3
    cases hk : mark D a k
    · rw [hvf k hk, hnot k k2 hk k3]; exact h1
    · rw [hvt k hk, hyes k hk]; omega
  · have h1 := h.mt.neg k k1 k2
    cases hk : mark D a k
    · rw [hvf k hk]; exact h1
    · rw [hvt k hk]; omega
  · cases hk : mark D a k
    · rw [hvf k hk]; exact h.mt.free k k1 k2 k3
    · exact absurd k3 (h.dn' ha hk).2
  · have := h.mt.pos r
    have := hge r
    omega
  · rw [hh.un r (fun j _ hj e => by
      have h2 := h.dn' ha hj
      have := (h.row hp h2.1 h2.2).2.2
      omega)]
    exact h.uz r hr
  · have h1 := hyes 0 hD0
    rw [h.o0] at h1
    have h2 := h.v0
    rw [hvt 0 hD0, h1]
    omega
  · have := hs.n1; omega
  · obtain ⟨rk, hrk⟩ := h.tree
    refine ⟨fun k => if k = a then rk (W a) + 1 else rk k, fun k hk k1 => ?_⟩
    have hW := hold k hk
    have main : D (W k) = true ∧ U (O (W k)) + V k = c (O (W k)) k ∧ (k ≠ a → rk (W k) < rk k) := by
      rw [hW]
      by_cases e : k = a
      · subst e
        rcases h.lst k k1 h.ale h.na with ⟨e1, _⟩ | ⟨e1, e2⟩
        · omega
        · have := h.la (by omega)
          exact ⟨e1, by omega, fun h => absurd rfl h⟩
      · have hD : D k = true := by
          rcases mark_true hk with e2 | e2
          · exact absurd e2 e
          · exact e2
        have h1 := hrk k hD k1
        exact ⟨h1.1, h1.2.2, fun _ => h1.2.1⟩
    obtain ⟨m1, m2, m3⟩ := main
    have hne : W k ≠ a := fun e => by rw [e, h.na] at m1; cases m1
    refine ⟨mark_of m1, ?_, ?_⟩
    · simp only [if_neg hne]
      by_cases e : k = a
      · subst e; simp
      · simp only [if_neg e]; exact m3 e
    · rw [hvt k hk, hyes (W k) (mark_of m1)]; omega
  · have h1 := hs.low k k1 k2 k3 j hj
    rw [hlf k k2 k3, hvf k k3, hyes j hj]; omega
  · obtain ⟨h1, h2⟩ := hs.lst k k1 k2 k3
    right
    refine ⟨h1, ?_⟩
    rw [hlf k k2 k3, hvf k k3, hyes (W k) h1]; omega
  · rw [hlf nx hs.n2 hs.nd]
    have := hs.dL
    omega
end
/-- along the way back: every row but the one of column a has its column; g is what is left of the way -/
structure Au (m n i : Nat) (c : Nat → Nat → Int) (U V : Nat → Int) (O W : Nat → Nat) (a g : Nat) : Prop where
  feas : ∀ r k, 1 ≤ r → r ≤ m → 1 ≤ k → k ≤ n → U r + V k ≤ c r k
  neg : ∀ k, 1 ≤ k → k ≤ n → V k ≤ 0
  pos : ∀ r, 0 ≤ U r
  ale : a ≤ n
  tight : ∀ k, 1 ≤ k → k ≤ n → k ≠ a → O k ≠ 0 → U (O k) + V k = c (O k) k
  free : ∀ k, 1 ≤ k → k ≤ n → O k = 0 → V k = 0
  own : ∀ k, k ≤ n → O k ≤ i
  inj : ∀ k k', k ≤ n → k' ≤ n → k ≠ a → k' ≠ a → O k = O k' → O k ≠ 0 → k = k'
  sur : ∀ r, 1 ≤ r → r ≤ i → ∃ k, k ≤ n ∧ k ≠ a ∧ O k = r
  path : ∃ (rk : Nat → Nat) (S : Nat → Prop), S a ∧ rk a = g ∧ ∀ k, S k → 1 ≤ k → rk k ≤ rk a → W k ≤ n ∧ S (W k) ∧ rk (W k) < rk k ∧ O (W k) ≠ 0 ∧ U (O (W k)) + V k = c (O (W k)) k
section
variable {m n p : Nat} {M far : Int} {c : Nat → Nat → Int} {U V : Nat → Int} {O W : Nat → Nat} {L : Nat → Int} {D : Nat → Bool} {a g i : Nat}
theorem Hp.back (h : Hp m n p M far c U V O W L D a) (h0 : a ≠ 0) (ha : O a = 0) : ∃ g, Au m n (p + 1) c U V O W a g := by
  obtain ⟨rk, hrk⟩ := h.tree
  have hla : D (W a) = true ∧ U (O (W a)) + V a = c (O (W a)) a := by
    rcases h.lst a (by omega) h.ale h.na with ⟨e1, _⟩ | ⟨e1, e2⟩
    · omega
    · have := h.la h0
      exact ⟨e1, by omega⟩
  refine ⟨rk (W a) + 1, h.mt.feas, h.mt.neg, h.mt.pos, h.ale, fun k h1 h2 _ h3 => h.mt.tight k h1 h2 h3, h.mt.free, fun k hk => ?_, fun k k' h1 h2 _ _ h5 h6 => h.oinj h1 h2 h6 h5, fun r h1 h2 => ?_, fun k => if k = a then rk (W a) + 1 else rk k, fun k => D k = true ∨ k = a, Or.inr rfl, by simp, fun k hk k1 _ => ?_⟩
  · by_cases e : k = 0
    · subst e; have := h.o0; omega
    · have := h.mt.own k (by omega) hk; omega
  · by_cases e : r = p + 1
    · exact ⟨0, Nat.zero_le _, fun e => h0 e.symm, by rw [h.o0]; exact e.symm⟩
    · obtain ⟨k, k1, k2, k3⟩ := h.mt.sur r h1 (by omega)
      exact ⟨k, k2, fun e => by subst e; omega, k3⟩
  · have main : D (W k) = true ∧ U (O (W k)) + V k = c (O (W k)) k ∧ (k ≠ a → rk (W k) < rk k) := by
      by_cases e : k = a
      · subst e; exact ⟨hla.1, hla.2, fun h => absurd rfl h⟩
      · have hD : D k = true := by
          rcases hk with e2 | e2
          · exact e2
          · exact absurd e2 e
        have h1 := hrk k hD k1
        exact ⟨h1.1, h1.2.2, fun _ => h1.2.1⟩
    obtain ⟨m1, m2, m3⟩ := main
    have hne : W k ≠ a := fun e => by rw [e, h.na] at m1; cases m1
    have hdn := h.dn _ m1
    refine ⟨hdn.1, Or.inl m1, ?_, hdn.2, m2⟩
    simp only [if_neg hne]
    by_cases e : k = a
    · subst e; simp
    · simp only [if_neg e]; exact m3 e
theorem Au.step (h : Au m n i c U V O W a g) (h0 : a ≠ 0) : W a ≤ n ∧ ∃ g', g' < g ∧ Au m n i c U V (fun k => if k = a then O (W a) else O k) W (W a) g' := by
  obtain ⟨rk, S, s1, s2, s3⟩ := h.path
  obtain ⟨w1, w2, w3, w4, w5⟩ := s3 a s1 (by omega) (Nat.le_refl _)
  have hwa : W a ≠ a := fun e => by rw [e] at w3; omega
  refine ⟨w1, rk (W a), by omega, h.feas, h.neg, h.pos, w1, fun k k1 k2 k3 k4 => ?_, fun k k1 k2 k3 => ?_, fun k hk => ?_, fun k k' h1 h2 h3 h4 h5 h6 => ?_, fun r r1 r2 => ?_, rk, S, w2, rfl, fun k hk k1 k2 => ?_⟩
  · by_cases e : k = a
    · subst e; simp only [if_true]; exact w5
    · simp only [if_neg e] at k4 ⊢; exact h.tight k k1 k2 e k4
  · by_cases e : k = a
    · subst e; simp only [if_true] at k3; exact absurd k3 w4
    · simp only [if_neg e] at k3; exact h.free k k1 k2 k3
  · by_cases e : k = a
    · simp only [if_pos e]; exact h.own _ w1
    · simp only [if_neg e]; exact h.own k hk
  · by_cases e1 : k = a <;> by_cases e2 : k' = a
    · omega
    · simp only [if_pos e1, if_neg e2] at h5 h6
      exact absurd (h.inj (W a) k' w1 h2 hwa e2 h5 h6).symm h4
    · simp only [if_neg e1, if_pos e2] at h5 h6
      exact absurd (h.inj k (W a) h1 w1 e1 hwa h5 h6) h3
    · simp only [if_neg e1, if_neg e2] at h5 h6
      exact h.inj k k' h1 h2 e1 e2 h5 h6
  · obtain ⟨k, k1, k2, k3⟩ := h.sur r r1 r2
    by_cases e : k = W a
    · refine ⟨a, h.ale, fun q => hwa q.symm, ?_⟩
      simp only [if_true]
      rw [← e]; exact k3
    · exact ⟨k, k1, e, by simp only [if_neg k2]; exact k3⟩
  · obtain ⟨q1, q2, q3, q4, q5⟩ := s3 k hk k1 (by omega)
    have hne : W k ≠ a := fun e => by rw [e] at q3; omega
    refine ⟨q1, q2, q3, ?_, ?_⟩
    · simp only [if_neg hne]; exact q4
    · simp only [if_neg hne]; exact q5
theorem Au.fin (h : Au m n i c U V O W 0 g) : Mt m n i c U V O :=
  ⟨h.feas, fun k h1 h2 h3 => h.tight k h1 h2 (by omega) h3, h.neg, h.free, fun k _ h2 => h.own k h2, fun k k' h1 h2 h3 h4 h5 h6 => h.inj k k' h2 h4 (by omega) (by omega) h5 h6, fun r h1 h2 => by
    obtain ⟨k, k1, k2, k3⟩ := h.sur r h1 h2
    exact ⟨k, by omega, k1, k3⟩, h.pos⟩
end
end Go.Proofs.Ytmcamadcoglodaa
