/- Texts laid together: each begins with what it shows, and the conditions stand in its theorems. -/
import Derived.Test.YtdlcglndhhndpaaLPk
import Derived.Test.YtdlcglndhhndpaaMf
/- Plain law: the rank: free columns are told by the null space alone; rows that depend on each other. No condition. -/
namespace Go.Proofs.Ytdlcglndhhndpaa
open Go.RowKit
set_option linter.unusedVariables false
set_option linter.unusedSimpArgs false

theorem smQ_nil {f : Nat → Rat} {n : Nat} (h : ∀ k, k < n → f k = 0) : smQ f n = 0 := by
  rw [smQ_congr (g := fun _ => 0) h, smQ_const]
  grind
theorem smQ_single {f : Nat → Rat} {n a : Nat} (ha : a < n) (h : ∀ k, k < n → k ≠ a → f k = 0) : smQ f n = f a := by
  rw [smQ_one (f := fun _ => 0) (g := f) (c := f a) ha (by grind) h, smQ_const]
  grind
theorem smQ_two {f : Nat → Rat} {n a b : Nat} (ha : a < n) (hb : b < n) (hne : a ≠ b) (h : ∀ k, k < n → k ≠ a → k ≠ b → f k = 0) : smQ f n = f a + f b := by
  have h1 : smQ (fun k => if k = b then f b else 0) n = f b := by
    rw [smQ_single hb (fun k hk hne => if_neg hne), if_pos rfl]
  rw [smQ_one (f := fun k => if k = b then f b else 0) (g := f) (c := f a) ha (by rw [if_neg hne]; grind) (fun k hk hka => by
    by_cases e : k = b
    · rw [if_pos e, e]
    · rw [if_neg e]; exact h k hk hka e), h1]
  grind
/-- a column that depends on the columns before it -/
def FreeC (n : Nat) (m : Mx) (c : Nat) : Prop := ∃ x, nulM n m x ∧ x c ≠ 0 ∧ ∀ j, c < j → j < n → x j = 0
def cntB (fr : Nat → Bool) : Nat → Nat
  | 0 => 0
  | n + 1 => cntB fr n + if fr n = true then 1 else 0
theorem cntB_congr {f g : Nat → Bool} : ∀ {n : Nat}, (∀ i, i < n → f i = g i) → cntB f n = cntB g n
  | 0, _ => rfl
  | n + 1, h => by rw [cntB, cntB, cntB_congr (fun i hi => h i (by omega)), h n (by omega)]
theorem cntB_le (f : Nat → Bool) : ∀ n : Nat, cntB f n ≤ n
  | 0 => Nat.le_refl _
  | n + 1 => by
    have := cntB_le f n
    rw [cntB]
    split <;> omega
theorem cntB_mono {f g : Nat → Bool} : ∀ {n : Nat}, (∀ i, i < n → f i = true → g i = true) → cntB f n ≤ cntB g n
  | 0, _ => Nat.le_refl _
  | n + 1, h => by
    have h1 := cntB_mono (f := f) (g := g) (n := n) (fun i hi => h i (by omega))
    have h2 := h n (by omega)
    rw [cntB, cntB]
    by_cases e : f n = true
    · rw [if_pos e, if_pos (h2 e)]; omega
    · rw [if_neg e]; omega
theorem cntB_one {f g : Nat → Bool} {c : Nat} : ∀ {n : Nat}, (∀ i, i < n → i ≠ c → f i = true → g i = true) → cntB f n ≤ cntB g n + 1
  | 0, _ => by rw [cntB]; omega
  | n + 1, h => by
    rw [cntB, cntB]
    by_cases e : n = c
    · have h1 := cntB_mono (f := f) (g := g) (n := n) (fun i hi => h i (by omega) (by omega))
      split <;> omega
    · have h1 := cntB_one (f := f) (g := g) (c := c) (n := n) (fun i hi => h i (by omega))
      have h2 := h n (by omega) e
      by_cases e' : f n = true
      · rw [if_pos e', if_pos (h2 e')]; omega
      · rw [if_neg e']; omega
/-- how far the elimination has come -/
structure Stair (n c r : Nat) (m : Mx) (free : List Nat) (p : Nat → Nat) (fr : Nat → Bool) : Prop where
  piv : ∀ j, j < c → fr j = false → p j < r ∧ ∀ i, i < n → m i j = if i = p j then 1 else 0
  fre : ∀ j, j < c → fr j = true → p j ≤ r ∧ ∀ i, p j ≤ i → i < n → m i j = 0
  mono : ∀ j k, j < k → k < c → p j ≤ p k ∧ (fr j = false → p j < p k)
  sur : ∀ i, i < r → ∃ j, j < c ∧ fr j = false ∧ p j = i
  len : free.length = cntB fr c
  cnt : r + free.length = c
theorem Stair.start (n : Nat) (m : Mx) : Stair n 0 0 m [] (fun _ => 0) (fun _ => false) :=
  ⟨fun j h => absurd h (by omega), fun j h => absurd h (by omega), fun j k _ h => absurd h (by omega), fun i h => absurd h (by omega), rfl, rfl⟩
section
variable {n c r : Nat} {m : Mx} {free : List Nat} {p : Nat → Nat} {fr : Nat → Bool}
theorem Stair.freeC (h : Stair n c r m free p fr) (hz : ∀ i, r ≤ i → i < n → m i c = 0) : Stair n (c + 1) r m (free ++ [c]) (putF p c r) (putF fr c true) where
  piv := fun j hj hf => by
    by_cases e : j = c
    · rw [e, putF_same] at hf; cases hf
    · rw [putF_other e] at hf ⊢
      exact h.piv j (by omega) hf
  fre := fun j hj hf => by
    by_cases e : j = c
    · rw [e, putF_same]; exact ⟨Nat.le_refl _, hz⟩
    · rw [putF_other e] at hf ⊢
      exact h.fre j (by omega) hf
  mono := fun j k hjk hk => by
    have e : j ≠ c := by omega
    rw [putF_other e, putF_other e]
    by_cases e2 : k = c
    · rw [e2, putF_same]
      cases hf : fr j
      · have := (h.piv j (by omega) hf).1
        exact ⟨by omega, fun _ => this⟩
      · exact ⟨(h.fre j (by omega) hf).1, fun h => by cases h⟩
    · rw [putF_other e2]
      exact h.mono j k hjk (by omega)
  sur := fun i hi => by
    obtain ⟨j, h1, h2, h3⟩ := h.sur i hi
    exact ⟨j, by omega, by rw [putF_other (by omega)]; exact h2, by rw [putF_other (by omega)]; exact h3⟩
  len := by
    rw [List.length_append, cntB, putF_same, if_pos rfl, cntB_congr (g := fr) (fun i hi => putF_other (by omega)), ← h.len]
    rfl
  cnt := by
    have := h.cnt
    rw [List.length_append]
    show r + (free.length + 1) = c + 1
    omega
theorem Stair.pivot {a : Nat} (h : Stair n c r m free p fr) (hr : r < n) (ha : r ≤ a ∧ a < n) (h0 : swpM m r a r c ≠ 0) : Stair n (c + 1) (r + 1) (pivM (swpM m r a) r c) free (putF p c r) (putF fr c false) := by
  have hcol : ∀ j, (∀ i, r ≤ i → i < n → m i j = 0) → ∀ i, i < n → pivM (swpM m r a) r c i j = m i j := fun j hz i hi => by
    have z1 : swpM m r a r j = 0 := by
      unfold swpM
      rw [if_pos rfl]
      exact hz a ha.1 ha.2
    have z2 : swpM m r a i j = m i j := by
      unfold swpM
      by_cases e1 : i = r
      · rw [if_pos e1, hz a ha.1 ha.2, e1, hz r (Nat.le_refl _) hr]
      · rw [if_neg e1]
        by_cases e2 : i = a
        · rw [if_pos e2, e2, hz a ha.1 ha.2, hz r (Nat.le_refl _) hr]
        · rw [if_neg e2]
    unfold pivM
    by_cases e : i = r
    · rw [if_pos e, z1, e, hz r (Nat.le_refl _) hr]
      grind
    · rw [if_neg e, z1, z2]
      grind
  refine ⟨fun j hj hf => ?_, fun j hj hf => ?_, fun j k hjk hk => ?_, fun i hi => ?_, ?_, ?_⟩
  · by_cases e : j = c
    · subst e
      rw [putF_same]
      refine ⟨by omega, fun i hi => ?_⟩
      unfold pivM
      by_cases e : i = r
      · rw [if_pos e, if_pos e]
        grind
      · rw [if_neg e, if_neg e]
        grind
    · rw [putF_other e] at hf ⊢
      obtain ⟨h1, h2⟩ := h.piv j (by omega) hf
      refine ⟨by omega, fun i hi => ?_⟩
      rw [hcol j (fun i h3 h4 => by rw [h2 i h4, if_neg (by omega)]) i hi]
      exact h2 i hi
  · by_cases e : j = c
    · rw [e, putF_same] at hf; cases hf
    · rw [putF_other e] at hf ⊢
      obtain ⟨h1, h2⟩ := h.fre j (by omega) hf
      refine ⟨by omega, fun i h3 hi => ?_⟩
      rw [hcol j (fun i h4 h5 => h2 i (by omega) h5) i hi]
      exact h2 i h3 hi
  · have e : j ≠ c := by omega
    rw [putF_other e, putF_other e]
    by_cases e2 : k = c
    · rw [e2, putF_same]
      cases hf : fr j
      · have := (h.piv j (by omega) hf).1
        exact ⟨by omega, fun _ => this⟩
      · exact ⟨(h.fre j (by omega) hf).1, fun h => by cases h⟩
    · rw [putF_other e2]
      exact h.mono j k hjk (by omega)
  · by_cases e : i = r
    · exact ⟨c, by omega, putF_same .., by rw [putF_same, e]⟩
    · obtain ⟨j, h1, h2, h3⟩ := h.sur i (by omega)
      exact ⟨j, by omega, by rw [putF_other (by omega)]; exact h2, by rw [putF_other (by omega)]; exact h3⟩
  · rw [cntB, putF_same, cntB_congr (g := fr) (fun i hi => putF_other (by omega)), ← h.len]
    simp
  · have := h.cnt
    omega
/-- the free columns -/
theorem Stair.iff (h : Stair n n r m free p fr) {c : Nat} (hc : c < n) : fr c = true ↔ FreeC n m c := by
  have hrn : r ≤ n := by have := h.cnt; omega
  constructor
  · intro hf
    refine ⟨fun j => if j = c then 1 else if j < c ∧ fr j = false then -(m (p j) c) else 0, fun i hi => ?_, by simp, fun j h1 h2 => by
      simp only
      rw [if_neg (by omega), if_neg (by omega)]⟩
    unfold dotM
    have hother : ∀ k, k < n → k ≠ c → ¬ (k < c ∧ fr k = false) → m i k * (if k = c then (1 : Rat) else if k < c ∧ fr k = false then -(m (p k) c) else 0) = 0 := fun k hk h1 h2 => by
      rw [if_neg h1, if_neg h2]; grind
    have hz : ∀ k, k < c → fr k = false → p k ≠ i → m i k = 0 := fun k hk hf hne => by
      rw [(h.piv k (by omega) hf).2 i hi, if_neg (fun e => hne e.symm)]
    have hall : m i c = 0 → (∀ k, k < c → fr k = false → p k ≠ i) → smQ (fun k => m i k * (if k = c then (1 : Rat) else if k < c ∧ fr k = false then -(m (p k) c) else 0)) n = 0 := fun h0 h1 => smQ_nil fun k hk => by
      by_cases e : k = c
      · rw [e, h0]; grind
      · by_cases e2 : k < c ∧ fr k = false
        · rw [hz k e2.1 e2.2 (h1 k e2.1 e2.2)]; grind
        · exact hother k hk e e2
    obtain ⟨g1, g2⟩ := h.fre c hc hf
    by_cases hir : i < r
    · obtain ⟨j0, h1, h2, h3⟩ := h.sur i hir
      have hne : j0 ≠ c := fun e => by rw [e, hf] at h2; cases h2
      by_cases hlt : j0 < c
      · rw [smQ_two (a := c) (b := j0) hc h1 (fun e => hne e.symm) (fun k hk e1 e2 => by
          by_cases e3 : k < c ∧ fr k = false
          · rw [hz k e3.1 e3.2 (fun e => ?_)]
            · grind
            · rcases Nat.lt_or_gt_of_ne e2 with h4 | h4
              · have := (h.mono k j0 h4 h1).2 e3.2
                omega
              · have := (h.mono j0 k h4 hk).2 h2
                omega
          · exact hother k hk e1 e3)]
        simp only [if_true]
        rw [if_neg hne, if_pos ⟨hlt, h2⟩, (h.piv j0 h1 h2).2 i hi, if_pos h3.symm, h3]
        grind
      · have hgt : c < j0 := by omega
        have := (h.mono c j0 hgt h1).1
        refine hall (g2 i (by omega) hi) fun k hk hfk e => ?_
        have := (h.mono k j0 (by omega) h1).2 hfk
        omega
    · refine hall (g2 i (by omega) hi) fun k hk hfk e => ?_
      have := (h.piv k (by omega) hfk).1
      omega
  · rintro ⟨x, hx, h0, hs⟩
    cases hf : fr c
    · exfalso
      obtain ⟨g1, g2⟩ := h.piv c hc hf
      have h1 := hx (p c) (by omega)
      unfold dotM at h1
      rw [smQ_single hc (fun k hk hne => by
        rcases Nat.lt_or_gt_of_ne hne with hlt | hgt
        · cases hfk : fr k
          · rw [(h.piv k hk hfk).2 (p c) (by omega), if_neg (by have := (h.mono k c hlt hc).2 hfk; omega)]
            grind
          · rw [(h.fre k hk hfk).2 (p c) (h.mono k c hlt hc).1 (by omega)]
            grind
        · rw [hs k hgt hk]
          grind), g2 (p c) (by omega), if_pos rfl] at h1
      apply h0
      grind
    · rfl
end
theorem elim_stair {n : Nat} : ∀ (f : Nat) (m m' : Mx) (free free' : List Nat) (p : Nat → Nat) (fr : Nat → Bool), f ≤ n → Stair n (n - f) (n - f - free.length) m free p fr → elimF n false f m free = some (m', free') → ∃ r p' fr', Stair n n r m' free' p' fr'
  | 0, m, m', free, free', p, fr, hf, hs, h => by
    rw [elimF] at h
    cases h
    exact ⟨_, p, fr, hs⟩
  | f + 1, m, m', free, free', p, fr, hf, hs, h => by
    rw [elimF] at h
    try simp only at h
    have hcnt := hs.cnt
    generalize hr : n - (f + 1) - free.length = r at *
    have e1 : n - (f + 1) + 1 = n - f := by omega
    obtain ⟨g1, g2, g3, g4⟩ := findP_spec m (n - (f + 1)) (n - r) r
    by_cases ha : findP m (n - (f + 1)) (n - r) r = n
    · rw [if_pos ha, if_neg (by decide)] at h
      have hs' := hs.freeC (fun i h1 h2 => g3 i h1 (by omega))
      rw [e1] at hs'
      refine elim_stair f m m' _ free' (putF p (n - (f + 1)) r) (putF fr (n - (f + 1)) true) (by omega) ?_ h
      rw [List.length_append]
      show Stair n (n - f) (n - f - (free.length + 1)) m _ _ _
      rw [show n - f - (free.length + 1) = r by omega]
      exact hs'
    · rw [if_neg ha] at h
      by_cases hp : pivB (swpM m r (findP m (n - (f + 1)) (n - r) r)) n r (n - (f + 1)) = true
      · rw [if_pos hp] at h
        have hr' : r < n := by omega
        have h0 : swpM m r (findP m (n - (f + 1)) (n - r) r) r (n - (f + 1)) ≠ 0 := by
          unfold swpM
          rw [if_pos rfl]
          exact g4 (by omega)
        have hs' := hs.pivot hr' ⟨g1, by omega⟩ h0
        rw [e1] at hs'
        refine elim_stair f _ m' _ free' (putF p (n - (f + 1)) r) (putF fr (n - (f + 1)) false) (by omega) ?_ h
        rw [show n - f - free.length = r + 1 by omega]
        exact hs'
      · rw [if_neg hp] at h
        cases h
/-- rows that depend on each other -/
def LeftN (n : Nat) (m : Mx) : Prop := ∃ y : Nat → Rat, (∃ i, i < n ∧ y i ≠ 0) ∧ ∀ k, k < n → smQ (fun i => y i * m i k) n = 0
theorem smQ_sw (f : Nat → Rat) {n a b : Nat} (ha : a < n) (hb : b < n) : smQ (fun i => f (sw a b i)) n = smQ f n := by
  by_cases e : a = b
  · refine smQ_congr fun i _ => ?_
    subst e
    unfold sw
    by_cases e2 : i = a
    · rw [if_pos e2, e2]
    · rw [if_neg e2, if_neg e2]
  · have h1 : smQ (fun i => if i = a then f b else f i) n = smQ f n + (f b - f a) := smQ_one ha (by rw [if_pos rfl]; grind) (fun i _ hne => if_neg hne)
    rw [smQ_one (f := fun i => if i = a then f b else f i) (b := b) (c := f a - f b) hb (by
      unfold sw
      rw [if_neg (fun h => e h.symm), if_pos rfl, if_neg (fun h => e h.symm)]
      grind) (fun i _ hne => by
      unfold sw
      by_cases e2 : i = a
      · rw [if_pos e2, if_pos e2]
      · rw [if_neg e2, if_neg hne, if_neg e2]), h1]
    grind
theorem swpM_sw (m : Mx) (a b i : Nat) : swpM m a b i = m (sw a b i) := by
  unfold swpM sw
  split
  · rfl
  · split <;> rfl
theorem LeftN.swap {n a b : Nat} {m : Mx} (ha : a < n) (hb : b < n) (h : LeftN n m) : LeftN n (swpM m a b) := by
  obtain ⟨y, ⟨i, hi, h0⟩, hy⟩ := h
  have hss : ∀ i, sw a b (sw a b i) = i := fun i => by
    unfold sw
    by_cases e1 : i = a
    · rw [if_pos e1]
      by_cases e2 : b = a
      · rw [if_pos e2, e2, e1]
      · rw [if_neg e2, if_pos rfl, e1]
    · rw [if_neg e1]
      by_cases e2 : i = b
      · rw [if_pos e2, if_pos rfl, e2]
      · rw [if_neg e2, if_neg e1, if_neg e2]
  refine ⟨fun i => y (sw a b i), ⟨sw a b i, sw_lt ha hb hi, by show y (sw a b (sw a b i)) ≠ 0; rw [hss]; exact h0⟩, fun k hk => ?_⟩
  rw [← hy k hk, ← smQ_sw (fun i => y i * m i k) ha hb]
  exact smQ_congr fun i _ => by rw [swpM_sw]
theorem LeftN.piv {n r c : Nat} {m : Mx} (hr : r < n) (hc : c < n) (h0 : m r c ≠ 0) (h : LeftN n m) : LeftN n (pivM m r c) := by
  obtain ⟨y, ⟨i, hi, hy0⟩, hy⟩ := h
  have hT := hy c hc
  refine ⟨fun i => if i = r then 0 else y i, ?_, fun k hk => ?_⟩
  · by_cases hex : ∃ j, j < n ∧ j ≠ r ∧ y j ≠ 0
    · obtain ⟨j, h1, h2, h3⟩ := hex
      exact ⟨j, h1, by show (if j = r then 0 else y j) ≠ 0; rw [if_neg h2]; exact h3⟩
    · exfalso
      have hz : ∀ j, j < n → j ≠ r → y j = 0 := fun j h1 h2 => by
        by_cases e : y j = 0
        · exact e
        · exact absurd ⟨j, h1, h2, e⟩ hex
      rw [smQ_single hr (fun k hk hne => by rw [hz k hk hne]; grind)] at hT
      have hyr : y r = 0 := by grind
      apply hy0
      by_cases e : i = r
      · rw [e]; exact hyr
      · exact hz i hi e
  · have h1 : smQ (fun i => (if i = r then 0 else y i) * pivM m r c i k) n = smQ (fun i => y i * m i k - m r k / m r c * (y i * m i c)) n := smQ_congr fun i hi => by
      unfold pivM
      by_cases e : i = r
      · rw [if_pos e, if_pos e, e]
        grind
      · rw [if_neg e, if_neg e]
        grind
    have h2 : ∀ (s : Rat) (f g : Nat → Rat) (n : Nat), smQ (fun i => f i - s * g i) n = smQ f n - s * smQ g n := fun s f g n => by
      induction n with
      | zero => rw [smQ, smQ, smQ]; grind
      | succ n ih => rw [smQ, smQ, smQ, ih]; grind
    rw [h1, h2 (m r k / m r c) (fun i => y i * m i k) (fun i => y i * m i c) n, hy k hk, hT]
    grind
theorem elim_left {n : Nat} {stop : Bool} : ∀ (f : Nat) (m m' : Mx) (free free' : List Nat), f ≤ n → free.length ≤ n - f → LeftN n m → elimF n stop f m free = some (m', free') → LeftN n m'
  | 0, m, m', free, free', hf, hl, hm, h => by
    rw [elimF] at h
    cases h
    exact hm
  | f + 1, m, m', free, free', hf, hl, hm, h => by
    rw [elimF] at h
    try simp only at h
    generalize hr : n - (f + 1) - free.length = r at *
    obtain ⟨g1, g2, g3, g4⟩ := findP_spec m (n - (f + 1)) (n - r) r
    by_cases ha : findP m (n - (f + 1)) (n - r) r = n
    · rw [if_pos ha] at h
      by_cases hst : stop = true
      · rw [if_pos hst] at h
        cases h
        exact hm
      · rw [if_neg hst] at h
        exact elim_left f m m' _ free' (by omega) (by rw [List.length_append]; show free.length + 1 ≤ _; omega) hm h
    · rw [if_neg ha] at h
      by_cases hp : pivB (swpM m r (findP m (n - (f + 1)) (n - r) r)) n r (n - (f + 1)) = true
      · rw [if_pos hp] at h
        have hr' : r < n := by omega
        have h0 : swpM m r (findP m (n - (f + 1)) (n - r) r) r (n - (f + 1)) ≠ 0 := by
          unfold swpM
          rw [if_pos rfl]
          exact g4 (by omega)
        exact elim_left f _ m' _ free' (by omega) (by omega) ((hm.swap hr' (by omega)).piv hr' (by omega) h0) h
      · rw [if_neg hp] at h
        cases h
/-- how many columns are free: a function of the null space -/
theorem elim_count {n : Nat} {m m' : Mx} {free : List Nat} (h : elimF n false n m [] = some (m', free)) : ∃ fr : Nat → Bool, (∀ j, j < n → (fr j = true ↔ FreeC n m j)) ∧ free.length = cntB fr n ∧ (LeftN n m → 0 < n → 1 ≤ free.length) := by
  obtain ⟨r, p, fr, hs⟩ := elim_stair n m m' [] free _ _ (Nat.le_refl _) (by rw [Nat.sub_self]; exact Stair.start n m) h
  obtain ⟨hn, -⟩ := elim_nul n m m' [] free (Nat.le_refl _) (by simp) h
  refine ⟨fr, fun j hj => (hs.iff hj).trans ⟨fun ⟨x, h1, h2⟩ => ⟨x, (hn x).1 h1, h2⟩, fun ⟨x, h1, h2⟩ => ⟨x, (hn x).2 h1, h2⟩⟩, hs.len, fun hL h0 => ?_⟩
  apply Nat.le_of_not_lt
  intro hlt
  have hcnt := hs.cnt
  have hc0 := hs.len
  obtain ⟨y, ⟨i, hi, hy0⟩, hy⟩ := elim_left n m m' [] free (Nat.le_refl _) (by simp) hL h
  obtain ⟨j, h1, h2, h3⟩ := hs.sur i (by omega)
  have h4 := hy j h1
  rw [smQ_single hi (fun k hk hne => by rw [(hs.piv j h1 h2).2 k hk, if_neg (fun e => hne (by omega))]; grind), (hs.piv j h1 h2).2 i hi, if_pos h3.symm] at h4
  apply hy0
  grind
/-- a larger null space has more free columns -/
theorem free_mono {n : Nat} {m m' : Mx} {f f' : Nat → Bool} (hf : ∀ j, j < n → (f j = true ↔ FreeC n m j)) (hf' : ∀ j, j < n → (f' j = true ↔ FreeC n m' j)) (h : ∀ x, nulM n m x → nulM n m' x) : cntB f n ≤ cntB f' n :=
  cntB_mono fun i hi e => (hf' i hi).2 (by
    obtain ⟨x, h1, h2⟩ := (hf i hi).1 e
    exact ⟨x, h x h1, h2⟩)
/-- one more condition: at most one free column less -/
theorem free_less {n : Nat} {m m' : Mx} {f f' : Nat → Bool} (φ : Nat → Rat) (hf : ∀ j, j < n → (f j = true ↔ FreeC n m j)) (hf' : ∀ j, j < n → (f' j = true ↔ FreeC n m' j)) (h : ∀ x, nulM n m x → dotM n φ x = 0 → nulM n m' x) : cntB f n ≤ cntB f' n + 1 := by
  have lin : ∀ (x y : Nat → Rat) (s : Rat) (a : Nat → Rat) (k : Nat), dotM k a (fun j => x j - s * y j) = dotM k a x - s * dotM k a y := fun x y s a k => by
    unfold dotM
    induction k with
    | zero => rw [smQ, smQ, smQ]; grind
    | succ k ih => rw [smQ, smQ, smQ, ih]; grind
  by_cases hex : ∃ c, c < n ∧ ∃ x, nulM n m x ∧ x c ≠ 0 ∧ (∀ j, c < j → j < n → x j = 0) ∧ dotM n φ x ≠ 0
  · -- the first such column
    have hmin : ∃ c, (c < n ∧ ∃ x, nulM n m x ∧ x c ≠ 0 ∧ (∀ j, c < j → j < n → x j = 0) ∧ dotM n φ x ≠ 0) ∧ ∀ d, d < c → ¬ (d < n ∧ ∃ x, nulM n m x ∧ x d ≠ 0 ∧ (∀ j, d < j → j < n → x j = 0) ∧ dotM n φ x ≠ 0) := by
      obtain ⟨c, hc⟩ := hex
      induction c using Nat.strongRecOn with
      | _ c ih =>
        by_cases hd : ∃ d, d < c ∧ (d < n ∧ ∃ x, nulM n m x ∧ x d ≠ 0 ∧ (∀ j, d < j → j < n → x j = 0) ∧ dotM n φ x ≠ 0)
        · obtain ⟨d, h1, h2⟩ := hd
          exact ih d h1 h2
        · exact ⟨c, hc, fun d h1 h2 => hd ⟨d, h1, h2⟩⟩
    obtain ⟨c0, ⟨hc0, y, hy, hy0, hys, hyφ⟩, hmin⟩ := hmin
    refine cntB_one (c := c0) fun i hi hne e => (hf' i hi).2 ?_
    obtain ⟨x, hx, hx0, hxs⟩ := (hf i hi).1 e
    by_cases hφ : dotM n φ x = 0
    · exact ⟨x, h x hx hφ, hx0, hxs⟩
    · have hgt : c0 < i := by
        apply Nat.lt_of_not_le
        intro hle
        exact hmin i (by omega) ⟨hi, x, hx, hx0, hxs, hφ⟩
      refine ⟨fun j => x j - dotM n φ x / dotM n φ y * y j, h _ (fun k hk => ?_) ?_, ?_, fun j h1 h2 => ?_⟩
      · rw [lin, hx k hk, hy k hk]; grind
      · rw [lin]; grind
      · simp only
        rw [hys i hgt hi]; grind
      · simp only
        rw [hxs j h1 h2, hys j (by omega) h2]; grind
  · have : cntB f n ≤ cntB f' n := cntB_mono fun i hi e => (hf' i hi).2 (by
      obtain ⟨x, h1, h2, h3⟩ := (hf i hi).1 e
      refine ⟨x, h x h1 ?_, h2, h3⟩
      by_cases hφ : dotM n φ x = 0
      · exact hφ
      · exact absurd ⟨i, hi, x, h1, h2, h3, hφ⟩ hex)
    omega
end Go.Proofs.Ytdlcglndhhndpaa
/- Plain law: Check's sums of products; they are never too great for what Solve and Kernel give at three small unknowns. No condition. -/
namespace Go.Proofs.Ytdlcglndhhndpaa
open Go.RowKit
set_option linter.unusedVariables false
set_option linter.unusedSimpArgs false

/-- a sum of products, from left to right, while nothing is too great -/
def dotK (a x : Nat → Rat) : Nat → Option Rat
  | 0 => some 0
  | k + 1 => (dotK a x k).bind fun s => if (mulK (a k) (x k) && addK s (a k * x k)) = true then some (s + a k * x k) else none
theorem dotK_eq' {a x : Nat → Rat} (n : Nat) : ∀ (q : Rat), dotK a x n = some q → q = dotM n a x := by
  induction n with
  | zero =>
    intro q h
    rw [dotK] at h
    have h := Option.some.inj h
    rw [← h]
    show 0 = smQ _ 0
    rw [smQ]
  | succ n ih =>
    intro q h
    rw [dotK] at h
    cases hs : dotK a x n with
    | none => rw [hs] at h; cases h
    | some s =>
      rw [hs] at h
      have ih := ih s hs
      rw [Option.bind_some] at h
      generalize (mulK (a n) (x n) && addK s (a n * x n)) = B at h
      cases B
      · rw [if_neg (by decide)] at h
        cases h
      · rw [if_pos rfl] at h
        have h := Option.some.inj h
        rw [← h, ih]
        show smQ _ n + a n * x n = smQ _ (n + 1)
        rw [smQ]
theorem dotK_eq {a x : Nat → Rat} {n : Nat} {q : Rat} (h : dotK a x n = some q) : q = dotM n a x := dotK_eq' n q h
/-- both parts are below a power -/
def Pt (k : Nat) (q : Rat) : Prop := (q.num.natAbs : Int) < pw k ∧ (q.den : Int) < pw k
theorem Pt.mono {j k : Nat} {q : Rat} (h : Pt j q) (hjk : j ≤ k) : Pt k q := by
  have := pw_le hjk
  exact ⟨by have := h.1; omega, by have := h.2; omega⟩
theorem parts_le {x y : Int} (hy : 0 < y) : ((Rat.divInt x y).num.natAbs : Int) ≤ x.natAbs ∧ ((Rat.divInt x y).den : Int) ≤ y := by
  obtain ⟨e1, e2⟩ := divInt_parts (x := x) hy
  refine ⟨?_, ?_⟩
  · rw [e1, Int.natAbs_ediv_of_dvd (Int.gcd_dvd_left ..)]
    have := Nat.div_le_self x.natAbs (Int.gcd x y : Int).natAbs
    omega
  · rw [e2]
    exact Int.ediv_le_self _ (by omega)
theorem Pt.mul {j k : Nat} {x y : Rat} (hx : Pt j x) (hy : Pt k y) (hjk : j + k ≤ 60) : mulK x y = true ∧ Pt (j + k) (x * y) := by
  have m1 : ((x.num * y.num).natAbs : Int) < pw (j + k) := pw_mul_lt hx.1 hy.1
  have m2 : (((x.den : Int) * (y.den : Int)).natAbs : Int) < pw (j + k) := pw_mul_lt (x := (x.den : Int)) (y := (y.den : Int)) (by have := hx.2; omega) (by have := hy.2; omega)
  have hdp := den_mul_pos x y
  have h := parts_le (x := x.num * y.num) hdp
  rw [rat_mul] at h
  refine ⟨?_, ?_, ?_⟩
  · unfold mulK
    rw [fits_lt m1 hjk, fits_lt m2 hjk]
    rfl
  · omega
  · have := h.2
    omega
theorem Pt.add {j k : Nat} {x y : Rat} (hx : Pt j x) (hy : Pt k y) (hjk : j + k + 1 ≤ 60) : addK x y = true ∧ Pt (j + k + 1) (x + y) := by
  have m1 : ((x.num * (y.den : Int)).natAbs : Int) < pw (j + k) := pw_mul_lt hx.1 (y := (y.den : Int)) (by have := hy.2; omega)
  have m2 : ((y.num * (x.den : Int)).natAbs : Int) < pw (j + k) := by
    rw [Nat.add_comm]
    exact pw_mul_lt hy.1 (y := (x.den : Int)) (by have := hx.2; omega)
  have m3 : (((x.den : Int) * (y.den : Int)).natAbs : Int) < pw (j + k) := pw_mul_lt (x := (x.den : Int)) (y := (y.den : Int)) (by have := hx.2; omega) (by have := hy.2; omega)
  have hdp := den_mul_pos x y
  have hp : pw (j + k + 1) = 1048576 * pw (j + k) := rfl
  have h := parts_le (x := x.num * y.den + y.num * x.den) hdp
  rw [rat_add] at h
  have m4 : ((x.num * (y.den : Int) + y.num * (x.den : Int)).natAbs : Int) < pw (j + k + 1) := by omega
  refine ⟨?_, ?_, ?_⟩
  · unfold addK sumK
    rw [fits_lt m1 (by omega), fits_lt m2 (by omega), fits_lt m3 (by omega), fits_lt m4 hjk]
    rfl
  · omega
  · have := h.2
    omega
def expT (e : Nat → Nat) : Nat → Nat
  | 0 => 1
  | k + 1 => expT e k + (e k + 2)
theorem expT_le (e : Nat → Nat) (n : Nat) : ∀ d, expT e n ≤ expT e (n + d)
  | 0 => Nat.le_refl _
  | d + 1 => by
    have := expT_le e n d
    rw [← Nat.add_assoc, expT]
    omega
theorem Pt.zero : Pt 1 0 := by
  refine ⟨?_, ?_⟩ <;> decide +kernel
theorem dotK_some {a x : Nat → Rat} {e : Nat → Nat} : ∀ {n : Nat}, (∀ k, k < n → Pt 1 (a k) ∧ Pt (e k) (x k)) → expT e n ≤ 60 → dotK a x n = some (dotM n a x) ∧ Pt (expT e n) (dotM n a x)
  | 0, _, _ => ⟨rfl, Pt.zero⟩
  | n + 1, h, hT => by
    rw [expT] at hT
    obtain ⟨h1, h2⟩ := dotK_some (n := n) (fun k hk => h k (by omega)) (by omega)
    obtain ⟨h3, h4⟩ := h n (by omega)
    obtain ⟨g1, g2⟩ := h3.mul h4 (by omega)
    obtain ⟨g3, g4⟩ := h2.add g2 (by omega)
    have e1 : dotM (n + 1) a x = dotM n a x + a n * x n := rfl
    refine ⟨?_, ?_⟩
    · rw [dotK, h1, Option.bind_some, g1, g3, e1]
      rfl
    · rw [e1, expT, show expT e n + (e n + 2) = expT e n + (1 + e n) + 1 by omega]
      exact g4
/-- does a list solve the rows, as far as it can be calculated -/
def chkM (n : Nat) (m : Mx) (x : Nat → Rat) : Bool := (List.range n).all fun i => decide (dotK (m i) x n = some (m i n))
theorem chkM_sol {n : Nat} {m : Mx} {x : Nat → Rat} (h : chkM n m x = true) : solM n m x := fun i hi => by
  have h1 := List.all_eq_true.1 h i (List.mem_range.2 hi)
  exact (dotK_eq (of_decide_eq_true h1)).symm
theorem chkM_yes {n : Nat} {m : Mx} {x : Nat → Rat} {e : Nat → Nat} (hs : solM n m x) (h : ∀ i k, i < n → k < n → Pt 1 (m i k)) (hx : ∀ k, k < n → Pt (e k) (x k)) (hT : expT e n ≤ 60) : chkM n m x = true := by
  unfold chkM
  rw [List.all_eq_true]
  intro i hi
  have hi := List.mem_range.1 hi
  rw [(dotK_some (fun k hk => ⟨h i k hi hk, hx k hk⟩) hT).1, hs i hi]
  exact decide_eq_true rfl
/-- three rows that leave no vector but 0 have a determinant -/
theorem det3_ne (a b c d e f g h i : Rat) (HN : ∀ x y z : Rat, a * x + b * y + c * z = 0 → d * x + e * y + f * z = 0 → g * x + h * y + i * z = 0 → x = 0 ∧ y = 0 ∧ z = 0) : a * (e * i - f * h) - b * (d * i - f * g) + c * (d * h - e * g) ≠ 0 := by
  intro h0
  have c12 := HN (e * i - f * h) (f * g - d * i) (d * h - e * g) (by grind) (by grind) (by grind)
  have c02 := HN (b * i - c * h) (c * g - a * i) (a * h - b * g) (by grind) (by grind) (by grind)
  have c01 := HN (b * f - c * e) (c * d - a * f) (a * e - b * d) (by grind) (by grind) (by grind)
  obtain ⟨u1, u2, u3⟩ := c12
  obtain ⟨v1, v2, v3⟩ := c02
  obtain ⟨t1, t2, t3⟩ := c01
  have r0a := HN b (-a) 0 (by grind) (by grind) (by grind)
  have r0b := HN c 0 (-a) (by grind) (by grind) (by grind)
  have r1a := HN e (-d) 0 (by grind) (by grind) (by grind)
  have r1b := HN f 0 (-d) (by grind) (by grind) (by grind)
  have r2a := HN h (-g) 0 (by grind) (by grind) (by grind)
  have r2b := HN i 0 (-g) (by grind) (by grind) (by grind)
  have ea : a = 0 := by have := r0a.2.1; grind
  have ed : d = 0 := by have := r1a.2.1; grind
  have eg : g = 0 := by have := r2a.2.1; grind
  have := (HN 1 0 0 (by rw [ea]; grind) (by rw [ed]; grind) (by rw [eg]; grind)).1
  exact absurd this (by decide)
theorem int_ratio {q : Rat} {D z : Int} (hD : ((D : Int) : Rat) ≠ 0) (h : q * ((D : Int) : Rat) = ((z : Int) : Rat)) {B : Int} (h1 : (D.natAbs : Int) < B) (h2 : (z.natAbs : Int) < B) : (q.num.natAbs : Int) < B ∧ (q.den : Int) < B := by
  have hD0 : D ≠ 0 := fun e => hD (by rw [e]; rfl)
  by_cases hp : 0 < D
  · have e : Rat.divInt z D = q := by
      rw [Rat.divInt_eq_div, ← h]
      grind
    have := parts_le (x := z) hp
    rw [e] at this
    omega
  · have e : Rat.divInt (-z) (-D) = q := by
      rw [Rat.divInt_eq_div, Rat.intCast_neg, Rat.intCast_neg, ← h]
      grind
    have := parts_le (x := -z) (y := -D) (by omega)
    rw [e] at this
    omega
theorem mul3_lt {x y z B : Int} (hx : (x.natAbs : Int) < B) (hy : (y.natAbs : Int) < B) (hz : (z.natAbs : Int) < B) : ((x * (y * z)).natAbs : Int) ≤ B * (B * B) := by
  rw [Int.natAbs_mul, Int.natAbs_mul]
  push_cast
  have h1 : (y.natAbs : Int) * (z.natAbs : Int) ≤ B * B := Int.mul_le_mul (by omega) (by omega) (by omega) (by omega)
  exact Int.mul_le_mul (by omega) h1 (Int.mul_nonneg (by omega) (by omega)) (by omega)
def det3 (a b c d e f g h i : Int) : Int := a * (e * i) - a * (f * h) - b * (d * i) + b * (f * g) + c * (d * h) - c * (e * g)
theorem det3_lt {a b c d e f g h i : Int} {B : Int} (ha : (a.natAbs : Int) < B) (hb : (b.natAbs : Int) < B) (hc : (c.natAbs : Int) < B) (hd : (d.natAbs : Int) < B) (he : (e.natAbs : Int) < B) (hf : (f.natAbs : Int) < B) (hg : (g.natAbs : Int) < B) (hh : (h.natAbs : Int) < B) (hi : (i.natAbs : Int) < B) : ((det3 a b c d e f g h i).natAbs : Int) ≤ 6 * (B * (B * B)) := by
  have h1 := mul3_lt ha he hi
  have h2 := mul3_lt ha hf hh
  have h3 := mul3_lt hb hd hi
  have h4 := mul3_lt hb hf hg
  have h5 := mul3_lt hc hd hh
  have h6 := mul3_lt hc he hg
  unfold det3
  omega
theorem det3_cast (a b c d e f g h i : Int) : ((det3 a b c d e f g h i : Int) : Rat) = (a : Rat) * ((e : Rat) * i) - a * ((f : Rat) * h) - b * ((d : Rat) * i) + b * ((f : Rat) * g) + c * ((d : Rat) * h) - c * ((e : Rat) * g) := by
  unfold det3
  simp only [Rat.intCast_sub, Rat.intCast_add, Rat.intCast_mul]
/-- Cramer's rule: the only solution of three small rows is small -/
theorem cramer3 {m : Mx} {x : Nat → Rat} (hU : UniI 3 (pw 4 - 1) m) (hN : ∀ y, nulM 3 m y → ∀ i, i < 3 → y i = 0) (hs : solM 3 m x) : ∀ k, k < 3 → Pt 13 (x k) := by
  obtain ⟨K0, g0, p0, q0⟩ := hU 0 (by omega)
  obtain ⟨K1, g1, p1, q1⟩ := hU 1 (by omega)
  obtain ⟨K2, g2, p2, q2⟩ := hU 2 (by omega)
  obtain ⟨a, ha, ba⟩ := q0 0 (by omega)
  obtain ⟨b, hb, bb⟩ := q0 1 (by omega)
  obtain ⟨c, hc, bc⟩ := q0 2 (by omega)
  obtain ⟨s, hs0, bs⟩ := q0 3 (by omega)
  obtain ⟨d, hd, bd⟩ := q1 0 (by omega)
  obtain ⟨e, he, be⟩ := q1 1 (by omega)
  obtain ⟨f, hf, bf⟩ := q1 2 (by omega)
  obtain ⟨t, ht0, bt⟩ := q1 3 (by omega)
  obtain ⟨g, hg, bg⟩ := q2 0 (by omega)
  obtain ⟨h, hh, bh⟩ := q2 1 (by omega)
  obtain ⟨i, hi, bi⟩ := q2 2 (by omega)
  obtain ⟨u, hu0, bu⟩ := q2 3 (by omega)
  have k0 := int_ne p0
  have k1 := int_ne p1
  have k2 := int_ne p2
  have e0 : m 0 0 * x 0 + m 0 1 * x 1 + m 0 2 * x 2 = m 0 3 := by
    have := hs 0 (by omega)
    unfold dotM at this
    simp only [smQ] at this
    grind
  have e1 : m 1 0 * x 0 + m 1 1 * x 1 + m 1 2 * x 2 = m 1 3 := by
    have := hs 1 (by omega)
    unfold dotM at this
    simp only [smQ] at this
    grind
  have e2 : m 2 0 * x 0 + m 2 1 * x 1 + m 2 2 * x 2 = m 2 3 := by
    have := hs 2 (by omega)
    unfold dotM at this
    simp only [smQ] at this
    grind
  have E0 : (a : Rat) * x 0 + b * x 1 + c * x 2 = s := by rw [← ha, ← hb, ← hc, ← hs0, ← e0]; grind
  have E1 : (d : Rat) * x 0 + e * x 1 + f * x 2 = t := by rw [← hd, ← he, ← hf, ← ht0, ← e1]; grind
  have E2 : (g : Rat) * x 0 + h * x 1 + i * x 2 = u := by rw [← hg, ← hh, ← hi, ← hu0, ← e2]; grind
  have hdet : ((det3 a b c d e f g h i : Int) : Rat) ≠ 0 := by
    rw [det3_cast]
    have := det3_ne (a : Rat) b c d e f g h i (fun X Y Z h1 h2 h3 => by
      have hn : nulM 3 m (fun k => if k = 0 then X else if k = 1 then Y else Z) := fun r hr => by
        unfold dotM
        simp only [smQ]
        have hr : r = 0 ∨ r = 1 ∨ r = 2 := by omega
        rcases hr with rfl | rfl | rfl
        · rw [← ha, ← hb, ← hc] at h1
          simp only [if_pos, if_neg (show ¬ (1 : Nat) = 0 by omega), if_neg (show ¬ (2 : Nat) = 0 by omega), if_neg (show ¬ (2 : Nat) = 1 by omega)]
          grind
        · rw [← hd, ← he, ← hf] at h2
          simp only [if_pos, if_neg (show ¬ (1 : Nat) = 0 by omega), if_neg (show ¬ (2 : Nat) = 0 by omega), if_neg (show ¬ (2 : Nat) = 1 by omega)]
          grind
        · rw [← hg, ← hh, ← hi] at h3
          simp only [if_pos, if_neg (show ¬ (1 : Nat) = 0 by omega), if_neg (show ¬ (2 : Nat) = 0 by omega), if_neg (show ¬ (2 : Nat) = 1 by omega)]
          grind
      exact ⟨hN _ hn 0 (by omega), hN _ hn 1 (by omega), hN _ hn 2 (by omega)⟩)
    intro h0
    apply this
    rw [← h0]
    grind
  have h6 : 6 * (pw 4 * (pw 4 * pw 4)) < pw 13 := by decide +kernel
  have bdet := det3_lt (B := pw 4) (a := a) (b := b) (c := c) (d := d) (e := e) (f := f) (g := g) (h := h) (i := i) (by omega) (by omega) (by omega) (by omega) (by omega) (by omega) (by omega) (by omega) (by omega)
  have c0 : x 0 * ((det3 a b c d e f g h i : Int) : Rat) = ((det3 s b c t e f u h i : Int) : Rat) := by
    rw [det3_cast, det3_cast, ← E0, ← E1, ← E2]
    grind
  have c1 : x 1 * ((det3 a b c d e f g h i : Int) : Rat) = ((det3 a s c d t f g u i : Int) : Rat) := by
    rw [det3_cast, det3_cast, ← E0, ← E1, ← E2]
    grind
  have c2 : x 2 * ((det3 a b c d e f g h i : Int) : Rat) = ((det3 a b s d e t g h u : Int) : Rat) := by
    rw [det3_cast, det3_cast, ← E0, ← E1, ← E2]
    grind
  intro k hk
  have hk : k = 0 ∨ k = 1 ∨ k = 2 := by omega
  rcases hk with rfl | rfl | rfl
  · have := det3_lt (B := pw 4) (a := s) (b := b) (c := c) (d := t) (e := e) (f := f) (g := u) (h := h) (i := i) (by omega) (by omega) (by omega) (by omega) (by omega) (by omega) (by omega) (by omega) (by omega)
    exact int_ratio hdet c0 (by omega) (by omega)
  · have := det3_lt (B := pw 4) (a := a) (b := s) (c := c) (d := d) (e := t) (f := f) (g := g) (h := u) (i := i) (by omega) (by omega) (by omega) (by omega) (by omega) (by omega) (by omega) (by omega) (by omega)
    exact int_ratio hdet c1 (by omega) (by omega)
  · have := det3_lt (B := pw 4) (a := a) (b := b) (c := s) (d := d) (e := e) (f := t) (g := g) (h := h) (i := u) (by omega) (by omega) (by omega) (by omega) (by omega) (by omega) (by omega) (by omega) (by omega)
    exact int_ratio hdet c2 (by omega) (by omega)
/-- how great the matrix is where the elimination stops -/
theorem elim_uni {n : Nat} (hn : n ≤ 3) : ∀ (f : Nat) (m m' : Mx) (free : List Nat), f ≤ n → UniI n (hB (n - f)) m → elimF n true f m [] = some (m', free) → (free = [] → UniI n (hB n) m') ∧ ∀ c, free = [c] → UniI n (hB c) m'
  | 0, m, m', free, _, hU, h => by
    rw [elimF] at h
    cases h
    exact ⟨(fun _ => hU), fun c h => by cases h⟩
  | f + 1, m, m', free, hf, hU, h => by
    rw [elimF] at h
    simp only [List.length_nil, Nat.sub_zero, List.nil_append, if_true] at h
    obtain ⟨c, hc⟩ : ∃ c, c = n - (f + 1) := ⟨_, rfl⟩
    rw [← hc] at h hU
    obtain ⟨p1, p2, p3, p4⟩ := findP_spec m c (n - c) c
    generalize findP m c (n - c) c = a at *
    by_cases e : a = n
    · rw [if_pos e] at h
      cases h
      exact ⟨(fun h => by cases h), fun d h => by cases h; exact hU⟩
    · rw [if_neg e] at h
      by_cases hp : pivB (swpM m c a) n c c = true
      · rw [if_pos hp] at h
        have hne : swpM m c a c c ≠ 0 := by
          unfold swpM
          rw [if_pos rfl]
          exact p4 (by omega)
        refine elim_uni hn f _ m' free (by omega) ?_ h
        rw [show n - f = c + 1 by omega]
        exact ((hU.swap (by omega) (by omega)).piv (by omega) (by omega) hne).mono (hB_step (by omega))
      · rw [if_neg hp] at h
        cases h
end Go.Proofs.Ytdlcglndhhndpaa
/- Plain law: what Solve, Kernel, Check and Rank say of a matrix. No condition. -/
namespace Go.Proofs.Ytdlcglndhhndpaa
open Go.RowKit
set_option linter.unusedVariables false
set_option linter.unusedSimpArgs false

/-- where the elimination stops: one solution, or a vector that all rows send to 0 -/
theorem elim_fact {n : Nat} {m m' : Mx} {free : List Nat} (h : elimF n true n m [] = some (m', free)) :
    (free = [] ∧ (∀ x, solM n m x ↔ ∀ i, i < n → x i = m' i n) ∧ (∀ x, nulM n m x → ∀ i, i < n → x i = 0)) ∨
    (∃ c, free = [c] ∧ c < n ∧ nulM n m (kerV m' c) ∧ kerV m' c c ≠ 0) := by
  obtain ⟨h1, h2⟩ := elim_stop n m m' free (Nat.le_refl _) (by rw [Nat.sub_self]; exact UnitM.zero n m) h
  obtain ⟨g1, g2⟩ := elim_nul n m m' [] free (Nat.le_refl _) (by simp) h
  rcases h2 with ⟨rfl, hU⟩ | ⟨c, rfl, hc, hU, hz⟩
  · exact Or.inl ⟨rfl, fun x => (h1 x).symm.trans (unit_sol hU x), fun x hx => unit_nul hU ((g1 x).2 hx)⟩
  · exact Or.inr ⟨c, rfl, hc, (g1 _).1 (free_nul hc hU hz), kerV_ne m' c⟩
/-- does nothing but 0 go to 0 -/
def TrivN (n : Nat) (m : Mx) : Prop := ∀ x, nulM n m x → ∀ i, i < n → x i = 0
theorem elim_triv {n : Nat} {m m' : Mx} {free : List Nat} (h : elimF n true n m [] = some (m', free)) : free = [] ↔ TrivN n m := by
  rcases elim_fact h with ⟨h1, -, h2⟩ | ⟨c, h1, hc, h2, h3⟩
  · exact ⟨fun _ => h2, fun _ => h1⟩
  · constructor
    · intro e
      rw [h1] at e
      cases e
    · intro hT
      exact absurd (hT _ h2 c hc) h3
/-- all parts are below 2^20 -/
def SmallM (n : Nat) (m : Mx) : Prop := ∀ i k, i < n → k < n + 1 → Pt 1 (m i k)
theorem small_uni {n : Nat} {m : Mx} (hn : n ≤ 3) (h : SmallM n m) : UniI n (hB 0) m := fun i hi => by
  obtain ⟨D, hD⟩ : ∃ D : Nat → Int, D = fun k => if k < n + 1 then ((m i k).den : Int) else 1 := ⟨_, rfl⟩
  have hD1 : ∀ k, 0 < D k ∧ D k < pw 1 := fun k => by
    rw [hD]
    simp only
    split
    · exact ⟨den_pos _, (h i k hi (by omega)).2⟩
    · exact ⟨by omega, by decide +kernel⟩
  have hDe : ∀ k, k < n + 1 → D k = ((m i k).den : Int) := fun k hk => by rw [hD]; exact if_pos hk
  have key : ∀ a b c d : Int, (0 < a ∧ a < pw 1) → (0 < b ∧ b < pw 1) → (0 < c ∧ c < pw 1) → ((d.natAbs : Int) < pw 1) → ((d * (a * (b * c))).natAbs : Int) ≤ pw 4 - 1 := fun a b c d ha hb hc hd => by
    have h1 : ((b * c).natAbs : Int) < pw 2 := pw_mul_lt (j := 1) (k := 1) (by omega) (by omega)
    have h2 : ((a * (b * c)).natAbs : Int) < pw 3 := pw_mul_lt (j := 1) (k := 2) (by omega) h1
    have h3 : ((d * (a * (b * c))).natAbs : Int) < pw 4 := pw_mul_lt (j := 1) (k := 3) hd h2
    omega
  have d0 := hD1 0
  have d1 := hD1 1
  have d2 := hD1 2
  have d3 := hD1 3
  refine ⟨D 0 * (D 1 * (D 2 * D 3)), ?_, Int.mul_pos d0.1 (Int.mul_pos d1.1 (Int.mul_pos d2.1 d3.1)), fun k hk => ?_⟩
  · have := key (D 1) (D 2) (D 3) (D 0) d1 d2 d3 (by omega)
    show _ ≤ pw 4 - 1
    omega
  · have hp := h i k hi hk
    have e : m i k * (((m i k).den : Int) : Rat) = (((m i k).num : Int) : Rat) := by
      have h0 := int_ne (den_pos (m i k))
      have h1 := rat_parts (m i k)
      rw [Rat.divInt_eq_div] at h1
      rw [← h1]
      have e2 : (((m i k).num : Rat) / (((m i k).den : Int) : Rat)).num = (m i k).num := by rw [h1]
      have e3 : (((m i k).num : Rat) / (((m i k).den : Int) : Rat)).den = (m i k).den := by rw [h1]
      rw [e2, e3]
      grind
    rw [← hDe k hk] at e
    have hk4 : k = 0 ∨ k = 1 ∨ k = 2 ∨ k = 3 := by omega
    rcases hk4 with rfl | rfl | rfl | rfl
    · refine ⟨(m i 0).num * (D 1 * (D 2 * D 3)), ?_, key _ _ _ _ d1 d2 d3 hp.1⟩
      simp only [Rat.intCast_mul]
      rw [← e]
      grind
    · refine ⟨(m i 1).num * (D 0 * (D 2 * D 3)), ?_, key _ _ _ _ d0 d2 d3 hp.1⟩
      simp only [Rat.intCast_mul]
      rw [← e]
      grind
    · refine ⟨(m i 2).num * (D 0 * (D 1 * D 3)), ?_, key _ _ _ _ d0 d1 d3 hp.1⟩
      simp only [Rat.intCast_mul]
      rw [← e]
      grind
    · refine ⟨(m i 3).num * (D 0 * (D 1 * D 2)), ?_, key _ _ _ _ d0 d1 d2 hp.1⟩
      simp only [Rat.intCast_mul]
      rw [← e]
      grind
theorem small_elim {n : Nat} {m : Mx} (hn : n ≤ 3) (h : SmallM n m) (stop : Bool) : ∃ m' free, elimF n stop n m [] = some (m', free) := by
  obtain ⟨⟨m', free⟩, h1, -⟩ := elim_some (stop := stop) hn n m [] (Nat.le_refl _) (by rw [Nat.sub_self]; exact small_uni hn h)
  exact ⟨m', free, h1⟩
theorem UniI.pt {n : Nat} {E : Int} {m : Mx} (h : UniI n E m) {j i k : Nat} (hE : E < pw j) (hi : i < n) (hk : k < n + 1) : Pt j (m i k) := by
  obtain ⟨K, h1, h2⟩ := h i hi
  obtain ⟨a, b⟩ := h2.parts hk
  exact ⟨by omega, by omega⟩
/-- Check accepts what Solve gives -/
theorem check_sol {n : Nat} {m m' : Mx} (hn : n ≤ 3) (h : SmallM n m) (he : elimF n true n m [] = some (m', [])) : chkM n m (fun i => m' i n) = true := by
  obtain ⟨hU, -⟩ := elim_uni hn n m m' [] (Nat.le_refl _) (by rw [Nat.sub_self]; exact small_uni hn h) he
  have hU := hU rfl
  rcases elim_fact he with ⟨-, h1, h2⟩ | ⟨c, h1, -⟩
  · have hs : solM n m (fun i => m' i n) := (h1 _).2 fun i hi => rfl
    by_cases h3 : n = 3
    · subst h3
      exact chkM_yes (e := fun _ => 13) hs (fun i k hi hk => h i k hi (by omega)) (cramer3 (small_uni hn h) h2 hs) (by decide)
    · refine chkM_yes (e := fun _ => 19) hs (fun i k hi hk => h i k hi (by omega)) (fun k hk => hU.pt ?_ hk (by omega)) ?_
      · have := hB_le (c := n) (by omega)
        omega
      · have : n = 0 ∨ n = 1 ∨ n = 2 := by omega
        rcases this with rfl | rfl | rfl <;> decide
  · cases h1
theorem Pt.one : Pt 1 1 := by
  refine ⟨?_, ?_⟩ <;> decide +kernel
theorem Pt.neg {j : Nat} {q : Rat} (h : Pt j q) : Pt j (-q) := by
  unfold Pt
  rw [Rat.neg_num, Rat.neg_den, Int.natAbs_neg]
  exact h
/-- .. and, for the values 0, what Kernel gives -/
theorem check_ker {n c : Nat} {m m' : Mx} (hn : n ≤ 3) (h : SmallM n m) (he : elimF n true n m [] = some (m', [c])) : chkM n (homM n m) (kerV m' c) = true := by
  obtain ⟨-, hU⟩ := elim_uni hn n m m' [c] (Nat.le_refl _) (by rw [Nat.sub_self]; exact small_uni hn h) he
  have hU := hU c rfl
  rcases elim_fact he with ⟨h1, -⟩ | ⟨d, h1, hc, h2, -⟩
  · cases h1
  · cases h1
    have hs : solM n (homM n m) (kerV m' c) := (nul_hom n m _).2 h2
    refine chkM_yes (e := fun k => if k < c then 19 else 1) hs (fun i k hi hk => ?_) (fun k hk => ?_) ?_
    · unfold homM
      rw [if_neg (by omega)]
      exact h i k hi (by omega)
    · unfold kerV
      by_cases e : k = c
      · rw [if_pos e, if_neg (by omega)]
        exact Pt.one
      · rw [if_neg e]
        by_cases e2 : k < c
        · rw [if_pos e2, if_pos e2]
          exact (hU.pt (by have := hB_le (c := c) (by omega); omega) hk (by omega)).neg
        · rw [if_neg e2, if_neg e2]
          exact Pt.zero
    · have : c = 0 ∨ c = 1 ∨ c = 2 := by omega
      have : n = 1 ∨ n = 2 ∨ n = 3 := by omega
      rcases this with rfl | rfl | rfl <;> rcases ‹c = 0 ∨ c = 1 ∨ c = 2› with rfl | rfl | rfl <;> decide
/-- the values make no difference for the pivots -/
theorem hom_nul (n : Nat) (m : Mx) (x : Nat → Rat) : nulM n (homM n m) x ↔ nulM n m x := by
  constructor
  · intro h i hi
    have := h i hi
    unfold homM at this
    rw [dot_hom] at this
    exact this
  · intro h i hi
    unfold homM
    rw [dot_hom]
    exact h i hi
/-- the rank, where nothing is too great -/
theorem rank_triv {n : Nat} {m m' : Mx} {free : List Nat} (h : elimF n false n m [] = some (m', free)) : free.length ≤ n ∧ (free.length = 0 ↔ TrivN n m) := by
  obtain ⟨fr, h1, h2, -⟩ := elim_count h
  refine ⟨by rw [h2]; exact cntB_le fr n, ?_⟩
  rw [h2]
  constructor
  · intro h0 x hx
    have hz : ∀ (k : Nat), k ≤ n → cntB fr k = 0 → ∀ j, j < k → fr j = false := fun k => by
      induction k with
      | zero => intro _ _ j hj; omega
      | succ k ih =>
        intro hk hc j hj
        rw [cntB] at hc
        by_cases e : j = k
        · rw [e]
          cases hf : fr k
          · rfl
          · rw [hf] at hc
            simp at hc
        · exact ih (by omega) (by omega) j (by omega)
    intro i hi
    apply Classical.byContradiction
    intro hne
    -- the last place that is not 0
    have hlast : ∀ d, ∀ k, k < n → n - k = d → x k ≠ 0 → ∃ c, c < n ∧ x c ≠ 0 ∧ ∀ j, c < j → j < n → x j = 0 := fun d => by
      induction d using Nat.strongRecOn with
      | _ d ih =>
        intro k hk hd hne
        by_cases hex : ∃ j, k < j ∧ j < n ∧ x j ≠ 0
        · obtain ⟨j, g1, g2, g3⟩ := hex
          exact ih (n - j) (by omega) j g2 rfl g3
        · exact ⟨k, hk, hne, fun j g1 g2 => Classical.byContradiction fun g3 => hex ⟨j, g1, g2, g3⟩⟩
    obtain ⟨c, hc, hc0, hcs⟩ := hlast _ i hi rfl hne
    have := hz n (Nat.le_refl _) h0 c hc
    rw [(h1 c hc).2 ⟨x, hx, hc0, hcs⟩] at this
    cases this
  · intro hT
    have : ∀ k, k ≤ n → cntB fr k = 0 := fun k => by
      induction k with
      | zero => intro _; rfl
      | succ k ih =>
        intro hk
        rw [cntB, ih (by omega)]
        cases hf : fr k
        · rfl
        · obtain ⟨x, hx, hx0, -⟩ := (h1 k (by omega)).1 hf
          exact absurd (hT x hx k (by omega)) hx0
    exact this n (Nat.le_refl _)
/-- more is sent to 0: the rank is not greater -/
theorem rank_mono {n : Nat} {m m' m1 m1' : Mx} {free free' : List Nat} (h : elimF n false n m [] = some (m1, free)) (h' : elimF n false n m' [] = some (m1', free')) (hn : ∀ x, nulM n m x → nulM n m' x) : free.length ≤ free'.length := by
  obtain ⟨fr, h1, h2, -⟩ := elim_count h
  obtain ⟨fr', g1, g2, -⟩ := elim_count h'
  rw [h2, g2]
  exact free_mono h1 g1 hn
theorem rank_less {n : Nat} {m m' m1 m1' : Mx} {free free' : List Nat} (h : elimF n false n m [] = some (m1, free)) (h' : elimF n false n m' [] = some (m1', free')) (φ : Nat → Rat) (hn : ∀ x, nulM n m x → dotM n φ x = 0 → nulM n m' x) : free.length ≤ free'.length + 1 := by
  obtain ⟨fr, h1, h2, -⟩ := elim_count h
  obtain ⟨fr', g1, g2, -⟩ := elim_count h'
  rw [h2, g2]
  exact free_less φ h1 g1 hn
theorem rank_left {n : Nat} {m m1 : Mx} {free : List Nat} (h : elimF n false n m [] = some (m1, free)) (hL : LeftN n m) (h0 : 0 < n) : 1 ≤ free.length := by
  obtain ⟨fr, -, -, h1⟩ := elim_count h
  exact h1 hL h0
end Go.Proofs.Ytdlcglndhhndpaa
