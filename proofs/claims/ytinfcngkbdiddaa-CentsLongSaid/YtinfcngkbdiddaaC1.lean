/- Plain law: whole cents go to the greatest rests, the first of equal ones first; an insertion sort finds them. No condition. -/
import Derived.Test.YtinfcngkbdiddaaD
namespace Go.Proofs.Ytinfcngkbdiddaa
open Go.RowKit
set_option linter.unusedVariables false
set_option linter.unusedSimpArgs false

/-- one rest comes before another one -/
def beats (r : Nat → Rat) (i j : Nat) : Prop := r j < r i ∨ (r i = r j ∧ i < j)
theorem beats_trans {r : Nat → Rat} {i j k : Nat} (h : beats r i j) (h' : beats r j k) : beats r i k := by
  unfold beats at *
  grind
theorem beats_asymm {r : Nat → Rat} {i j : Nat} (h : beats r i j) (h' : beats r j i) : False := by
  unfold beats at *
  grind
theorem beats_total (r : Nat → Rat) {i j : Nat} (h : i ≠ j) : beats r i j ∨ beats r j i := by
  unfold beats
  by_cases h1 : r i < r j
  · exact Or.inr (Or.inl h1)
  · by_cases h2 : r j < r i
    · exact Or.inl (Or.inl h2)
    · have h3 : r i = r j := by grind
      rcases Nat.lt_or_ge i j with h4 | h4
      · exact Or.inl (Or.inr ⟨h3, h4⟩)
      · exact Or.inr (Or.inr ⟨h3.symm, by omega⟩)
/-- the one that comes before all others that are left -/
def Best (n : Nat) (r : Nat → Rat) (S : Nat → Bool) (b : Nat) : Prop := b < n ∧ S b = false ∧ ∀ x, x < n → S x = false → x ≠ b → beats r b x
theorem Best.unique {n : Nat} {r : Nat → Rat} {S : Nat → Bool} {b c : Nat} (h : Best n r S b) (h' : Best n r S c) : b = c := by
  by_cases e : b = c
  · exact e
  · exact (beats_asymm (h.2.2 c h'.1 h'.2.1 (fun e' => e e'.symm)) (h'.2.2 b h.1 h.2.1 e)).elim
/-- the first so many of all -/
def Sel (n : Nat) (r : Nat → Rat) : Nat → (Nat → Bool) → Prop
  | 0, S => ∀ x, S x = false
  | t + 1, S => ∃ S0 b, Sel n r t S0 ∧ Best n r S0 b ∧ ∀ x, S x = (S0 x || decide (x = b))
theorem Sel.unique {n : Nat} {r : Nat → Rat} : ∀ {t : Nat} {S S' : Nat → Bool}, Sel n r t S → Sel n r t S' → S = S'
  | 0, S, S', h, h' => funext fun x => (h x).trans (h' x).symm
  | t + 1, S, S', ⟨S0, b, h1, h2, h3⟩, ⟨S1, c, h1', h2', h3'⟩ => by
    have e := h1.unique h1'
    subst e
    have e := h2.unique h2'
    subst e
    exact funext fun x => (h3 x).trans (h3' x).symm
/-- who has one comes before who has none -/
theorem Sel.before {n : Nat} {r : Nat → Rat} : ∀ {t : Nat} {S : Nat → Bool}, Sel n r t S → ∀ {x y : Nat}, S x = true → y < n → S y = false → beats r x y
  | 0, S, h, x, y, hx, _, _ => by rw [h x] at hx; cases hx
  | t + 1, S, ⟨S0, b, h1, h2, h3⟩, x, y, hx, hy, hy0 => by
    rw [h3, Bool.or_eq_true] at hx
    rw [h3, Bool.or_eq_false_iff] at hy0
    rcases hx with hx | hx
    · exact h1.before hx hy hy0.1
    · have e := of_decide_eq_true hx
      subst e
      exact h2.2.2 y hy hy0.1 (of_decide_eq_false hy0.2)
theorem Sel.lt {n : Nat} {r : Nat → Rat} : ∀ {t : Nat} {S : Nat → Bool}, Sel n r t S → ∀ {x : Nat}, S x = true → x < n
  | 0, S, h, x, hx => by rw [h x] at hx; cases hx
  | t + 1, S, ⟨S0, b, h1, h2, h3⟩, x, hx => by
    rw [h3, Bool.or_eq_true] at hx
    rcases hx with hx | hx
    · exact h1.lt hx
    · have e := of_decide_eq_true hx
      subst e
      exact h2.1
/-- sums -/
def smQ (f : Nat → Rat) : Nat → Rat
  | 0 => 0
  | n + 1 => smQ f n + f n
theorem smQ_congr {f g : Nat → Rat} : ∀ {n : Nat}, (∀ i, i < n → f i = g i) → smQ f n = smQ g n
  | 0, _ => rfl
  | n + 1, h => by rw [smQ, smQ, smQ_congr (fun i hi => h i (by omega)), h n (by omega)]
theorem smQ_add (f g : Nat → Rat) : ∀ n : Nat, smQ (fun i => f i + g i) n = smQ f n + smQ g n
  | 0 => by rw [smQ, smQ, smQ]; grind
  | n + 1 => by rw [smQ, smQ, smQ, smQ_add f g n]; grind
theorem smQ_sub (f g : Nat → Rat) : ∀ n : Nat, smQ (fun i => f i - g i) n = smQ f n - smQ g n
  | 0 => by rw [smQ, smQ, smQ]; grind
  | n + 1 => by rw [smQ, smQ, smQ, smQ_sub f g n]; grind
theorem smQ_le {f g : Nat → Rat} : ∀ {n : Nat}, (∀ i, i < n → f i ≤ g i) → smQ f n ≤ smQ g n
  | 0, _ => by simp [smQ]
  | n + 1, h => by
    have h1 := smQ_le (fun i hi => h i (by omega)) (n := n)
    have h2 := h n (by omega)
    rw [smQ, smQ]
    grind
theorem smQ_lt {f g : Nat → Rat} : ∀ {n : Nat}, (∀ i, i < n → f i ≤ g i) → (∃ i, i < n ∧ f i < g i) → smQ f n < smQ g n
  | 0, _, ⟨i, hi, _⟩ => absurd hi (Nat.not_lt_zero i)
  | n + 1, h, ⟨i, hi, hlt⟩ => by
    have h2 := h n (by omega)
    rw [smQ, smQ]
    by_cases e : i = n
    · subst e
      have h1 := smQ_le (fun j hj => h j (by omega)) (n := i)
      grind
    · have h1 := smQ_lt (fun j hj => h j (by omega)) ⟨i, by omega, hlt⟩ (n := n)
      grind
theorem smQ_one {f g : Nat → Rat} {b : Nat} {c : Rat} : ∀ {n : Nat}, b < n → g b = f b + c → (∀ i, i < n → i ≠ b → g i = f i) → smQ g n = smQ f n + c
  | 0, hb, _, _ => absurd hb (Nat.not_lt_zero b)
  | n + 1, hb, h1, h2 => by
    rw [smQ, smQ]
    by_cases e : b = n
    · subst e
      rw [smQ_congr (f := g) (g := f) (fun i hi => h2 i (by omega) (by omega)), h1]
      grind
    · rw [smQ_one (by omega) h1 (fun i hi => h2 i (by omega)), h2 n (by omega) (fun e' => e e'.symm)]
      grind
def ind (S : Nat → Bool) (i : Nat) : Rat := if S i = true then 1 else 0
theorem Sel.count {n : Nat} {r : Nat → Rat} : ∀ {t : Nat} {S : Nat → Bool}, Sel n r t S → smQ (ind S) n = (t : Rat)
  | 0, S, h => by
    rw [smQ_congr (g := fun _ => 0) (fun i _ => by unfold ind; rw [h i]; rfl)]
    have : ∀ k : Nat, smQ (fun _ => 0) k = 0 := by
      intro k
      induction k with
      | zero => rfl
      | succ k ih => rw [smQ, ih]; grind
    rw [this]; rfl
  | t + 1, S, ⟨S0, b, h1, h2, h3⟩ => by
    rw [smQ_one (f := ind S0) (c := 1) h2.1 (by unfold ind; rw [h3, h2.2.1]; simp; grind) (fun i hi hne => by unfold ind; rw [h3, decide_eq_false hne, Bool.or_false])]
    rw [h1.count]
    push_cast
    rfl
/-- whoever gets one more has a rest -/
theorem Sel.pos {n m : Nat} {r : Nat → Rat} {S : Nat → Bool} (h : Sel n r m S) (h0 : ∀ i, i < n → 0 ≤ r i ∧ r i < 1) (hs : smQ r n = (m : Rat)) {x : Nat} (hx : S x = true) : 0 < r x := by
  have hxn := h.lt hx
  have hx0 := h0 x hxn
  by_cases e : 0 < r x
  · exact e
  · exfalso
    have e0 : r x = 0 := by grind
    have hlt : smQ r n < smQ (ind S) n := smQ_lt (fun i hi => by
      unfold ind
      cases hS : S i
      · have hb := h.before hx hi hS
        have := h0 i hi
        unfold beats at hb
        simp
        grind
      · have := h0 i hi
        simp
        grind) ⟨x, hxn, by unfold ind; rw [hx, e0]; simp; grind⟩
    rw [h.count, hs] at hlt
    grind
/-- an order of all indices -/
def Ord (n : Nat) (r : Nat → Rat) (d : Nat → Nat) : Prop := (∀ k, k < n → d k < n) ∧ (∀ k l, k < n → l < n → d k = d l → k = l) ∧ (∀ x, x < n → ∃ k, k < n ∧ d k = x) ∧ ∀ k l, k < l → l < n → beats r (d k) (d l)
/-- the first so many of an order -/
def inF (d : Nat → Nat) (t : Nat) (x : Nat) : Bool := (List.range t).any fun k => d k == x
theorem inF_iff {d : Nat → Nat} {t x : Nat} : inF d t x = true ↔ ∃ k, k < t ∧ d k = x := by
  unfold inF
  rw [List.any_eq_true]
  constructor
  · rintro ⟨k, h1, h2⟩
    exact ⟨k, List.mem_range.1 h1, by simpa using h2⟩
  · rintro ⟨k, h1, h2⟩
    exact ⟨k, List.mem_range.2 h1, by simpa using h2⟩
theorem Ord.sel {n : Nat} {r : Nat → Rat} {d : Nat → Nat} (h : Ord n r d) : ∀ t, t ≤ n → Sel n r t (inF d t)
  | 0, _ => fun x => rfl
  | t + 1, ht => by
    refine ⟨inF d t, d t, h.sel t (by omega), ⟨h.1 t (by omega), ?_, ?_⟩, fun x => ?_⟩
    · cases e : inF d t (d t) with
      | false => rfl
      | true =>
        obtain ⟨k, h1, h2⟩ := inF_iff.1 e
        have := h.2.1 k t (by omega) (by omega) h2
        omega
    · intro x hx hS hne
      obtain ⟨k, hk, rfl⟩ := h.2.2.1 x hx
      have hkt : ¬ k < t := fun e => by
        rw [inF_iff.2 ⟨k, e, rfl⟩] at hS
        cases hS
      have hk2 : k ≠ t := fun e => hne (by rw [e])
      exact h.2.2.2 t k (by omega) hk
    · unfold inF
      rw [List.range_succ, List.any_append]
      simp
      congr 1
      exact decide_eq_decide.2 ⟨fun e => e.symm, fun e => e.symm⟩
/-- an insertion sort, its prefix of length i sorted -/
def InsO (n : Nat) (r : Nat → Rat) (d : Nat → Nat) (i : Nat) : Prop := i ≤ n ∧ (∀ k, i ≤ k → d k = k) ∧ (∀ k, k < i → d k < i) ∧ (∀ k l, k < l → l < i → d k ≠ d l ∧ beats r (d k) (d l)) ∧ ∀ x, x < i → ∃ k, k < i ∧ d k = x
/-- .. while the element i goes forward: it is at j -/
def InsI (n : Nat) (r : Nat → Rat) (d : Nat → Nat) (i j : Nat) : Prop := i < n ∧ j ≤ i ∧ d j = i ∧ (∀ k, i < k → d k = k) ∧ (∀ k, k ≤ i → k ≠ j → d k < i) ∧ (∀ k l, k < l → l ≤ i → k ≠ j → l ≠ j → d k ≠ d l ∧ beats r (d k) (d l)) ∧ (∀ l, j < l → l ≤ i → beats r i (d l)) ∧ ∀ x, x < i → ∃ k, k ≤ i ∧ k ≠ j ∧ d k = x
theorem InsO.start (n : Nat) (r : Nat → Rat) (h : 1 ≤ n) : InsO n r (fun k => k) 1 :=
  ⟨h, fun k _ => rfl, fun k hk => hk, fun k l h1 h2 => by omega, fun x hx => ⟨x, hx, rfl⟩⟩
theorem InsO.none (r : Nat → Rat) (d : Nat → Nat) (hd : ∀ k, d k = k) : InsO 0 r d 0 :=
  ⟨Nat.le_refl _, fun k _ => hd k, fun k hk => by omega, fun k l h1 h2 => by omega, fun x hx => by omega⟩
theorem InsO.into {n : Nat} {r : Nat → Rat} {d : Nat → Nat} {i : Nat} (h : InsO n r d i) (hi : i < n) : InsI n r d i i := by
  obtain ⟨h1, h2, h3, h4, h5⟩ := h
  exact ⟨hi, Nat.le_refl _, h2 i (Nat.le_refl _), fun k hk => h2 k (by omega), fun k hk hne => h3 k (by omega), fun k l hkl hl h6 h7 => h4 k l hkl (by omega), fun l hl hl2 => by omega, fun x hx => by
    obtain ⟨k, hk, e⟩ := h5 x hx
    exact ⟨k, by omega, by omega, e⟩⟩
def swp (d : Nat → Nat) (j : Nat) : Nat → Nat := fun k => if k = j then d (j - 1) else if k = j - 1 then d j else d k
theorem InsI.step {n : Nat} {r : Nat → Rat} {d : Nat → Nat} {i j : Nat} (h : InsI n r d i j) (hj : 0 < j) (hlt : r (d (j - 1)) < r (d j)) : InsI n r (swp d j) i (j - 1) := by
  obtain ⟨h1, h2, h3, h4, h5, h6, h7, h8⟩ := h
  have e1 : swp d j j = d (j - 1) := by unfold swp; rw [if_pos rfl]
  have e2 : swp d j (j - 1) = d j := by unfold swp; rw [if_neg (by omega), if_pos rfl]
  have e3 : ∀ k, k ≠ j → k ≠ j - 1 → swp d j k = d k := fun k a b => by unfold swp; rw [if_neg a, if_neg b]
  rw [h3] at hlt
  refine ⟨h1, by omega, by rw [e2, h3], fun k hk => by rw [e3 k (by omega) (by omega)]; exact h4 k hk, fun k hk hne => ?_, fun k l hkl hl hk1 hl1 => ?_, fun l hl hl2 => ?_, fun x hx => ?_⟩
  · by_cases e : k = j
    · subst e; rw [e1]; exact h5 _ (by omega) (by omega)
    · rw [e3 k e hne]; exact h5 k hk e
  · by_cases ek : k = j
    · subst ek
      rw [e1, e3 l (by omega) hl1]
      exact h6 (k - 1) l (by omega) hl (by omega) (by omega)
    · by_cases el : l = j
      · subst el
        rw [e1, e3 k ek hk1]
        exact h6 k (l - 1) (by omega) (by omega) ek (by omega)
      · rw [e3 k ek hk1, e3 l el hl1]
        exact h6 k l hkl hl ek el
  · by_cases el : l = j
    · subst el
      rw [e1]
      exact Or.inl hlt
    · rw [e3 l el (by omega)]
      exact h7 l (by omega) hl2
  · obtain ⟨k, hk, hne, e⟩ := h8 x hx
    by_cases ek : k = j - 1
    · exact ⟨j, h2, by omega, by rw [e1, ← ek]; exact e⟩
    · exact ⟨k, hk, ek, by rw [e3 k hne ek]; exact e⟩
theorem InsI.done {n : Nat} {r : Nat → Rat} {d : Nat → Nat} {i j : Nat} (h : InsI n r d i j) (hs : j = 0 ∨ ¬ r (d (j - 1)) < r (d j)) : InsO n r d (i + 1) := by
  obtain ⟨h1, h2, h3, h4, h5, h6, h7, h8⟩ := h
  have hb : ∀ k, k < j → beats r (d k) i := fun k hk => by
    rcases hs with hs | hs
    · omega
    · rw [h3] at hs
      have hj : beats r (d (j - 1)) i := by
        have := h5 (j - 1) (by omega) (by omega)
        unfold beats
        grind
      by_cases e : k = j - 1
      · rw [e]; exact hj
      · exact beats_trans (h6 k (j - 1) (by omega) (by omega) (by omega) (by omega)).2 hj
  refine ⟨by omega, fun k hk => h4 k (by omega), fun k hk => ?_, fun k l hkl hl => ?_, fun x hx => ?_⟩
  · by_cases e : k = j
    · rw [e, h3]; omega
    · have := h5 k (by omega) e
      omega
  · by_cases ek : k = j
    · subst ek
      have := h5 l (by omega) (by omega)
      rw [h3]
      exact ⟨by omega, h7 l hkl (by omega)⟩
    · by_cases el : l = j
      · subst el
        have := h5 k (by omega) ek
        rw [h3]
        exact ⟨by omega, hb k hkl⟩
      · exact h6 k l hkl (by omega) ek el
  · by_cases e : x = i
    · exact ⟨j, by omega, by rw [h3, e]⟩
    · obtain ⟨k, hk, _, e'⟩ := h8 x (by omega)
      exact ⟨k, by omega, e'⟩
theorem InsO.fin {n : Nat} {r : Nat → Rat} {d : Nat → Nat} (h : InsO n r d n) : Ord n r d := by
  obtain ⟨h1, h2, h3, h4, h5⟩ := h
  refine ⟨h3, fun k l hk hl e => ?_, h5, fun k l hkl hl => (h4 k l hkl hl).2⟩
  rcases Nat.lt_trichotomy k l with h | h | h
  · exact absurd e (h4 k l h hl).1
  · exact h
  · exact absurd e.symm (h4 l k h hk).1
/-- the first greatest of what is left: a search from left to right -/
def Fst (r : Nat → Rat) (b i : Nat) : Prop := b < i ∧ (∀ x, x < i → r x ≤ r b) ∧ ∀ x, x < b → r x < r b
theorem Fst.start (r : Nat → Rat) : Fst r 0 1 := ⟨by omega, (fun x hx => by
  have e : x = 0 := by omega
  subst e
  exact Rat.le_refl), fun x hx => by omega⟩
theorem Fst.stay {r : Nat → Rat} {b i : Nat} (h : Fst r b i) (hn : ¬ r b < r i) : Fst r b (i + 1) :=
  ⟨by have := h.1; omega, fun x hx => by
    by_cases e : x = i
    · subst e; grind
    · exact h.2.1 x (by omega), h.2.2⟩
theorem Fst.turn {r : Nat → Rat} {b i : Nat} (h : Fst r b i) (hn : r b < r i) : Fst r i (i + 1) :=
  ⟨by omega, fun x hx => by
    by_cases e : x = i
    · subst e; exact Rat.le_refl
    · have := h.2.1 x (by omega)
      grind, fun x hx => by
    have := h.2.1 x hx
    grind⟩
theorem Fst.best {n t : Nat} {r : Nat → Rat} {S : Nat → Bool} {b : Nat} (h0 : ∀ i, i < n → 0 ≤ r i ∧ r i < 1) (hS : Sel n r t S) (hu : ∃ y, y < n ∧ S y = false) (h : Fst (fun i => r i - ind S i) b n) : Best n r S b := by
  obtain ⟨y, hy, hy0⟩ := hu
  have hb := h0 b h.1
  have hyb := h.2.1 y hy
  have hSb : S b = false := by
    cases e : S b with
    | false => rfl
    | true =>
      exfalso
      have := h0 y hy
      simp only [ind, e, hy0] at hyb
      simp at hyb
      grind
  refine ⟨h.1, hSb, fun x hx hx0 hne => ?_⟩
  have h1 := h.2.1 x hx
  simp only [ind, hSb, hx0] at h1
  simp at h1
  by_cases e : r x < r b
  · exact Or.inl e
  · refine Or.inr ⟨by grind, ?_⟩
    rcases Nat.lt_or_ge b x with h2 | h2
    · exact h2
    · have h3 := h.2.2 x (by omega)
      simp only [ind, hSb, hx0] at h3
      simp at h3
      grind
theorem Sel.next {n t : Nat} {r : Nat → Rat} {S : Nat → Bool} {b : Nat} (hS : Sel n r t S) (hb : Best n r S b) : Sel n r (t + 1) (fun x => S x || decide (x = b)) := ⟨S, b, hS, hb, fun x => rfl⟩
/-- somebody is left -/
theorem Sel.left {n t : Nat} {r : Nat → Rat} {S : Nat → Bool} (hS : Sel n r t S) (ht : t < n) : ∃ y, y < n ∧ S y = false := by
  by_cases h : ∃ y, y < n ∧ S y = false
  · exact h
  · exfalso
    have h1 : smQ (fun _ => 1) n ≤ smQ (ind S) n := smQ_le fun i hi => by
      unfold ind
      cases e : S i
      · exact absurd ⟨i, hi, e⟩ h
      · simp
    have h2 : ∀ k : Nat, smQ (fun _ => 1) k = (k : Rat) := by
      intro k
      induction k with
      | zero => rfl
      | succ k ih => rw [smQ, ih]; push_cast; rfl
    rw [h2, hS.count] at h1
    have h3 : ((t : Rat)) < (n : Rat) := by exact_mod_cast ht
    grind
end Go.Proofs.Ytinfcngkbdiddaa
