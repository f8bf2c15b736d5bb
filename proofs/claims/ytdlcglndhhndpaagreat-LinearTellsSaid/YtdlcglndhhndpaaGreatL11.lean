/- Laws and walks; conditions stand in each theorem. -/
import Derived.Test.YtdlcglndhhndpaaGreatL08
set_option linter.unusedSimpArgs false
set_option linter.unusedVariables false
namespace Go.Proofs.YtdlcglndhhndpaaGreat
open Go.RowKit
theorem ZL98 {p : Prop} (h : p := by
 first
  | (unfold swpM
     by_cases e1 : i = a
     · rw [if_pos e1]; exact h b hb
     · rw [if_neg e1]
       by_cases e2 : i = b
       · rw [if_pos e2]; exact h a ha
       · rw [if_neg e2]; exact h i hi)
  | fail) : p := h
def RowI (n : Nat) (K B : Int) (row : Nat → Rat) : Prop := 0 < K ∧ ∀ k, k < n → ∃ z : Int, row k * ((K : Int) : Rat) = ((z : Int) : Rat) ∧ z.natAbs ≤ B
theorem int_ne {K : Int} (h : 0 < K) : ((K : Int) : Rat) ≠ 0 := fun e => by
 have : ((K : Int) : Rat) = ((0 : Int) : Rat) := e
 have := Rat.intCast_inj.1 this
 omega
theorem RowI.mono {n : Nat} {K B B' : Int} {row : Nat → Rat} (h : RowI n K B row) (hB : B ≤ B') : RowI n K B' row :=
 ⟨h.1, fun k hk => by
  obtain ⟨z, h1, h2⟩ := h.2 k hk
  exact ⟨z, h1, by omega⟩⟩
theorem RowI.parts {n : Nat} {K B : Int} {row : Nat → Rat} (h : RowI n K B row) {k : Nat} (hk : k < n) : ((row k).num.natAbs : Int) ≤ B ∧ ((row k).den : Int) ≤ K := by
 obtain ⟨z, h1, h2⟩ := h.2 k hk
 have e : Rat.divInt z K = row k := by
  have := int_ne h.1
  rw [Rat.divInt_eq_div, ← h1]
  grind
 obtain ⟨e1, e2⟩ := divInt_parts (x := z) h.1
 rw [e] at e1 e2
 refine ⟨?_, ?_⟩
 · rw [e1, Int.natAbs_ediv_of_dvd (Int.gcd_dvd_left ..)]
   have := Nat.div_le_self z.natAbs (Int.gcd z K : Int).natAbs
   omega
 · rw [e2]
   exact Int.ediv_le_self _ (by have := h.1; omega)
theorem RowI.norm {n c : Nat} {K B : Int} {row : Nat → Rat} (h : RowI n K B row) (hc : c < n) (h0 : row c ≠ 0) : ∃ K', K' ≤ B ∧ RowI n K' B (fun k => row k / row c) := by
 obtain ⟨z, h1, h2⟩ := h.2 c hc
 have hK := int_ne h.1
 have hz0 : z ≠ 0 := fun e => by
  rw [e] at h1
  have e0 : ((0 : Int) : Rat) = 0 := rfl
  rw [e0] at h1
  exact h0 (by grind)
 by_cases hp : 0 < z
 · refine ⟨z, by omega, hp, fun k hk => ?_⟩
   obtain ⟨y, h3, h4⟩ := h.2 k hk
   exact ⟨y, by rw [← h1, ← h3]; grind, h4⟩
 · refine ⟨-z, by omega, by omega, fun k hk => ?_⟩
   obtain ⟨y, h3, h4⟩ := h.2 k hk
   refine ⟨-y, ?_, by omega⟩
   rw [Rat.intCast_neg, Rat.intCast_neg, ← h1, ← h3]
   grind
theorem RowI.less {n c : Nat} {K B K' B' : Int} {row by_ : Nat → Rat} (h : RowI n K B row) (h' : RowI n K' B' by_) (hc : c < n) (hKB : K' ≤ B') : RowI n (K * K') (2 * (B * B')) (fun k => row k - row c * by_ k) := by
 refine ⟨Int.mul_pos h.1 h'.1, fun k hk => ?_⟩
 obtain ⟨x, h1, h2⟩ := h.2 k hk
 obtain ⟨f, h3, h4⟩ := h.2 c hc
 obtain ⟨y, h5, h6⟩ := h'.2 k hk
 refine ⟨x * K' - f * y, ?_, ?_⟩
 · rw [Rat.intCast_sub, Rat.intCast_mul, Rat.intCast_mul, Rat.intCast_mul, ← h1, ← h3, ← h5]
   grind
 · have hB : 0 ≤ B := by omega
   have a1 : ((x * K').natAbs : Int) ≤ B * B' := by
    rw [Int.natAbs_mul]
    push_cast
    exact Int.mul_le_mul (by omega) (by have := h'.1; omega) (by omega) hB
   have a2 : ((f * y).natAbs : Int) ≤ B * B' := by
    rw [Int.natAbs_mul]
    push_cast
    exact Int.mul_le_mul (by omega) (by omega) (by omega) hB
   omega
abbrev Mx := Nat → Nat → Rat
def findP (m : Mx) (c : Nat) : Nat → Nat → Nat
 | 0, a => a
 | f + 1, a => if m a c = 0 then findP m c f (a + 1) else a
theorem findP_spec (m : Mx) (c : Nat) : ∀ (f a : Nat), a ≤ findP m c f a ∧ findP m c f a ≤ a + f ∧ (∀ i, a ≤ i → i < findP m c f a → m i c = 0) ∧ (findP m c f a < a + f → m (findP m c f a) c ≠ 0)
 | 0, a => ⟨Nat.le_refl _, Nat.le_refl _, fun i h1 h2 => by rw [findP] at h2; omega, fun h => by rw [findP] at h; omega⟩
 | f + 1, a => by
  rw [findP]
  by_cases e : m a c = 0
  · rw [if_pos e]
    obtain ⟨h1, h2, h3, h4⟩ := findP_spec m c f (a + 1)
    refine ⟨by omega, by omega, fun i g1 g2 => ?_, fun h => h4 (by omega)⟩
    by_cases ei : i = a
    · rw [ei]; exact e
    · exact h3 i (by omega) g2
  · rw [if_neg e]
    exact ⟨Nat.le_refl _, by omega, fun i h1 h2 => by omega, fun _ => e⟩
def swpM (m : Mx) (a b : Nat) : Mx := fun i => if i = a then m b else if i = b then m a else m i
def pivM (m : Mx) (r c : Nat) : Mx := fun i k => if i = r then m r k / m r c else m i k - m i c * (m r k / m r c)
def divB (m : Mx) (n r c : Nat) : Bool := (List.range (n + 1)).all fun k => divK (m r k) (m r c)
def subB (m : Mx) (n r c i : Nat) : Bool := (List.range (n + 1)).all fun k => mulK (m i c) (m r k / m r c) && addK (m i k) (-(m i c * (m r k / m r c)))
def pivB (m : Mx) (n r c : Nat) : Bool := divB m n r c && (List.range n).all fun i => decide (i = r ∨ m i c = 0) || subB m n r c i
def elimF (n : Nat) (stop : Bool) : Nat → Mx → List Nat → Option (Mx × List Nat)
 | 0, m, free => some (m, free)
 | f + 1, m, free =>
  let c := n - (f + 1)
  let r := c - free.length
  let a := findP m c (n - r) r
  if a = n then (if stop = true then some (m, free ++ [c]) else elimF n stop f m (free ++ [c]))
  else if pivB (swpM m r a) n r c = true then elimF n stop f (pivM (swpM m r a) r c) free else none
theorem pivM_zero {m : Mx} {r c i : Nat} (hi : i ≠ r) (h0 : m i c = 0) : pivM m r c i = m i := by
 funext k
 unfold pivM
 rw [if_neg hi, h0]
 grind
def dotM (n : Nat) (row x : Nat → Rat) : Rat := smQ (fun k => row k * x k) n
def solM (n : Nat) (m : Mx) (x : Nat → Rat) : Prop := ∀ i, i < n → dotM n (m i) x = m i n
theorem dot_lin (n : Nat) (a b : Nat → Rat) (s : Rat) (x : Nat → Rat) : dotM n (fun k => a k - s * b k) x = dotM n a x - s * dotM n b x := by
 unfold dotM
 induction n with
 | zero => rw [smQ, smQ, smQ]; grind
 | succ n ih => rw [smQ, smQ, smQ, ih]; grind
theorem dot_div (n : Nat) (a : Nat → Rat) (s : Rat) (x : Nat → Rat) (hs : s ≠ 0) : dotM n (fun k => a k / s) x = dotM n a x / s := by
 unfold dotM
 induction n with
 | zero => rw [smQ, smQ]; grind
 | succ n ih => rw [smQ, smQ, ih]; grind
theorem sol_swap {n a b : Nat} {m : Mx} {x : Nat → Rat} (ha : a < n) (hb : b < n) : solM n (swpM m a b) x ↔ solM n m x := by
 constructor
 · intro h i hi
   by_cases e1 : i = a
   · have := h b hb
     unfold swpM at this
     by_cases e2 : b = a
     · rw [if_pos e2] at this; rw [e1, ← e2]; exact this
     · rw [if_neg e2, if_pos rfl] at this; rw [e1]; exact this
   · by_cases e2 : i = b
     · have := h a ha
       unfold swpM at this
       rw [if_pos rfl] at this
       rw [e2]; exact this
     · have := h i hi
       unfold swpM at this
       rw [if_neg e1, if_neg e2] at this
       exact this
 · intro h i hi
   exact ZL98
theorem sol_piv {n r c : Nat} {m : Mx} {x : Nat → Rat} (hr : r < n) (h0 : m r c ≠ 0) : solM n (pivM m r c) x ↔ solM n m x := by
 have er : pivM m r c r = fun k => m r k / m r c := by funext k; unfold pivM; rw [if_pos rfl]
 have ei : ∀ i, i ≠ r → pivM m r c i = fun k => m i k - m i c * (m r k / m r c) := fun i hi => by funext k; unfold pivM; rw [if_neg hi]
 have key : dotM n (pivM m r c r) x = pivM m r c r n ↔ dotM n (m r) x = m r n := by
  rw [er, dot_div n (m r) (m r c) x h0]
  constructor
  · intro h; grind
  · intro h; rw [h]
 constructor
 · intro h
   have hrr := key.1 (h r hr)
   intro i hi
   by_cases e : i = r
   · rw [e]; exact hrr
   · have h1 := h i hi
     rw [ei i e, dot_lin n (m i) (fun k => m r k / m r c) (m i c) x, dot_div n (m r) (m r c) x h0, hrr] at h1
     grind
 · intro h i hi
   by_cases e : i = r
   · rw [e]; exact key.2 (h r hr)
   · rw [ei i e, dot_lin n (m i) (fun k => m r k / m r c) (m i c) x, dot_div n (m r) (m r c) x h0, h i hi, h r hr]
def UnitM (n c : Nat) (m : Mx) : Prop := ∀ i j, i < n → j < c → m i j = if i = j then 1 else 0
theorem UnitM.zero (n : Nat) (m : Mx) : UnitM n 0 m := fun i j _ h => absurd h (by omega)
theorem UnitM.swap {n c a : Nat} {m : Mx} (h : UnitM n c m) (hc : c < n) (ha : c ≤ a ∧ a < n) : UnitM n c (swpM m c a) := fun i j hi hj => by
 unfold swpM
 by_cases e1 : i = c
 · rw [if_pos e1, h a j ha.2 hj, if_neg (by omega), if_neg (by omega)]
 · rw [if_neg e1]
   by_cases e2 : i = a
   · rw [if_pos e2, h c j hc hj, if_neg (by omega), if_neg (by omega)]
   · rw [if_neg e2]; exact h i j hi hj
theorem UnitM.piv {n c : Nat} {m : Mx} (h : UnitM n c m) (hc : c < n) (h0 : m c c ≠ 0) : UnitM n (c + 1) (pivM m c c) := fun i j hi hj => by
 unfold pivM
 by_cases ej : j = c
 · subst ej
   have e : m j j / m j j = 1 := by grind
   rw [e]
   by_cases e1 : i = j
   · rw [if_pos e1, if_pos e1]
   · rw [if_neg e1, if_neg e1]; grind
 · have e0 : m c j = 0 := by rw [h c j hc (by omega), if_neg (by omega)]
   rw [e0]
   by_cases e1 : i = c
   · rw [if_pos e1, if_neg (by omega)]; grind
   · rw [if_neg e1, h i j hi (by omega)]; grind
def ElimP (n : Nat) (m m' : Mx) (free : List Nat) : Prop :=
 (∀ x, solM n m' x ↔ solM n m x) ∧ ((free = [] ∧ UnitM n n m') ∨ ∃ c, free = [c] ∧ c < n ∧ UnitM n c m' ∧ ∀ i, c ≤ i → i < n → m' i c = 0)
theorem elim_stop {n : Nat} : ∀ (f : Nat) (m m' : Mx) (free : List Nat), f ≤ n → UnitM n (n - f) m → elimF n true f m [] = some (m', free) → ElimP n m m' free
 | 0, m, m', free, _, hU, h => by
  rw [elimF] at h
  injection h with h
  injection h with h1 h2
  subst h1 h2
  exact ⟨fun x => Iff.rfl, Or.inl ⟨rfl, hU⟩⟩
 | f + 1, m, m', free, hf, hU, h => by
  rw [elimF] at h
  simp only [List.length_nil, Nat.sub_zero, List.nil_append, if_true] at h
  obtain ⟨c, hc⟩ : ∃ c, c = n - (f + 1) := ⟨_, rfl⟩
  rw [← hc] at h hU
  have hcn : c < n := by omega
  obtain ⟨p1, p2, p3, p4⟩ := findP_spec m c (n - c) c
  obtain ⟨a, ha⟩ : ∃ a, a = findP m c (n - c) c := ⟨_, rfl⟩
  rw [← ha] at h p1 p2 p3 p4
  by_cases e : a = n
  · rw [if_pos e] at h
    injection h with h
    injection h with h1 h2
    subst h1 h2
    exact ⟨fun x => Iff.rfl, Or.inr ⟨c, rfl, hcn, hU, fun i h1 h2 => p3 i h1 (by omega)⟩⟩
  · rw [if_neg e] at h
    have han : a < n := by omega
    by_cases hp : pivB (swpM m c a) n c c = true
    · rw [if_pos hp] at h
      have hne : swpM m c a c c ≠ 0 := by
       unfold swpM
       rw [if_pos rfl]
       exact p4 (by omega)
      have hU2 := (hU.swap hcn ⟨p1, han⟩).piv hcn hne
      have hfc : c + 1 = n - f := by omega
      rw [hfc] at hU2
      obtain ⟨g1, g2⟩ := elim_stop f _ m' free (by omega) hU2 h
      exact ⟨fun x => (g1 x).trans ((sol_piv hcn hne).trans (sol_swap hcn han)), g2⟩
    · rw [if_neg hp] at h
      cases h
theorem dot_unit {n : Nat} {row x : Nat → Rat} {i : Nat} (hi : i < n) (h : ∀ j, j < n → row j = if i = j then 1 else 0) : dotM n row x = x i := by
 unfold dotM
 have h1 : smQ (fun k => row k * x k) n = smQ (fun k => if i = k then x i else 0) n := smQ_congr fun k hk => by
  rw [h k hk]
  by_cases e : i = k
  · rw [if_pos e, if_pos e, ← e]; grind
  · rw [if_neg e, if_neg e]; grind
 have h0 : ∀ k : Nat, smQ (fun _ => (0 : Rat)) k = 0 := fun k => by rw [smQ_const]; grind
 rw [h1, smQ_one (f := fun _ => 0) (b := i) (c := x i) hi (by rw [if_pos rfl]; grind) (fun k hk hne => by rw [if_neg (fun e => hne e.symm)]), h0]
 grind
theorem unit_sol {n : Nat} {m : Mx} (h : UnitM n n m) (x : Nat → Rat) : solM n m x ↔ ∀ i, i < n → x i = m i n := by
 unfold solM
 constructor
 · intro hs i hi
   rw [← hs i hi, dot_unit hi (fun j hj => h i j hi hj)]
 · intro hx i hi
   rw [dot_unit hi (fun j hj => h i j hi hj), hx i hi]
def kerV (m : Mx) (c : Nat) (i : Nat) : Rat := if i = c then 1 else if i < c then -(m i c) else 0
def homM (n : Nat) (m : Mx) : Mx := fun i k => if k = n then 0 else m i k
theorem dot_hom (n : Nat) (row x : Nat → Rat) : dotM n (fun k => if k = n then 0 else row k) x = dotM n row x := smQ_congr fun k hk => by
 have e : ¬ k = n := by omega
 simp [e]
theorem dot_ker {n c : Nat} {m : Mx} (hc : c < n) (hU : UnitM n c m) (hz : ∀ i, c ≤ i → i < n → m i c = 0) {i : Nat} (hi : i < n) : dotM n (m i) (kerV m c) = 0 := by
 have hb : ∀ k, c < k → k ≤ n → smQ (fun j => m i j * kerV m c j) k = smQ (fun j => m i j * kerV m c j) (c + 1) := fun k => by
  induction k with
  | zero => intro h; omega
  | succ k ih =>
   intro h1 h2
   by_cases e : c = k
   · rw [e]
   · rw [smQ, ih (by omega) (by omega)]
     have : kerV m c k = 0 := by unfold kerV; rw [if_neg (by omega), if_neg (by omega)]
     rw [this]
     grind
 have h0 : ∀ k : Nat, smQ (fun _ => (0 : Rat)) k = 0 := fun k => by rw [smQ_const]; grind
 have hlow : smQ (fun j => m i j * kerV m c j) c = -(m i c) := by
  by_cases e : i < c
  · have h1 : smQ (fun j => m i j * kerV m c j) c = smQ (fun j => if i = j then -(m i c) else 0) c := smQ_congr fun j hj => by
     rw [hU i j hi hj]
     unfold kerV
     rw [if_neg (show ¬ j = c by omega), if_pos hj]
     by_cases e2 : i = j
     · rw [if_pos e2, if_pos e2, ← e2]; grind
     · rw [if_neg e2, if_neg e2]; grind
    rw [h1, smQ_one (f := fun _ => 0) (b := i) (c := -(m i c)) e (by rw [if_pos rfl]; grind) (fun k hk hne => by rw [if_neg (fun e => hne e.symm)]), h0]
    grind
  · have h1 : smQ (fun j => m i j * kerV m c j) c = smQ (fun _ => 0) c := smQ_congr fun j hj => by
     rw [hU i j hi hj, if_neg (by omega)]
     grind
    rw [h1, h0, hz i (by omega) hi]
    grind
 unfold dotM
 rw [hb n hc (Nat.le_refl _), smQ, hlow]
 unfold kerV
 rw [if_pos rfl]
 grind
theorem kerV_ne (m : Mx) (c : Nat) : kerV m c c ≠ 0 := by
 unfold kerV
 rw [if_pos rfl]
 grind
def nulM (n : Nat) (m : Mx) (x : Nat → Rat) : Prop := ∀ i, i < n → dotM n (m i) x = 0
theorem nul_hom (n : Nat) (m : Mx) (x : Nat → Rat) : solM n (homM n m) x ↔ nulM n m x := by
 unfold solM nulM homM
 constructor
 · intro h i hi
   have := h i hi
   rw [dot_hom, if_pos rfl] at this
   exact this
 · intro h i hi
   rw [dot_hom, if_pos rfl]
   exact h i hi
theorem hom_swap (n : Nat) (m : Mx) (a b : Nat) : homM n (swpM m a b) = swpM (homM n m) a b := by
 funext i k
 unfold homM swpM
 by_cases e1 : i = a
 · rw [if_pos e1, if_pos e1]
 · rw [if_neg e1, if_neg e1]
   by_cases e2 : i = b
   · rw [if_pos e2, if_pos e2]
   · rw [if_neg e2, if_neg e2]
theorem hom_piv {n c : Nat} (m : Mx) (r : Nat) (hc : c < n) : homM n (pivM m r c) = pivM (homM n m) r c := by
 funext i k
 unfold homM pivM
 have e : ¬ c = n := by omega
 by_cases e1 : i = r
 · by_cases e2 : k = n
   · simp [e1, e2, e]; grind
   · simp [e1, e2, e]
 · by_cases e2 : k = n
   · simp [e1, e2, e]; grind
   · simp [e1, e2, e]
theorem nul_swap {n a b : Nat} {m : Mx} {x : Nat → Rat} (ha : a < n) (hb : b < n) : nulM n (swpM m a b) x ↔ nulM n m x := by
 rw [← nul_hom, ← nul_hom, hom_swap]
 exact sol_swap ha hb
theorem nul_piv {n r c : Nat} {m : Mx} {x : Nat → Rat} (hr : r < n) (hc : c < n) (h0 : m r c ≠ 0) : nulM n (pivM m r c) x ↔ nulM n m x := by
 rw [← nul_hom, ← nul_hom, hom_piv m r hc]
 refine sol_piv hr ?_
 unfold homM
 rw [if_neg (by omega)]
 exact h0
theorem elim_nul {n : Nat} {stop : Bool} : ∀ (f : Nat) (m m' : Mx) (free free' : List Nat), f ≤ n → free.length ≤ n - f → elimF n stop f m free = some (m', free') → (∀ x, nulM n m' x ↔ nulM n m x) ∧ (∀ x, solM n m' x ↔ solM n m x)
 | 0, m, m', free, free', _, _, h => by
  rw [elimF] at h
  injection h with h
  injection h with h1 h2
  subst h1 h2
  exact ⟨fun x => Iff.rfl, fun x => Iff.rfl⟩
 | f + 1, m, m', free, free', hf, hl, h => by
  rw [elimF] at h
  obtain ⟨c, hc⟩ : ∃ c, c = n - (f + 1) := ⟨_, rfl⟩
  rw [← hc] at h hl
  obtain ⟨r, hr⟩ : ∃ r, r = c - free.length := ⟨_, rfl⟩
  rw [← hr] at h
  have hcn : c < n := by omega
  have hrn : r < n := by omega
  obtain ⟨p1, p2, p3, p4⟩ := findP_spec m c (n - r) r
  obtain ⟨a, ha⟩ : ∃ a, a = findP m c (n - r) r := ⟨_, rfl⟩
  rw [← ha] at h p1 p2 p3 p4
  by_cases e : a = n
  · rw [if_pos e] at h
    by_cases hs : stop = true
    · rw [if_pos hs] at h
      injection h with h
      injection h with h1 h2
      subst h1 h2
      exact ⟨fun x => Iff.rfl, fun x => Iff.rfl⟩
    · rw [if_neg hs] at h
      exact elim_nul f m m' _ free' (by omega) (by rw [List.length_append]; simp only [List.length_cons, List.length_nil]; omega) h
  · rw [if_neg e] at h
    have han : a < n := by omega
    by_cases hp : pivB (swpM m r a) n r c = true
    · rw [if_pos hp] at h
      have hne : swpM m r a r c ≠ 0 := by
       unfold swpM
       rw [if_pos rfl]
       exact p4 (by omega)
      obtain ⟨g1, g2⟩ := elim_nul f _ m' free free' (by omega) (by omega) h
      exact ⟨fun x => (g1 x).trans ((nul_piv hrn hcn hne).trans (nul_swap hrn han)), fun x => (g2 x).trans ((sol_piv hrn hne).trans (sol_swap hrn han))⟩
    · rw [if_neg hp] at h
      cases h
theorem unit_nul {n : Nat} {m : Mx} (h : UnitM n n m) {x : Nat → Rat} (hx : nulM n m x) : ∀ i, i < n → x i = 0 := fun i hi => by
 rw [← hx i hi, dot_unit hi (fun j hj => h i j hi hj)]
theorem free_nul {n c : Nat} {m : Mx} (hc : c < n) (hU : UnitM n c m) (hz : ∀ i, c ≤ i → i < n → m i c = 0) : nulM n m (kerV m c) := fun i hi => dot_ker hc hU hz hi
def UniI (n : Nat) (E : Int) (m : Mx) : Prop := ∀ i, i < n → ∃ K, K ≤ E ∧ RowI (n + 1) K E (m i)
theorem UniI.swap {n a b : Nat} {E : Int} {m : Mx} (h : UniI n E m) (ha : a < n) (hb : b < n) : UniI n E (swpM m a b) := fun i hi => by
 exact ZL98
theorem UniI.piv {n r c : Nat} {E : Int} {m : Mx} (h : UniI n E m) (hr : r < n) (hc : c < n) (h0 : m r c ≠ 0) : UniI n (2 * (E * E)) (pivM m r c) := fun i hi => by
 obtain ⟨K, hK, hR⟩ := h r hr
 have hE : 1 ≤ E := by have := hR.1; omega
 have hEE : E ≤ E * E := by
  have := Int.mul_le_mul_of_nonneg_left hE (show 0 ≤ E by omega)
  rw [Int.mul_one] at this
  exact this
 obtain ⟨K', hK', hR'⟩ := hR.norm (c := c) (by omega) h0
 by_cases e : i = r
 · have e1 : pivM m r c i = fun k => m r k / m r c := by funext k; unfold pivM; rw [if_pos e]
   rw [e1]
   exact ⟨K', by omega, hR'.mono (by omega)⟩
 · have e1 : pivM m r c i = fun k => m i k - m i c * (m r k / m r c) := by funext k; unfold pivM; rw [if_neg e]
   rw [e1]
   obtain ⟨Ki, hKi, hRi⟩ := h i hi
   refine ⟨Ki * K', ?_, hRi.less hR' (by omega) (by omega)⟩
   have h1 : Ki * K' ≤ E * E := Int.mul_le_mul hKi (by omega) (by have := hR'.1; omega) (by omega)
   omega
theorem UniI.mono {n : Nat} {E E' : Int} {m : Mx} (h : UniI n E m) (hE : E ≤ E') : UniI n E' m := fun i hi => by
 obtain ⟨K, h1, h2⟩ := h i hi
 exact ⟨K, by omega, h2.mono hE⟩
def hB : Nat → Int
 | 0 => pw 4 - 1
 | 1 => pw 9 - 1
 | 2 => pw 19 - 1
 | _ => pw 39
end Go.Proofs.YtdlcglndhhndpaaGreat
