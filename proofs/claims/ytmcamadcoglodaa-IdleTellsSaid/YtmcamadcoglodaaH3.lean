/- Plain law: certificates, cheapest assignments, and the first of them. Rows and columns are counted from 0 on. No condition. -/
import Derived.Test.YtmcamadcoglodaaH2
namespace Go.Proofs.Ytmcamadcoglodaa
open Go.RowKit

def sumN (f : Nat → Int) : Nat → Int
  | 0 => 0
  | n + 1 => sumN f n + f n
theorem sumN_congr {f g : Nat → Int} : ∀ n, (∀ i, i < n → f i = g i) → sumN f n = sumN g n
  | 0, _ => rfl
  | n + 1, h => by rw [sumN, sumN, sumN_congr n (fun i hi => h i (by omega)), h n (by omega)]
theorem sumN_le {f g : Nat → Int} : ∀ n, (∀ v, v < n → f v ≤ g v) → sumN f n ≤ sumN g n
  | 0, _ => Int.le_refl _
  | n + 1, h => by
    rw [sumN, sumN]
    have := sumN_le n (fun v hv => h v (by omega))
    have := h n (by omega)
    omega
theorem sumN_lt {f g : Nat → Int} : ∀ n v0, v0 < n → f v0 < g v0 → (∀ v, v < n → f v ≤ g v) → sumN f n < sumN g n
  | 0, v0, h, _, _ => absurd h (by omega)
  | n + 1, v0, h, hl, hle => by
    rw [sumN, sumN]
    by_cases e : v0 = n
    · subst e
      have := sumN_le v0 (fun v hv => hle v (by omega))
      omega
    · have := sumN_lt n v0 (by omega) hl (fun v hv => hle v (by omega))
      have := hle n (by omega)
      omega
theorem sumN_plus (f g : Nat → Int) : ∀ n, sumN (fun i => f i + g i) n = sumN f n + sumN g n
  | 0 => rfl
  | n + 1 => by rw [sumN, sumN, sumN, sumN_plus f g n]; omega
theorem sumN_nonneg {f : Nat → Int} : ∀ n, (∀ i, i < n → 0 ≤ f i) → 0 ≤ sumN f n
  | 0, _ => Int.le_refl _
  | n + 1, h => by rw [sumN]; have := sumN_nonneg n (fun i hi => h i (by omega)); have := h n (by omega); omega
theorem sumN_ge {f : Nat → Int} : ∀ n i, i < n → (∀ i, i < n → 0 ≤ f i) → f i ≤ sumN f n
  | 0, i, h, _ => absurd h (by omega)
  | n + 1, i, h, hp => by
    rw [sumN]
    by_cases e : i = n
    · subst e; have := sumN_nonneg i (fun j hj => hp j (by omega)); omega
    · have := sumN_ge n i (by omega) (fun j hj => hp j (by omega)); have := hp n (by omega); omega
theorem sumN_zero1 (K : Nat → Int) (q : Nat) : ∀ n, q < n → sumN K n = sumN (fun k => if k = q then 0 else K k) n + K q
  | 0, h => absurd h (by omega)
  | n + 1, h => by
    rw [sumN, sumN]
    by_cases e : q = n
    · subst e
      rw [if_pos rfl, sumN_congr (f := fun k => if k = q then 0 else K k) (g := K) q (fun i hi => if_neg (by omega))]
      omega
    · rw [sumN_zero1 K q n (by omega), if_neg (by omega)]
      omega
/-- an assignment of rows to columns -/
def As (m n : Nat) (T : Nat → Nat) : Prop := (∀ r, r < m → T r < n) ∧ ∀ r r', r < m → r' < m → T r = T r' → r = r'
def costF (m : Nat) (c : Nat → Nat → Int) (T : Nat → Nat) : Int := sumN (fun r => c r (T r)) m
/-- numbers that are not positive: those that an assignment meets are together not less than all -/
theorem sum_met {n : Nat} {T : Nat → Nat} : ∀ (m : Nat) (K : Nat → Int), (∀ k, k < n → K k ≤ 0) → As m n T → sumN K n ≤ sumN (fun r => K (T r)) m
  | 0, K, hK, _ => by
    have := sumN_le (f := K) (g := fun _ => 0) n hK
    have h0 : ∀ n, sumN (fun _ => (0 : Int)) n = 0 := fun n => by
      induction n with
      | zero => rfl
      | succ n ih => rw [sumN, ih]; rfl
    rw [h0] at this
    exact this
  | m + 1, K, hK, h => by
    have h1 := sum_met m (fun k => if k = T m then 0 else K k) (fun k hk => by
      show (if k = T m then (0 : Int) else K k) ≤ 0
      split
      · exact Int.le_refl _
      · exact hK k hk) ⟨fun r hr => h.1 r (by omega), fun r r' h1 h2 => h.2 r r' (by omega) (by omega)⟩
    rw [sumN_congr (f := fun r => if T r = T m then 0 else K (T r)) (g := fun r => K (T r)) m (fun r hr => if_neg (fun e => by have := h.2 r m (by omega) (by omega) e; omega))] at h1
    rw [sumN, sumN_zero1 K (T m) n (h.1 m (by omega))]
    omega
/-- and exactly as much only if all others are 0 -/
theorem met_zero {n : Nat} {T : Nat → Nat} {m : Nat} {K : Nat → Int} (hK : ∀ k, k < n → K k ≤ 0) (h : As m n T) (he : sumN (fun r => K (T r)) m ≤ sumN K n) {q : Nat} (hq : q < n) (hno : ∀ r, r < m → T r ≠ q) : K q = 0 := by
  have h1 := sum_met m (fun k => if k = q then 0 else K k) (fun k hk => by
      show (if k = q then (0 : Int) else K k) ≤ 0
      split
      · exact Int.le_refl _
      · exact hK k hk) h
  rw [sumN_congr (f := fun r => if T r = q then 0 else K (T r)) (g := fun r => K (T r)) m (fun r hr => if_neg (hno r hr))] at h1
  have h2 := sumN_zero1 K q n hq
  have := hK q hq
  omega
/-- a certificate -/
structure Ce (m n : Nat) (c : Nat → Nat → Int) (T : Nat → Nat) (R K : Nat → Int) : Prop where
  as : As m n T
  feas : ∀ r k, r < m → k < n → R r + K k ≤ c r k
  tight : ∀ r, r < m → R r + K (T r) = c r (T r)
  neg : ∀ k, k < n → K k ≤ 0
  free : ∀ k, k < n → (∀ r, r < m → T r ≠ k) → K k = 0
section
variable {m n : Nat} {c : Nat → Nat → Int} {T : Nat → Nat} {R K : Nat → Int}
theorem met_all : ∀ (m : Nat) (K : Nat → Int) (T : Nat → Nat), As m n T → (∀ k, k < n → (∀ r, r < m → T r ≠ k) → K k = 0) → sumN (fun r => K (T r)) m = sumN K n
  | 0, K, T, _, hz => by
    have h0 : ∀ j, j ≤ n → sumN K j = 0 := fun j => by
      induction j with
      | zero => intro _; rfl
      | succ j ih => intro hj; rw [sumN, ih (by omega), hz j (by omega) (fun r hr => absurd hr (by omega))]; rfl
    rw [h0 n (Nat.le_refl _)]; rfl
  | m + 1, K, T, h, hz => by
    have h1 := met_all m (fun k => if k = T m then 0 else K k) T ⟨fun r hr => h.1 r (by omega), fun r r' h1 h2 => h.2 r r' (by omega) (by omega)⟩ (fun k hk hno => by
      show (if k = T m then (0 : Int) else K k) = 0
      by_cases e : k = T m
      · rw [if_pos e]
      · rw [if_neg e]
        exact hz k hk (fun r hr => by
          by_cases e2 : r = m
          · subst e2; exact fun q => e q.symm
          · exact hno r (by omega)))
    rw [sumN_congr (f := fun r => if T r = T m then 0 else K (T r)) (g := fun r => K (T r)) m (fun r hr => if_neg (fun e => by have := h.2 r m (by omega) (by omega) e; omega))] at h1
    rw [sumN, sumN_zero1 K (T m) n (h.1 m (by omega)), h1]
theorem Ce.sum (h : Ce m n c T R K) : costF m c T = sumN R m + sumN K n := by
  unfold costF
  rw [sumN_congr (f := fun r => c r (T r)) (g := fun r => R r + K (T r)) m (fun r hr => (h.tight r hr).symm), sumN_plus R (fun r => K (T r)) m, met_all m K T h.as h.free]
theorem Ce.least (h : Ce m n c T R K) {F : Nat → Nat} (hF : As m n F) : costF m c T ≤ costF m c F := by
  have h1 := sum_met m K h.neg hF
  have h2 := sumN_le (f := fun r => R r + K (F r)) (g := fun r => c r (F r)) m (fun r hr => h.feas r (F r) hr (hF.1 r hr))
  rw [sumN_plus R (fun r => K (F r)) m] at h2
  rw [h.sum]
  unfold costF
  omega
/-- the prices are a certificate of each other cheapest assignment as well -/
theorem Ce.other (h : Ce m n c T R K) {F : Nat → Nat} (hF : As m n F) (he : costF m c F = costF m c T) : Ce m n c F R K := by
  have h1 := sum_met m K h.neg hF
  have h2 := sumN_le (f := fun r => R r + K (F r)) (g := fun r => c r (F r)) m (fun r hr => h.feas r (F r) hr (hF.1 r hr))
  have hs := h.sum
  rw [sumN_plus R (fun r => K (F r)) m] at h2
  have h3 : sumN (fun r => c r (F r)) m = costF m c F := rfl
  refine ⟨hF, h.feas, fun r hr => ?_, h.neg, fun k hk hno => met_zero h.neg hF (by omega) hk hno⟩
  have h4 := h.feas r (F r) hr (hF.1 r hr)
  by_cases e : R r + K (F r) = c r (F r)
  · exact e
  · have h5 := sumN_lt (f := fun r => R r + K (F r)) (g := fun r => c r (F r)) m r hr (by show R r + K (F r) < c r (F r); omega) (fun r hr => h.feas r (F r) hr (hF.1 r hr))
    rw [sumN_plus R (fun r => K (F r)) m] at h5
    omega
/-- rows that have all their columns, counted from 1, give a certificate -/
theorem Mt.cert {U V : Nat → Int} {O : Nat → Nat} (h : Mt m n m (fun r k => c (r - 1) (k - 1)) U V O) (hT : ∀ r, r < m → T r < n ∧ O (T r + 1) = r + 1) : Ce m n c T (fun r => U (r + 1)) (fun k => V (k + 1)) where
  as := ⟨fun r hr => (hT r hr).1, fun r r' h1 h2 e => by have := (hT r h1).2; have := (hT r' h2).2; rw [e] at *; omega⟩
  feas := fun r k hr hk => by have := h.feas (r + 1) (k + 1) (by omega) (by omega) (by omega) (by omega); simpa using this
  tight := fun r hr => by
    obtain ⟨h1, h2⟩ := hT r hr
    have := h.tight (T r + 1) (by omega) (by omega) (by omega)
    rw [h2] at this
    simpa using this
  neg := fun k hk => h.neg (k + 1) (by omega) (by omega)
  free := fun k hk hno => h.free (k + 1) (by omega) (by omega) (by
    refine Classical.byContradiction fun e => ?_
    have h1 := h.own (k + 1) (by omega) (by omega)
    obtain ⟨q1, q2⟩ := hT (O (k + 1) - 1) (by omega)
    have h2 := h.inj (T (O (k + 1) - 1) + 1) (k + 1) (by omega) (by omega) (by omega) (by omega) (by omega) (by omega)
    exact hno (O (k + 1) - 1) (by omega) (by omega))
end
/-- a list comes before another one -/
def bef (m : Nat) (F G : Nat → Nat) : Prop := ∃ r, r < m ∧ (∀ q, q < r → F q = G q) ∧ F r < G r
/-- the first of the cheapest assignments -/
def First (m n : Nat) (c : Nat → Nat → Int) (T : Nat → Nat) : Prop := As m n T ∧ (∀ F, As m n F → costF m c T ≤ costF m c F) ∧ ∀ F, As m n F → costF m c F = costF m c T → ¬ bef m F T
theorem bef_or {F G : Nat → Nat} : ∀ m, (∀ q, q < m → F q = G q) ∨ bef m F G ∨ bef m G F
  | 0 => Or.inl fun q h => absurd h (by omega)
  | m + 1 => by
    rcases bef_or (F := F) (G := G) m with h | ⟨r, h1, h2⟩ | ⟨r, h1, h2⟩
    · by_cases e : F m = G m
      · exact Or.inl fun q hq => by
          by_cases e2 : q = m
          · subst e2; exact e
          · exact h q (by omega)
      · by_cases e2 : F m < G m
        · exact Or.inr (Or.inl ⟨m, by omega, h, e2⟩)
        · exact Or.inr (Or.inr ⟨m, by omega, fun q hq => (h q hq).symm, by omega⟩)
    · exact Or.inr (Or.inl ⟨r, by omega, h2⟩)
    · exact Or.inr (Or.inr ⟨r, by omega, h2⟩)
theorem first_unique {m n : Nat} {c : Nat → Nat → Int} {T T' : Nat → Nat} (h : First m n c T) (h' : First m n c T') : ∀ r, r < m → T r = T' r := by
  have h1 := h.2.1 T' h'.1
  have h2 := h'.2.1 T h.1
  rcases bef_or (F := T) (G := T') m with e | e | e
  · exact e
  · exact (h'.2.2 T h.1 (by omega) e).elim
  · exact (h.2.2 T' h'.1 (by omega) e).elim
/-- the table whose rows before i allow only their own columns -/
def fx (c : Nat → Nat → Int) (T : Nat → Nat) (i : Nat) : Nat → Nat → Int := fun r k => if r < i ∧ k ≠ T r then 68719476736 else c r k
section
variable {m n : Nat} {c : Nat → Nat → Int} {T : Nat → Nat}
theorem fx_ge (hc : ∀ r k, r < m → k < n → 0 ≤ c r k ∧ c r k ≤ 1000000000) {F : Nat → Nat} (hF : As m n F) (i : Nat) : costF m c F ≤ costF m (fx c T i) F :=
  sumN_le m fun r hr => by
    show c r (F r) ≤ fx c T i r (F r)
    unfold fx
    split
    · have := (hc r (F r) hr (hF.1 r hr)).2; omega
    · exact Int.le_refl _
theorem fx_eq {F : Nat → Nat} {i : Nat} (h : ∀ q, q < i → q < m → F q = T q) : costF m (fx c T i) F = costF m c F :=
  sumN_congr m fun r hr => by
    show fx c T i r (F r) = c r (F r)
    unfold fx
    rw [if_neg (fun e => e.2 (h r e.1 hr))]
theorem cost_bd (hc : ∀ r k, r < m → k < n → 0 ≤ c r k ∧ c r k ≤ 1000000000) {F : Nat → Nat} (hF : As m n F) : ∀ j, j ≤ m → 0 ≤ sumN (fun r => c r (F r)) j ∧ sumN (fun r => c r (F r)) j ≤ (j : Int) * 1000000000
  | 0, _ => by simp [sumN]
  | j + 1, hj => by
    have h1 := cost_bd hc hF j (by omega)
    have h2 := hc j (F j) (by omega) (hF.1 j (by omega))
    rw [sumN]
    omega
theorem fx_only (hm : m ≤ 20) (hc : ∀ r k, r < m → k < n → 0 ≤ c r k ∧ c r k ≤ 1000000000) {F G : Nat → Nat} (hF : As m n F) (hG : As m n G) {i : Nat} (he : costF m (fx c T i) F = costF m c G) : (∀ q, q < i → q < m → F q = T q) ∧ costF m c F = costF m c G := by
  have h1 : ∀ q, q < i → q < m → F q = T q := fun q h1 h2 => by
    refine Classical.byContradiction fun hne => ?_
    have h3 := sumN_ge (f := fun r => fx c T i r (F r)) m q h2 (fun r hr => by
      show 0 ≤ fx c T i r (F r)
      unfold fx
      split
      · omega
      · exact (hc r (F r) hr (hF.1 r hr)).1)
    have h4 : fx c T i q (F q) = 68719476736 := by unfold fx; rw [if_pos ⟨h1, hne⟩]
    have h5 := (cost_bd hc hG m (Nat.le_refl _)).2
    have h6 : sumN (fun r => c r (G r)) m = costF m c G := rfl
    have h7 : sumN (fun r => fx c T i r (F r)) m = costF m (fx c T i) F := rfl
    have h8 : fx c T i q (F q) ≤ sumN (fun r => fx c T i r (F r)) m := h3
    omega
  exact ⟨h1, by rw [← he, fx_eq h1]⟩
/-- while Solve looks for the first one: rows before i are as in the first one, and in row i no column before k serves -/
def Look (m n : Nat) (c : Nat → Nat → Int) (T : Nat → Nat) (i k : Nat) : Prop :=
  As m n T ∧ (∀ F, As m n F → costF m c T ≤ costF m c F) ∧ (∀ F, As m n F → costF m c F = costF m c T → ∀ r, r < i → (∀ q, q < r → F q = T q) → T r ≤ F r) ∧
  ∀ F, As m n F → costF m c F = costF m c T → (∀ q, q < i → F q = T q) → k ≤ F i
theorem Look.start (h : As m n T) (hl : ∀ F, As m n F → costF m c T ≤ costF m c F) : Look m n c T 0 0 := ⟨h, hl, fun F _ _ r hr => absurd hr (by omega), fun _ _ _ _ => Nat.zero_le _⟩
theorem Look.used {i k q : Nat} (h : Look m n c T i k) (hi : i < m) (hq : q < i) (hk : T q = k) : Look m n c T i (k + 1) :=
  ⟨h.1, h.2.1, h.2.2.1, fun F hF he hp => by
    have h1 := h.2.2.2 F hF he hp
    have h2 : F i ≠ k := fun e => by
      have h3 := hp q hq
      have := hF.2 q i (by omega) hi (by omega)
      omega
    omega⟩
theorem Look.found {i : Nat} (h : Look m n c T i (T i)) : Look m n c T (i + 1) 0 :=
  ⟨h.1, h.2.1, fun F hF he r hr hp => by
    by_cases e : r = i
    · subst e; exact h.2.2.2 F hF he hp
    · exact h.2.2.1 F hF he r (by omega) hp, fun _ _ _ _ => Nat.zero_le _⟩
theorem Look.fin (h : Look m n c T m 0) : First m n c T := ⟨h.1, h.2.1, fun F hF he ⟨r, r1, r2, r3⟩ => by
  have := h.2.2.1 F hF he r r1 r2
  omega⟩
/-- the call of with: a table in which the rows before i allow only their columns, and row i only k -/
theorem Look.with {i k : Nat} (hm : m ≤ 20) (hc : ∀ r k, r < m → k < n → 0 ≤ c r k ∧ c r k ≤ 1000000000) (h : Look m n c T i k) (hi : i < m) {F : Nat → Nat} (hF : As m n F)
    (hl : ∀ G, As m n G → costF m (fx c (fun q => if q = i then k else T q) (i + 1)) F ≤ costF m (fx c (fun q => if q = i then k else T q) (i + 1)) G) :
    (costF m (fx c (fun q => if q = i then k else T q) (i + 1)) F = costF m c T → Look m n c F (i + 1) 0) ∧
    (costF m (fx c (fun q => if q = i then k else T q) (i + 1)) F ≠ costF m c T → Look m n c T i (k + 1)) := by
  refine ⟨fun he => ?_, fun hne => ⟨h.1, h.2.1, h.2.2.1, fun G hG he hp => ?_⟩⟩
  · obtain ⟨h1, h2⟩ := fx_only hm hc hF h.1 he
    have h3 : ∀ q, q < i → F q = T q := fun q hq => by
      have := h1 q (by omega) (by omega)
      rw [if_neg (by omega)] at this
      exact this
    have h4 : F i = k := by
      have := h1 i (by omega) hi
      rw [if_pos rfl] at this
      exact this
    refine ⟨hF, fun G hG => by rw [h2]; exact h.2.1 G hG, fun G hG hg r hr hp => ?_, fun _ _ _ _ => Nat.zero_le _⟩
    by_cases e : r = i
    · subst e
      rw [h4]
      exact h.2.2.2 G hG (by omega) (fun q hq => by rw [hp q hq, h3 q hq])
    · rw [h3 r (by omega)]
      exact h.2.2.1 G hG (by omega) r (by omega) (fun q hq => by rw [hp q hq, h3 q (by omega)])
  · have h1 := h.2.2.2 G hG he hp
    have h2 : G i ≠ k := fun e => hne (by
      have h3 : costF m (fx c (fun q => if q = i then k else T q) (i + 1)) G = costF m c G := fx_eq fun q hq _ => by
        by_cases e2 : q = i
        · subst e2; rw [if_pos rfl]; exact e
        · rw [if_neg e2]; exact hp q (by omega)
      have h4 := hl G hG
      have h5 := fx_ge (T := fun q => if q = i then k else T q) hc hF (i + 1)
      have h6 := h.2.1 F hF
      omega)
    omega
end
end Go.Proofs.Ytmcamadcoglodaa
