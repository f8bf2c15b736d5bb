/- Plain law of layer 15: the greatest sums of ways, by all events between them (Floyd and Warshall), what they say, and that they show a circle. -/
import Derived.Test.YthmnkmomgaamlaaG2
namespace Go.Proofs.Ythmnkmomgaamlaa
set_option linter.unusedVariables false

def fs (D : Nat → Nat → Int) (i k : Nat) (x : Int) : Nat → Nat → Int := fun a b => if a = i ∧ b = k then x else D a b
theorem fs_same (D : Nat → Nat → Int) (i k : Nat) (x : Int) : fs D i k x i k = x := by simp [fs]
theorem fs_other (D : Nat → Nat → Int) (i k : Nat) (x : Int) {a b : Nat} (h : ¬ (a = i ∧ b = k)) : fs D i k x a b = D a b := by simp [fs, h]
/-- the steps alone, the first e of them -/
structure Fe (n : Nat) (all : List St) (e : Nat) (D : Nat → Nat → Int) : Prop where
  low : ∀ x y, x < n → y < n → D x y = (-1000000000000) ∨ (-1048576 ≤ D x y ∧ D x y ≤ 1048576)
  diag : ∀ x, x < n → D x x = 0
  edge : ∀ k, k < e → k < all.length → sG (aAt all k) ≤ D (sF (aAt all k)) (sT (aAt all k))
  sound : ∀ F, Feas all F → ∀ x y, x < n → y < n → (-1000000000000) < D x y → F x + D x y ≤ F y
theorem Fe.start (n : Nat) (all : List St) : Fe n all 0 (fun i k => if i = k then 0 else (-1000000000000)) where
  low := fun x y _ _ => by show (if x = y then (0 : Int) else _) = _ ∨ (_ ≤ (if x = y then (0 : Int) else _) ∧ (if x = y then (0 : Int) else _) ≤ _); split <;> omega
  diag := fun x _ => by simp
  edge := fun k h => absurd h (by omega)
  sound := fun F _ x y _ _ h => by
    by_cases e : x = y
    · subst e; simp
    · simp only [if_neg e] at h; omega
theorem Fe.step {n : Nat} {all : List St} {e : Nat} {D : Nat → Nat → Int} (hok : ∀ e, e < all.length → okS n (aAt all e)) (he : e < all.length) (h : Fe n all e D) :
    Fe n all (e + 1) (fs D (sF (aAt all e)) (sT (aAt all e)) (max (D (sF (aAt all e)) (sT (aAt all e))) (sG (aAt all e)))) := by
  obtain ⟨o1, o2, o3, o4, o5, -⟩ := okS_nat (hok e he)
  have hl := h.low _ _ o1 o2
  refine ⟨fun x y hx hy => ?_, fun x hx => ?_, fun k hk hkl => ?_, fun F hF x y hx hy hv => ?_⟩
  · by_cases q : x = sF (aAt all e) ∧ y = sT (aAt all e)
    · obtain ⟨rfl, rfl⟩ := q
      rw [fs_same]; omega
    · rw [fs_other _ _ _ _ q]; exact h.low x y hx hy
  · rw [fs_other _ _ _ _ (fun q => o3 (q.1.symm.trans q.2))]; exact h.diag x hx
  · by_cases q : sF (aAt all k) = sF (aAt all e) ∧ sT (aAt all k) = sT (aAt all e)
    · obtain ⟨q1, q2⟩ := q
      rw [q1, q2, fs_same]
      by_cases ek : k = e
      · subst ek; omega
      · have := h.edge k (by omega) hkl
        rw [q1, q2] at this; omega
    · rw [fs_other _ _ _ _ q]
      by_cases ek : k = e
      · subst ek; exact absurd ⟨rfl, rfl⟩ q
      · exact h.edge k (by omega) hkl
  · by_cases q : x = sF (aAt all e) ∧ y = sT (aAt all e)
    · obtain ⟨rfl, rfl⟩ := q
      rw [fs_same] at hv ⊢
      have h1 := hF e he
      by_cases h2 : (-1000000000000) < D (sF (aAt all e)) (sT (aAt all e))
      · have := h.sound F hF _ _ hx hy h2
        omega
      · omega
    · rw [fs_other _ _ _ _ q] at hv ⊢
      exact h.sound F hF x y hx hy hv

/-- a circle of events, each but once -/
structure Cy (n : Nat) (all : List St) (B : Nat → Nat) (a c : Nat) : Prop where
  one : 1 ≤ c
  le : c ≤ n
  at_ : ∀ k, itp all B k a < n ∧ B (itp all B k a) < all.length ∧ sT (aAt all (B (itp all B k a))) = itp all B k a
  ret : itp all B c a = a
  dif : ∀ i j, i < j → j < c → itp all B i a ≠ itp all B j a
  pos : 0 < cySum all B a c
theorem cy_of {n : Nat} {all : List St} {B : Nat → Nat} {v : Nat} (h : BadAt n all B v) : ∃ c, Cy n all B (itp all B n v) c := by
  obtain ⟨h1, ⟨c, hc1, hc2, hc⟩, h3⟩ := h
  rw [itp_add] at hc
  have hex : ∃ c, 1 ≤ c ∧ c ≤ n ∧ itp all B c (itp all B n v) = itp all B n v ∧ ∀ c', 1 ≤ c' → c' < c → itp all B c' (itp all B n v) ≠ itp all B n v := by
    clear h3
    induction c using Nat.strongRecOn with
    | ind c ih =>
      by_cases hx : ∃ c', 1 ≤ c' ∧ c' < c ∧ itp all B c' (itp all B n v) = itp all B n v
      · obtain ⟨c', a1, a2, a3⟩ := hx
        exact ih c' a2 a1 (by omega) a3
      · exact ⟨c, hc1, hc2, hc, fun c' a1 a2 a3 => hx ⟨c', a1, a2, a3⟩⟩
  obtain ⟨c, hc1, hc2, hc, hmin⟩ := hex
  refine ⟨c, hc1, hc2, fun k => by rw [← itp_add]; exact h1 _, hc, fun i j hij hj e => ?_, h3 n c hc1 hc⟩
  refine hmin (i + (c - j)) (by omega) (by omega) ?_
  rw [itp_add, e, ← itp_add, show j + (c - j) = c by omega, hc]
/-- a part of the circle, from its event q to its event p -/
def arcS (all : List St) (B : Nat → Nat) (a p q : Nat) : Int := cySum all B a q - cySum all B a p
theorem arc_bd {n : Nat} {all : List St} {B : Nat → Nat} {a c : Nat} (hok : ∀ e, e < all.length → okS n (aAt all e)) (h : Cy n all B a c) (p : Nat) : ∀ d : Nat, -((d : Int) * 1048576) ≤ arcS all B a p (p + d) ∧ arcS all B a p (p + d) ≤ (d : Int) * 1048576
  | 0 => by simp [arcS]
  | d + 1 => by
    have h1 := arc_bd hok h p d
    obtain ⟨_, _, _, o4, o5, _⟩ := okS_nat (hok _ (h.at_ (p + d)).2.1)
    have e : cySum all B a (p + d + 1) = cySum all B a (p + d) + sG (aAt all (B (itp all B (p + d) a))) := rfl
    unfold arcS at *
    rw [← Nat.add_assoc, e]
    omega
/-- all ways whose events between are less than b -/
structure Fw (n : Nat) (all : List St) (b : Nat) (D : Nat → Nat → Int) : Prop where
  low : ∀ x y, x < n → y < n → D x y = (-1000000000000) ∨ (-((2 : Int) ^ b * 1048576) ≤ D x y ∧ D x y ≤ 1000000000000)
  diag : ∀ x, x < n → 0 ≤ D x x
  edge : ∀ k, k < all.length → sG (aAt all k) ≤ D (sF (aAt all k)) (sT (aAt all k))
  sound : ∀ F, Feas all F → ∀ x y, x < n → y < n → (-1000000000000) < D x y → F x + D x y ≤ F y
  tri : ∀ F, Feas all F → (∀ v, v < n → 0 ≤ F v ∧ F v ≤ 100000000000) → ∀ m, m < b → m < n → ∀ x y, x < n → y < n → (-1000000000000) < D x m → (-1000000000000) < D m y → D x m + D m y ≤ D x y
  arc : ∀ B a c, Cy n all B a c → ∀ p q, p < q → q ≤ c → (∀ j, p < j → j < q → itp all B j a < b) → arcS all B a p q ≤ D (itp all B q a) (itp all B p a)
theorem Fe.done {n : Nat} {all : List St} {D : Nat → Nat → Int} (h : Fe n all all.length D) : Fw n all 0 D where
  low := fun x y hx hy => by have := h.low x y hx hy; omega
  diag := fun x hx => by rw [h.diag x hx]; omega
  edge := fun k hk => h.edge k hk hk
  sound := h.sound
  tri := fun F _ _ m hm => absurd hm (by omega)
  arc := fun B a c hc p q hpq hq hj => by
    have e : q = p + 1 := by
      by_cases e : q = p + 1
      · exact e
      · exact absurd (hj (p + 1) (by omega) (by omega)) (by omega)
    subst e
    obtain ⟨c1, c2, c3⟩ := hc.at_ p
    have h1 := h.edge _ c2 c2
    rw [c3] at h1
    have e : cySum all B a (p + 1) = cySum all B a p + sG (aAt all (B (itp all B p a))) := rfl
    have e2 : itp all B (p + 1) a = sF (aAt all (B (itp all B p a))) := rfl
    unfold arcS
    rw [e, e2]; omega
/-- within a round: D before it, E at the place (i, k) -/
def before (x y i k : Nat) : Prop := x < i ∨ (x = i ∧ y < k)
structure Ph (n : Nat) (all : List St) (b : Nat) (D E : Nat → Nat → Int) (i k : Nat) : Prop where
  mono : ∀ x y, x < n → y < n → D x y ≤ E x y
  done : ∀ x y, x < n → y < n → before x y i k → (-1000000000000) < D x b → (-1000000000000) < D b y → min (D x b + D b y) 1000000000000 ≤ E x y
  up : D b b ≤ 0 → ∀ x y, x < n → y < n → E x y = D x y ∨ ((-1000000000000) < D x b ∧ (-1000000000000) < D b y ∧ E x y ≤ D x b + D b y)
  sound : ∀ F, Feas all F → ∀ x y, x < n → y < n → (-1000000000000) < E x y → F x + E x y ≤ F y
  low : ∀ x y, x < n → y < n → E x y = (-1000000000000) ∨ (-((2 : Int) ^ (b + 1) * 1048576) ≤ E x y ∧ E x y ≤ 1000000000000)
  col : ∀ x, x < n → (-1000000000000) < E x b → (-1000000000000) < D x b
  row : ∀ y, y < n → (-1000000000000) < E b y → (-1000000000000) < D b y
theorem pow_pos' (b : Nat) : (0 : Int) < (2 : Int) ^ b := by
  induction b with
  | zero => simp
  | succ b ih => rw [Int.pow_succ]; omega
theorem Fw.begin {n : Nat} {all : List St} {b : Nat} {D : Nat → Nat → Int} (h : Fw n all b D) : Ph n all b D D 0 0 where
  mono := fun _ _ _ _ => Int.le_refl _
  done := fun x y _ _ hb => by unfold before at hb; omega
  up := fun _ _ _ _ _ => Or.inl rfl
  sound := h.sound
  low := fun x y hx hy => by
    have h1 := h.low x y hx hy
    have h2 := pow_pos' b
    rw [Int.pow_succ]; omega
  col := fun _ _ h => h
  row := fun _ _ h => h
theorem Ph.skip {n : Nat} {all : List St} {b : Nat} {D E : Nat → Nat → Int} {i k : Nat} (h : Ph n all b D E i k) (hn : ¬ ((-1000000000000) < E i b ∧ (-1000000000000) < E b k)) (hi : i < n) (hk : k < n) (hb : b < n) : Ph n all b D E i (k + 1) where
  mono := h.mono
  done := fun x y hx hy hbf h1 h2 => by
    by_cases e : x = i ∧ y = k
    · obtain ⟨rfl, rfl⟩ := e
      have := h.mono x b hx hb
      have := h.mono b y hb hy
      exact absurd ⟨by omega, by omega⟩ hn
    · exact h.done x y hx hy (by unfold before at *; omega) h1 h2
  up := h.up
  sound := h.sound
  low := h.low
  col := h.col
  row := h.row
theorem Ph.next {n : Nat} {all : List St} {b : Nat} {D E : Nat → Nat → Int} {i : Nat} (h : Ph n all b D E i n) : Ph n all b D E (i + 1) 0 where
  mono := h.mono
  done := fun x y hx hy hbf h1 h2 => h.done x y hx hy (by unfold before at *; omega) h1 h2
  up := h.up
  sound := h.sound
  low := h.low
  col := h.col
  row := h.row
theorem Ph.step {n : Nat} {all : List St} {b : Nat} {D E : Nat → Nat → Int} {i k : Nat} (hD : Fw n all b D) (h : Ph n all b D E i k) (hy : (-1000000000000) < E i b ∧ (-1000000000000) < E b k) (hi : i < n) (hk : k < n) (hb : b < n) : Ph n all b D (fs E i k (max (E i k) (min (E i b + E b k) 1000000000000))) i (k + 1) := by
  obtain ⟨y1, y2⟩ := hy
  have c1 := h.col i hi y1
  have c2 := h.row k hk y2
  have m1 := h.mono i b hi hb
  have m2 := h.mono b k hb hk
  have l0 := h.low i k hi hk
  have l1 := h.low i b hi hb
  have l2 := h.low b k hb hk
  have d1 := hD.low i b hi hb
  have d2 := hD.low b k hb hk
  have hp := pow_pos' b
  have hpw : (2 : Int) ^ (b + 1) = 2 ^ b * 2 := Int.pow_succ _ _
  refine ⟨fun x y hx hy => ?_, fun x y hx hy hbf h1 h2 => ?_, fun hbb x y hx hy => ?_, fun F hF x y hx hy hv => ?_, fun x y hx hy => ?_, fun x hx hv => ?_, fun y hy hv => ?_⟩
  · by_cases q : x = i ∧ y = k
    · obtain ⟨rfl, rfl⟩ := q
      rw [fs_same]; have := h.mono x y hx hy; omega
    · rw [fs_other _ _ _ _ q]; exact h.mono x y hx hy
  · by_cases q : x = i ∧ y = k
    · obtain ⟨rfl, rfl⟩ := q
      rw [fs_same]; omega
    · rw [fs_other _ _ _ _ q]; exact h.done x y hx hy (by unfold before at *; omega) h1 h2
  · by_cases q : x = i ∧ y = k
    · obtain ⟨rfl, rfl⟩ := q
      rw [fs_same]
      have u0 := h.up hbb x y hx hy
      have u1 := h.up hbb x b hx hb
      have u2 := h.up hbb b y hb hy
      omega
    · rw [fs_other _ _ _ _ q]; exact h.up hbb x y hx hy
  · by_cases q : x = i ∧ y = k
    · obtain ⟨rfl, rfl⟩ := q
      rw [fs_same] at hv ⊢
      have s1 := h.sound F hF x b hx hb y1
      have s2 := h.sound F hF b y hb hy y2
      by_cases h0 : (-1000000000000) < E x y
      · have := h.sound F hF x y hx hy h0
        omega
      · omega
    · rw [fs_other _ _ _ _ q] at hv ⊢; exact h.sound F hF x y hx hy hv
  · by_cases q : x = i ∧ y = k
    · obtain ⟨rfl, rfl⟩ := q
      rw [fs_same, hpw] at *
      generalize (2 : Int) ^ b = P at *
      right
      omega
    · rw [fs_other _ _ _ _ q]; exact h.low x y hx hy
  · by_cases q : x = i ∧ b = k
    · obtain ⟨rfl, rfl⟩ := q
      exact c1
    · rw [fs_other _ _ _ _ q] at hv; exact h.col x hx hv
  · by_cases q : b = i ∧ y = k
    · obtain ⟨rfl, rfl⟩ := q
      exact c2
    · rw [fs_other _ _ _ _ q] at hv; exact h.row y hy hv
/-- a round is over -/
theorem Ph.fin {n : Nat} {all : List St} {b : Nat} {D E : Nat → Nat → Int} (hok : ∀ e, e < all.length → okS n (aAt all e)) (hn : n ≤ 14) (hb : b < n) (hD : Fw n all b D) (h : Ph n all b D E n 0) : Fw n all (b + 1) E := by
  have hpw : (2 : Int) ^ (b + 1) = 2 ^ b * 2 := Int.pow_succ _ _
  have hp := pow_pos' b
  have hpb : (2 : Int) ^ b ≤ 16384 := by
    have : ∀ c : Nat, c ≤ 14 → (2 : Int) ^ c ≤ 16384 := by decide
    exact this b (by omega)
  have hdone : ∀ x y, x < n → y < n → (-1000000000000) < D x b → (-1000000000000) < D b y → min (D x b + D b y) 1000000000000 ≤ E x y := fun x y hx hy => h.done x y hx hy (by unfold before; omega)
  refine ⟨fun x y hx hy => h.low x y hx hy, fun x hx => by have := hD.diag x hx; have := h.mono x x hx hx; omega, fun k hk => ?_, h.sound, fun F hF hFb m hm hmn x y hx hy h1 h2 => ?_, fun B a c hc p q hpq hq hj => ?_⟩
  · obtain ⟨o1, o2, _⟩ := okS_nat (hok k hk)
    have := hD.edge k hk
    have := h.mono _ _ o1 o2
    omega
  · have hbb : D b b = 0 := by
      have g1 := hD.diag b hb
      have g2 := hD.sound F hF b b hb hb (by omega)
      omega
    have u1 := h.up (by omega) x m hx hmn
    have u2 := h.up (by omega) m y hmn hy
    have mx := h.mono x y hx hy
    have t1 : ∀ x y, x < n → y < n → (-1000000000000) < D x b → (-1000000000000) < D b y → D x b + D b y ≤ E x y := fun x y hx hy q1 q2 => by
      have g1 := hdone x y hx hy q1 q2
      have g2 := hD.sound F hF x b hx hb q1
      have g3 := hD.sound F hF b y hb hy q2
      have g4 := hFb x hx
      have g5 := hFb y hy
      omega
    have t2 := fun (z : Nat) (hz : z < b) (hzn : z < n) x y hx hy q1 q2 => hD.tri F hF hFb z hz hzn x y hx hy q1 q2
    have ll : ∀ x y, x < n → y < n → (-1000000000000) < D x y → -20000000000 ≤ D x y := fun x y hx hy q => by
      have := hD.low x y hx hy
      generalize (2 : Int) ^ b = P at *
      omega
    by_cases em : m = b
    · subst em
      have e1 : E x m = D x m := by
        rcases u1 with u | ⟨v1, v2, v3⟩
        · exact u
        · have := h.mono x m hx hmn; omega
      have e2 : E m y = D m y := by
        rcases u2 with u | ⟨v1, v2, v3⟩
        · exact u
        · have := h.mono m y hmn hy; omega
      rw [e1] at h1 ⊢
      rw [e2] at h2 ⊢
      exact t1 x y hx hy h1 h2
    · have hmb : m < b := by omega
      rcases u1 with u1 | ⟨v1, v2, v3⟩
      · rcases u2 with u2 | ⟨w1, w2, w3⟩
        · rw [u1] at h1 ⊢
          rw [u2] at h2 ⊢
          have := t2 m hmb hmn x y hx hy h1 h2
          omega
        · rw [u1] at h1 ⊢
          have a1 := t2 m hmb hmn x b hx hb h1 w1
          have b1 := ll x m hx hmn h1
          have b2 := ll m b hmn hb w1
          have a2 := t1 x y hx hy (by omega) w2
          omega
      · rcases u2 with u2 | ⟨w1, w2, w3⟩
        · rw [u2] at h2 ⊢
          have a1 := t2 m hmb hmn b y hb hy v2 h2
          have b1 := ll b m hb hmn v2
          have b2 := ll m y hmn hy h2
          have a2 := t1 x y hx hy v1 (by omega)
          omega
        · have a1 := t2 m hmb hmn b b hb hb v2 w1
          have a2 := t1 x y hx hy v1 w2
          omega
  · have hcq := hc.le
    by_cases hx : ∃ j, p < j ∧ j < q ∧ itp all B j a = b
    · obtain ⟨j, hj1, hj2, ej⟩ := hx
      have hne : ∀ i, p < i → i < q → i ≠ j → itp all B i a < b := fun i i1 i2 i3 => by
        have h5 := hj i i1 i2
        have h6 : itp all B i a ≠ b := fun e => by
          rcases Nat.lt_or_gt_of_ne i3 with h7 | h7
          · exact hc.dif i j h7 (by omega) (e.trans ej.symm)
          · exact hc.dif j i h7 (by omega) (ej.trans e.symm)
        omega
      have a1 := hD.arc B a c hc p j hj1 (by omega) (fun i i1 i2 => hne i i1 (by omega) (by omega))
      have a2 := hD.arc B a c hc j q hj2 hq (fun i i1 i2 => hne i (by omega) i2 (by omega))
      have b1 := arc_bd hok hc p (j - p)
      have b2 := arc_bd hok hc j (q - j)
      rw [show p + (j - p) = j by omega] at b1
      rw [show j + (q - j) = q by omega] at b2
      rw [ej] at a1 a2
      have g := hdone _ _ (hc.at_ q).1 (hc.at_ p).1 (by omega) (by omega)
      unfold arcS at *
      omega
    · have a1 := hD.arc B a c hc p q hpq hq (fun i i1 i2 => by
        have h5 := hj i i1 i2
        have h6 : itp all B i a ≠ b := fun e => hx ⟨i, i1, i2, e⟩
        omega)
      have := h.mono _ _ (hc.at_ q).1 (hc.at_ p).1
      omega
/-- a circle shows -/
theorem Fw.circle {n : Nat} {all : List St} {D : Nat → Nat → Int} (h : Fw n all n D) {B : Nat → Nat} {v : Nat} (hb : BadAt n all B v) : ∃ x, x < n ∧ 0 < D x x := by
  obtain ⟨c, hc⟩ := cy_of hb
  have h1 := h.arc B _ c hc 0 c (by have := hc.one; omega) (Nat.le_refl _) (fun j _ _ => (hc.at_ j).1)
  have h2 := hc.pos
  refine ⟨itp all B n v, (hc.at_ 0).1, ?_⟩
  rw [hc.ret] at h1
  have e : arcS all B (itp all B n v) 0 c = cySum all B (itp all B n v) c := by simp [arcS, cySum, sumN]
  rw [e] at h1
  exact Int.lt_of_lt_of_le h2 h1
end Go.Proofs.Ythmnkmomgaamlaa
