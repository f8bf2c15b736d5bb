/- Plain law of layer 34: sums of the cards of votes lie on one polynomial whose value at 0 is the number of those that said yes. -/
import Derived.Test.YtfidjhhpcjmioaaB10
import Derived.Test.YtfidjhhpcjmioaaL5
import Derived.Test.YtfidjhhpcjmioaaShk
namespace Go.Proofs.Ytfidjhhpcjmioaa
open Alg
set_option linter.unusedVariables false

theorem sumR_congr {f g : Nat → Fp} : ∀ n, (∀ j, j < n → f j = g j) → sumR f n = sumR g n
  | 0, _ => rfl
  | n + 1, h => by rw [sumR, sumR, sumR_congr n (fun j hj => h j (by omega)), h n (by omega)]
def polyV (k : Nat) (V : Nat → Vt) (n : Nat) (x : Fp) : Fp := sumR (fun j => secP (yesI (V j).2.1) (V j).2.2 k x) n
/-- how many have said yes -/
def yesN (V : Nat → Vt) (n : Nat) : Int := sumN (fun j => yesI (V j).2.1) n
theorem polyV_isP (k : Nat) (V : Nat → Vt) (n : Nat) : IsP k (polyV k V n) := IsP.sumR n fun i _ => secP_isP _ _ k
theorem polyV_zero (k : Nat) (V : Nat → Vt) (n : Nat) (hk : 0 < k) : polyV k V n 0 = ph (yesN V n) := by
  unfold polyV yesN
  rw [ph_sumN]
  exact sumR_congr n fun j _ => secP_zero _ _ k hk
theorem yesI_bd (y : Bool) : 0 ≤ yesI y ∧ yesI y ≤ 1 := by cases y <;> simp [yesI]
theorem yesN_bd (V : Nat → Vt) : ∀ n : Nat, 0 ≤ yesN V n ∧ yesN V n ≤ n
  | 0 => by simp [yesN, sumN]
  | n + 1 => by
    have h1 := yesN_bd V n
    have h2 := yesI_bd (V n).2.1
    have e : yesN V (n + 1) = yesN V n + yesI (V n).2.1 := rfl
    omega
theorem yesN_succ (V : Nat → Vt) (n : Nat) : yesN V (n + 1) = yesN V n + yesI (V n).2.1 := rfl

/-- the cards of votes -/
def cardsL (t k : Nat) (V : Nat → Vt) (n : Nat) : List Crd := ofF n (fun i => cardOf t k (V i))
theorem cardsL_len (t k : Nat) (V : Nat → Vt) (n : Nat) : (cardsL t k V n).length = n := ofF_len
theorem cardsL_at (t k : Nat) (V : Nat → Vt) {n j : Nat} (h : j < n) : cdAt (cardsL t k V n) j = cardOf t k (V j) := cdAt_eq (ofF_get h)
theorem ph_sumC (l : List Crd) (i : Nat) : ∀ m, ph (sumC l i m) = sumR (fun j => ph (fy (cdAt l j).2 i)) m
  | 0 => ph_zero
  | m + 1 => by rw [sumC, ph_mod, ph_add, ph_sumC l i m, sumR]
theorem sums_on (t k : Nat) (V : Nat → Vt) (n i : Nat) (hi : i < t) : ph (sumC (cardsL t k V n) i n) = polyV k V n (ph ((i : Int) + 1)) := by
  rw [ph_sumC]
  refine sumR_congr n fun j hj => ?_
  rw [cardsL_at t k V hj]
  exact ph_split _ _ k t i hi

/-! checks -/
theorem memL_mem (l : List Crd) (x : Int) : ∀ m, x ∈ memL l m ↔ ∃ j, j < m ∧ (cdAt l j).1 = x
  | 0 => by simp [memL]
  | m + 1 => by
    rw [memL, List.mem_cons, memL_mem l x m]
    constructor
    · rintro (h | ⟨j, hj, h⟩)
      · exact ⟨m, by omega, h.symm⟩
      · exact ⟨j, by omega, h⟩
    · rintro ⟨j, hj, h⟩
      by_cases e : j = m
      · subst e; exact Or.inl h.symm
      · exact Or.inr ⟨j, by omega, h⟩
theorem chkA_fine {l : List Crd} {t : Int} : ∀ m, (∀ j, j < m → cardF (cdAt l j) t = true) → (∀ i j, i < j → j < m → (cdAt l i).1 ≠ (cdAt l j).1) → chkA l t m = 0
  | 0, _, _ => rfl
  | m + 1, h1, h2 => chkA_next (chkA_fine m (fun j hj => h1 j (by omega)) (fun i j hij hj => h2 i j hij (by omega))) (h1 m (by omega)) (by
      rw [memL_mem]
      rintro ⟨j, hj, he⟩
      exact h2 j m hj (by omega) he)
theorem check_fine {l : List Crd} {t : Nat} (ht : 1 ≤ t) (ht2 : t ≤ 20) (hl : l.length ≤ 4000) (h1 : ∀ j, j < l.length → cardF (cdAt l j) t = true) (h2 : ∀ i j, i < j → j < l.length → (cdAt l i).1 ≠ (cdAt l j).1) : checkF l t = 0 := by
  unfold checkF
  rw [if_neg (by omega)]
  exact chkA_fine _ h1 h2
theorem check_again {l : List Crd} {t n : Nat} (ht : 1 ≤ t) (ht2 : t ≤ 20) (hl : l.length = n + 1) (hn : n < 4000) (h1 : ∀ j, j < n + 1 → cardF (cdAt l j) t = true) (h2 : ∀ i j, i < j → j < n → (cdAt l i).1 ≠ (cdAt l j).1) {i : Nat} (hi : i < n) (he : (cdAt l i).1 = (cdAt l n).1) : checkF l t = 5 := by
  unfold checkF
  rw [if_neg (by omega), hl]
  exact chkA_twice (k := n) (chkA_fine n (fun j hj => h1 j (by omega)) h2) (h1 n (by omega)) ((memL_mem l _ n).2 ⟨i, hi, he⟩) (by omega)
theorem rowsOk_of {l : List (Int × Int)} : ∀ m, (∀ j, j < m → rowOk l j = true) → rowsOk l m = true
  | 0, _ => rfl
  | m + 1, h => by rw [rowsOk, rowsOk_of m (fun j hj => h j (by omega)), h m (by omega)]; rfl
theorem cardOf_right {t k : Nat} {v : Vt} (hm : memF v.1 = true) : cardF (cardOf t k v) t = true := by
  unfold cardF cardOf
  simp only [hm, splitL_len, decide_true, Bool.true_and]
  refine rowsOk_of t fun j hj => ?_
  obtain ⟨h1, h2⟩ := splitL_at (yesI v.2.1) k v.2.2 t j hj
  have h3 := hor_bd (coef (yesI v.2.1) v.2.2) ((j : Int) + 1) k k
  simp only [Int.toNat_natCast] at h2
  simp [rowOk, h1, h2]
  exact h3
theorem diffN_facts {l : List Vt} : ∀ {n : Nat}, diffN l n = true → (∀ i, i < n → memF (vAt l i).1 = true) ∧ (∀ i j, i < j → j < n → (vAt l i).1 ≠ (vAt l j).1)
  | 0, _ => ⟨fun i h => absurd h (by omega), fun i j _ h => absurd h (by omega)⟩
  | n + 1, h => by
    rw [diffN, Bool.and_eq_true, Bool.and_eq_true, decide_eq_true_eq] at h
    obtain ⟨h1, h2, h3⟩ := h
    obtain ⟨a, b⟩ := diffN_facts h1
    refine ⟨fun i hi => ?_, fun i j hij hj => ?_⟩
    · by_cases e : i = n
      · subst e; exact h2
      · exact a i (by omega)
    · by_cases e : j = n
      · subst e; exact h3 i hij
      · exact b i j hij (by omega)
theorem cards_check {t k n : Nat} {V : Nat → Vt} (ht : 1 ≤ t) (ht2 : t ≤ 20) (hn : n ≤ 4000) (h1 : ∀ i, i < n → memF (V i).1 = true) (h2 : ∀ i j, i < j → j < n → (V i).1 ≠ (V j).1) : checkF (cardsL t k V n) t = 0 := by
  refine check_fine ht ht2 (by rw [cardsL_len]; exact hn) (fun j hj => ?_) fun i j hij hj => ?_
  · rw [cardsL_len] at hj
    rw [cardsL_at t k V hj]; exact cardOf_right (h1 j hj)
  · rw [cardsL_len] at hj
    rw [cardsL_at t k V hj, cardsL_at t k V (show i < n by omega)]
    exact h2 i j hij hj

/-! shares on a polynomial -/
theorem shpart_ok {Y : Nat → Int} {t k : Nat} {g : Fp → Fp} (hk : 1 ≤ k) (hk2 : k ≤ 20) (ht : t ≤ 20) (hY : ∀ i, i < t → 0 ≤ Y i ∧ Y i < 2147483647) (hg : ∀ i, i < t → ph (Y i) = g (ph ((i : Int) + 1))) {l : List (Int × Int)} (hsub : ∀ x ∈ l, x ∈ shL Y t) (hnd : l.Nodup) : validF l k = 0 ∧ OnP l g := by
  have hmem : ∀ i, i < l.length → ∃ j : Nat, j < t ∧ fx l i = (j : Int) + 1 ∧ fy l i = Y j := by
    intro i hi
    have h1 := hsub _ (fx_mem hi)
    obtain ⟨j, hj, he⟩ := ofF_mem h1
    simp only [Prod.mk.injEq] at he
    exact ⟨j, hj, he.1, he.2⟩
  refine ⟨valid_of hk hk2 (fun x hx => ?_) fun i j hi hj he => ?_, fun i hi => ?_⟩
  · obtain ⟨j, hj, rfl⟩ := ofF_mem (hsub x hx)
    have := hY j hj
    simp [shOk, inF]; omega
  · obtain ⟨a, _, a1, a2⟩ := hmem i hi
    obtain ⟨b, _, b1, b2⟩ := hmem j hj
    have hab : a = b := by omega
    subst hab
    have e : l[i] = l[j] := by
      have h1 : l[i] = (fx l i, fy l i) := by simp [fx, fy, List.getD, hi]
      have h2 : l[j] = (fx l j, fy l j) := by simp [fx, fy, List.getD, hj]
      rw [h1, h2, a1, a2, b1, b2]
    have hpw := List.pairwise_iff_getElem.1 hnd
    rcases Nat.lt_trichotomy i j with h1 | h1 | h1
    · exact absurd e (hpw i j hi hj h1)
    · exact h1
    · exact absurd e.symm (hpw j i hj hi h1)
  · obtain ⟨a, ha, a1, a2⟩ := hmem i hi
    rw [a1, a2]; exact hg a ha
theorem shL_nodup (Y : Nat → Int) (t : Nat) : (shL Y t).Nodup := by
  rw [List.Nodup, List.pairwise_iff_getElem]
  intro i j hi hj hij he
  rw [shL_len] at hi hj
  have h1 := ofF_get (f := fun i : Nat => ((i : Int) + 1, Y i)) hi
  have h2 := ofF_get (f := fun i : Nat => ((i : Int) + 1, Y i)) hj
  rw [List.getElem?_eq_getElem (by rw [ofF_len]; exact hi)] at h1
  rw [List.getElem?_eq_getElem (by rw [ofF_len]; exact hj)] at h2
  have h3 : ((i : Int) + 1, Y i) = ((j : Int) + 1, Y j) := by rw [← Option.some.inj h1, ← Option.some.inj h2]; exact he
  simp only [Prod.mk.injEq] at h3
  omega
theorem open_enough {l : List (Int × Int)} {k : Nat} {g : Fp → Fp} {c y : Int} (hv : validF l k = 0) (hl : k ≤ l.length) (hg : IsP k g) (ho : OnP l g) (hy : 0 ≤ y) (hy2 : y < 2147483647) (h0 : g 0 = ph y) (hc : y ≤ c) : openF l k c = (y, 0) := by
  obtain ⟨z, h1, h2, h3, h4⟩ := join_onP hv hl hg ho
  have e : z = y := (ph_eq (inF_ph h3 h4) (inF_ph hy hy2)).1 (h2.trans h0)
  subst e
  unfold openF
  rw [h1, if_neg (by simp), if_neg (by simp only; omega)]
theorem open_few {l : List (Int × Int)} {k : Nat} {c : Int} (hv : validF l k = 0) (hl : l.length < k) : openF l k c = (0, 21) := by
  unfold openF
  rw [join_few hv hl, if_pos (by decide)]

/-! one share that is changed -/
theorem bent_on {B : List (Int × Int)} {n k i : Nat} {d : Int} {g : Fp → Fp} (hg : IsP k g) (hv : validF B k = 0) (hBl : B.length = n) (hBx : ∀ j, j < n → fx B j = (j : Int) + 1) (hBy : ∀ j, j < n → j ≠ i → ph (fy B j) = g (ph ((j : Int) + 1)))
    (hBi : ph (fy B i) = g (ph ((i : Int) + 1)) + ph d) (hk : 1 ≤ k) (hkn : k < n) (hn : n ≤ 20) (hi : i < n) (hd : inF d = true) (hd0 : d ≠ 0) : joinF B k = (0, 23) := by
  have hp := valid_pts hv
  have hag : agreeF B k = false := by
    rcases Bool.eq_false_or_eq_true (agreeF B k) with h | h
    · exfalso
      rw [agreeF_iff] at h
      obtain ⟨q, hq, he⟩ := lagV_isP (fx (B.take k)) (fy (B.take k)) k
      have hpk : Pts (fx (B.take k)) k := (hp.le (m := k) (by omega)).congr fun j hj => fx_take hj
      have hon : ∀ j, j < n → q (ph ((j : Int) + 1)) = ph (fy B j) := fun j hj => by
        by_cases h1 : j < k
        · have := lagV_at (Y := fy (B.take k)) hpk j h1
          rw [he, fx_take h1, fy_take h1, hBx j hj] at this
          exact this
        · have := h j (by omega) (by omega)
          rw [← he, ← hBx j hj, this]
      have hps : Pts (fun j => ((skip i j : Nat) : Int) + 1) k := ⟨fun j hj => by
          have := skip_lt (i := i) (show j + 1 < n by omega)
          show 0 ≤ ((skip i j : Nat) : Int) + 1 ∧ ((skip i j : Nat) : Int) + 1 ≤ 20
          omega, fun a b _ _ e => by
          have e' : ((skip i a : Nat) : Int) + 1 = ((skip i b : Nat) : Int) + 1 := e
          exact skip_inj (i := i) (by omega)⟩
      have heq := uniq hq hg hps.apart (fun j hj => by
        have hl := skip_lt (i := i) (show j + 1 < n by omega)
        rw [hon _ hl, hBy _ hl (skip_ne i j)])
      have h1 := hon i hi
      rw [heq, hBi] at h1
      have h2 : ph d = ph 0 := by rw [ph_zero]; grind
      exact hd0 ((ph_eq hd (by decide)).1 h2)
    · exact h
  unfold joinF
  rw [if_pos hv, if_neg (by omega), Int.toNat_natCast, hag]; rfl

/-! one vote that is another, or is left out -/
theorem sumN_change {f g : Nat → Int} {i : Nat} : ∀ n, i < n → (∀ j, j < n → j ≠ i → f j = g j) → sumN g n = sumN f n - f i + g i
  | 0, h, _ => absurd h (by omega)
  | n + 1, h, hj => by
    rw [sumN, sumN]
    by_cases e : i = n
    · subst e
      have : ∀ m, m ≤ i → sumN g m = sumN f m := fun m => by
        induction m with
        | zero => intro _; rfl
        | succ m ih => intro hm; rw [sumN, sumN, ih (by omega), hj m (by omega) (by omega)]
      rw [this i (by omega)]; omega
    · rw [sumN_change n (by omega) (fun j h1 h2 => hj j (by omega) h2), hj n (by omega) (fun e2 => e e2.symm)]; omega
theorem sumN_skip (f : Nat → Int) (i : Nat) : ∀ n, i ≤ n → sumN (fun j => f (skip i j)) n = sumN f (n + 1) - f i
  | 0, h => by
    have : i = 0 := by omega
    subst this; simp [sumN]
  | n + 1, h => by
    rw [sumN]
    by_cases e : i = n + 1
    · subst e
      have : ∀ m, m ≤ n + 1 → sumN (fun j => f (skip (n + 1) j)) m = sumN f m := fun m => by
        induction m with
        | zero => intro _; rfl
        | succ m ih => intro hm; rw [sumN, sumN, ih (by omega)]; simp [skip, show m < n + 1 by omega]
      rw [this n (by omega), show skip (n + 1) n = n by simp [skip]]
      simp only [sumN]; omega
    · rw [sumN_skip f i n (by omega), show skip i n = n + 1 by unfold skip; rw [if_neg (by omega)]]
      simp only [sumN]; omega
end Go.Proofs.Ytfidjhhpcjmioaa
