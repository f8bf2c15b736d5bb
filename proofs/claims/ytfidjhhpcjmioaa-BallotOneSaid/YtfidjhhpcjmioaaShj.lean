/- Plain law of layer 7: joining and fitting of shares that lie on one polynomial. -/
import Derived.Test.YtfidjhhpcjmioaaShl
namespace Go.Proofs.Ytfidjhhpcjmioaa
open Alg

theorem agreeFrom_iff (l : List (Int × Int)) (k : Nat) : ∀ m a, agreeFrom l k a m = true ↔ ∀ i, a ≤ i → i < a + m → lagV (fx (l.take k)) (fy (l.take k)) k (fx l i) = fy l i
  | 0, a => by
    refine ⟨fun _ i h1 h2 => by omega, fun _ => rfl⟩
  | m + 1, a => by
    rw [agreeFrom, Bool.and_eq_true, agreeFrom_iff l k m (a + 1), beq_iff_eq]
    constructor
    · rintro ⟨h1, h2⟩ i hi hi2
      by_cases e : i = a
      · subst e; exact h1
      · exact h2 i (by omega) (by omega)
    · intro h
      exact ⟨h a (Nat.le_refl _) (by omega), fun i hi hi2 => h i (by omega) (by omega)⟩
theorem agreeF_iff (l : List (Int × Int)) (k : Nat) : agreeF l k = true ↔ ∀ i, k ≤ i → i < l.length → lagV (fx (l.take k)) (fy (l.take k)) k (fx l i) = fy l i := by
  unfold agreeF
  rw [agreeFrom_iff]
  exact ⟨fun h i h1 h2 => h i h1 (by omega), fun h i h1 h2 => h i h1 (by omega)⟩

/-- the points lie on a function -/
def OnP (l : List (Int × Int)) (g : Fp → Fp) : Prop := ∀ i, i < l.length → ph (fy l i) = g (ph (fx l i))
def InF (l : List (Int × Int)) : Prop := ∀ i, i < l.length → 0 ≤ fy l i ∧ fy l i < 2147483647
theorem valid_inF {l : List (Int × Int)} {k : Int} (h : validF l k = 0) : InF l := fun i hi => by
  have := (valid_zero h).2.2.1 _ (fx_mem hi)
  simp [shOk, inF] at this
  omega
theorem lag_take {l : List (Int × Int)} {k : Nat} (hk : k ≤ l.length) (hp : Pts (fx l) l.length) {g : Fp → Fp} (hg : IsP k g) (ho : OnP l g) (t : Int) : ph (lagV (fx (l.take k)) (fy (l.take k)) k t) = g (ph t) :=
  lagV_poly ((hp.le hk).congr fun i hi => fx_take hi) hg (fun i hi => by rw [fx_take hi, fy_take hi]; exact ho i (by omega)) t
theorem agree_onP {l : List (Int × Int)} {k : Nat} (hk : k ≤ l.length) (hp : Pts (fx l) l.length) (hf : InF l) {g : Fp → Fp} (hg : IsP k g) (ho : OnP l g) : agreeF l k = true :=
  (agreeF_iff l k).2 fun i _ h2 => ph_inj (lagV_bd _ _ _ _) (hf i h2) (by rw [lag_take hk hp hg ho, ho i h2])
/-- shares on a polynomial join to its value at 0 -/
theorem join_onP {l : List (Int × Int)} {k : Nat} (hv : validF l k = 0) (hk : k ≤ l.length) {g : Fp → Fp} (hg : IsP k g) (ho : OnP l g) : ∃ c, joinF l k = (c, 0) ∧ ph c = g 0 ∧ 0 ≤ c ∧ c < 2147483647 := by
  have hp := valid_pts hv
  refine ⟨lagV (fx (l.take k)) (fy (l.take k)) k 0, ?_, by rw [lag_take hk hp hg ho, ph_zero], lagV_bd _ _ _ _⟩
  unfold joinF
  rw [if_pos hv, if_neg (by omega), Int.toNat_natCast, agree_onP hk hp (valid_inF hv) hg ho]
  rfl
theorem join_few {l : List (Int × Int)} {k : Nat} (hv : validF l k = 0) (hk : l.length < k) : joinF l k = (0, 21) := by
  unfold joinF
  rw [if_pos hv, if_pos (by omega)]
theorem cons_fx (l : List (Int × Int)) (s : Int × Int) (i : Nat) : fx (s :: l) (i + 1) = fx l i := rfl
theorem cons_fy (l : List (Int × Int)) (s : Int × Int) (i : Nat) : fy (s :: l) (i + 1) = fy l i := rfl
/-- enough shares fit just the value at 0 -/
theorem fits_onP {l : List (Int × Int)} {k : Nat} (hv : validF l k = 0) (hk : k ≤ l.length) {g : Fp → Fp} (hg : IsP k g) (ho : OnP l g) (x : Int) (hx : inF x = true) : fitsF l k x = true ↔ ph x = g 0 := by
  have hk1 := (valid_zero hv).1
  have hp := valid_pts hv
  have hpc := valid_cons (secret := x) hv
  have hxb : 0 ≤ x ∧ x < 2147483647 := by simpa [inF] using hx
  have hfc : InF ((0, x) :: l) := fun i hi => by
    cases i with
    | zero => exact hxb
    | succ i => rw [cons_fy]; exact valid_inF hv i (by simpa using hi)
  unfold fitsF
  rw [if_pos hv, hx, Bool.true_and, Int.toNat_natCast]
  constructor
  · intro ha
    rw [agreeF_iff] at ha
    obtain ⟨h, hh, he⟩ := lagV_isP (fx (((0, x) :: l).take k)) (fy (((0, x) :: l).take k)) k
    have hpk : Pts (fx (((0, x) :: l).take k)) k := (hpc.le (m := k) (by omega)).congr fun i hi => fx_take hi
    have hon : ∀ i, i < l.length → h (ph (fx l i)) = ph (fy l i) := by
      intro i hi
      by_cases h1 : i + 1 < k
      · have := lagV_at (Y := fy (((0, x) :: l).take k)) hpk (i + 1) h1
        rw [he, fx_take h1, fy_take h1] at this
        exact this
      · have := ha (i + 1) (by omega) (by simpa using hi)
        rw [← he]; exact congrArg ph this
    have heq := uniq hh hg (hp.le hk).apart (fun i hi => by rw [hon i (by omega), ho i (by omega)]) 0
    have h0 := lagV_at (Y := fy (((0, x) :: l).take k)) hpk 0 (by omega)
    rw [he, fx_take (by omega), fy_take (by omega)] at h0
    have h1 : h 0 = ph x := h0
    rw [← h1, heq]
  · intro hx0
    refine agree_onP (by simp; omega) (by simpa using hpc) hfc hg fun i hi => ?_
    cases i with
    | zero => show ph x = g (ph 0); rw [ph_zero]; exact hx0
    | succ i => rw [cons_fy, cons_fx]; exact ho i (by simpa using hi)
theorem fits_few {l : List (Int × Int)} {k : Nat} (hv : validF l k = 0) (hk : l.length < k) (x : Int) (hx : inF x = true) : fitsF l k x = true := by
  unfold fitsF
  rw [if_pos hv, hx, Bool.true_and, Int.toNat_natCast]
  exact (agreeF_iff _ _).2 fun i h1 h2 => by simp at h2; omega

/-! the shares of a secret -/
theorem splitL_at (secret k s : Int) (n i : Nat) (h : i < n) : fx (splitL secret k s n) i = (i : Int) + 1 ∧ fy (splitL secret k s n) i = hor (coef secret s) ((i : Int) + 1) k.toNat k.toNat := by
  unfold fx fy splitL
  rw [List.getD, List.getElem?_map, List.getElem?_range h]
  exact ⟨rfl, rfl⟩
/-- the polynomial of a secret -/
def secP (secret s : Int) (k : Nat) (t : Fp) : Fp := Sf (coef secret s) t k
theorem secP_isP (secret s : Int) (k : Nat) : IsP k (secP secret s k) := Sf_isP _ k
theorem secP_zero (secret s : Int) (k : Nat) (hk : 0 < k) : secP secret s k 0 = ph secret := by
  obtain ⟨m, rfl⟩ : ∃ m, k = m + 1 := ⟨k - 1, by omega⟩
  rw [secP, Sf_zero]; rfl
theorem splitL_onP (secret s : Int) (k n : Nat) : OnP (splitL secret k s n) (secP secret s k) := fun i hi => by
  rw [splitL_len] at hi
  obtain ⟨h1, h2⟩ := splitL_at secret k s n i hi
  rw [h1, h2, Int.toNat_natCast, ph_hor_all]; rfl
/-- a list without repetition of shares of one list with X from 1 on is valid -/
theorem twiceX_of (l : List (Int × Int)) : ∀ n, n ≤ l.length → (∀ i j, i < n → j < n → fx l i = fx l j → i = j) → twiceX l n = false
  | 0, _, _ => rfl
  | n + 1, hn, h => by
    rw [twiceX, twiceX_of l n (by omega) fun i j hi hj => h i j (by omega) (by omega), Bool.false_or, decide_eq_false_iff_not]
    have hmem : ∀ m x, x ∈ seenX l m → ∃ i, i < m ∧ fx l i = x := by
      intro m x
      induction m with
      | zero => simp [seenX]
      | succ m ih =>
        rw [seenX, List.mem_cons]
        rintro (rfl | h2)
        · exact ⟨m, by omega, rfl⟩
        · obtain ⟨i, hi, he⟩ := ih h2
          exact ⟨i, by omega, he⟩
    intro hm
    obtain ⟨i, hi, he⟩ := hmem n _ hm
    have := h i n (by omega) (by omega) he
    omega
theorem valid_of {l : List (Int × Int)} {k : Nat} (hk : 1 ≤ k) (hk2 : k ≤ 20) (hok : ∀ s ∈ l, shOk s = true) (hd : ∀ i j, i < l.length → j < l.length → fx l i = fx l j → i = j) : validF l k = 0 := by
  unfold validF sharesF
  rw [if_neg (by omega), List.all_eq_true.2 hok, twiceX_of l l.length (Nat.le_refl _) hd]
  rfl
theorem splitL_ok (secret s : Int) (k n : Nat) (hn : n ≤ 20) : ∀ x ∈ splitL secret k s n, shOk x = true := by
  intro x hx
  obtain ⟨i, hi, rfl⟩ := List.mem_map.1 hx
  have hi := List.mem_range.1 hi
  have := hor_bd (coef secret s) ((i : Int) + 1) k k
  simp only [Int.toNat_natCast]
  simp [shOk, inF]
  omega
/-- parts of the shares of a secret without repetition -/
theorem part_ok {secret s : Int} {k n : Nat} (hk : 1 ≤ k) (hk2 : k ≤ 20) (hn : n ≤ 20) {l : List (Int × Int)} (hsub : ∀ x ∈ l, x ∈ splitL secret k s n) (hnd : l.Nodup) : validF l k = 0 ∧ OnP l (secP secret s k) := by
  have hmem : ∀ i, i < l.length → ∃ j : Nat, j < n ∧ fx l i = (j : Int) + 1 ∧ fy l i = hor (coef secret s) ((j : Int) + 1) k k := by
    intro i hi
    have h1 := hsub _ (fx_mem hi)
    obtain ⟨j, hj, he⟩ := List.mem_map.1 h1
    simp only [Prod.mk.injEq, Int.toNat_natCast] at he
    exact ⟨j, List.mem_range.1 hj, he.1.symm, he.2.symm⟩
  refine ⟨valid_of hk hk2 (fun x hx => splitL_ok secret s k n hn x (hsub x hx)) fun i j hi hj he => ?_, fun i hi => ?_⟩
  · obtain ⟨a, _, a1, a2⟩ := hmem i hi
    obtain ⟨b, _, b1, b2⟩ := hmem j hj
    have hab : a = b := by omega
    subst hab
    have e : l[i] = l[j] := by
      have h1 : l[i] = (fx l i, fy l i) := by simp [fx, fy, List.getD, hi]
      have h2 : l[j] = (fx l j, fy l j) := by simp [fx, fy, List.getD, hj]
      rw [h1, h2, a1, a2, b1, b2]
    have hpw := List.pairwise_iff_getElem.1 hnd
    rcases Nat.lt_trichotomy i j with h1 | h1 | h1
    · exact absurd e (hpw i j hi hj h1)
    · exact h1
    · exact absurd e.symm (hpw j i hj hi h1)
  · obtain ⟨a, _, a1, a2⟩ := hmem i hi
    rw [a1, a2, ph_hor_all]; rfl
theorem ph_eq {a b : Int} (ha : inF a = true) (hb : inF b = true) : ph a = ph b ↔ a = b :=
  ⟨fun h => ph_inj (by simpa [inF] using ha) (by simpa [inF] using hb) h, fun h => by rw [h]⟩
theorem inF_mod (a : Int) : inF (a % 2147483647) = true := by
  have := mod_bd a
  simp [inF]; omega
theorem inF_ph {c : Int} (h1 : 0 ≤ c) (h2 : c < 2147483647) : inF c = true := by simp [inF]; omega
/-- shares of a secret join to it, and fit it alone, if they are enough -/
theorem part_join {secret s : Int} {k n : Nat} (hk : 1 ≤ k) (hk2 : k ≤ 20) (hn : n ≤ 20) (hs : inF secret = true) {l : List (Int × Int)} (hsub : ∀ x ∈ l, x ∈ splitL secret k s n) (hnd : l.Nodup) (hl : k ≤ l.length) :
    joinF l k = (secret, 0) ∧ ∀ x, inF x = true → fitsF l k x = (x == secret) := by
  obtain ⟨hv, ho⟩ := part_ok hk hk2 hn hsub hnd
  have hz := secP_zero secret s k hk
  constructor
  · obtain ⟨c, hj, hc, c1, c2⟩ := join_onP hv hl (secP_isP secret s k) ho
    rw [hj, (ph_eq (inF_ph c1 c2) hs).1 (hc.trans hz)]
  · intro x hx
    rw [Bool.eq_iff_iff, fits_onP hv hl (secP_isP secret s k) ho x hx, hz, ph_eq hx hs, beq_iff_eq]
theorem part_few {secret s : Int} {k n : Nat} (hk : 1 ≤ k) (hk2 : k ≤ 20) (hn : n ≤ 20) {l : List (Int × Int)} (hsub : ∀ x ∈ l, x ∈ splitL secret k s n) (hnd : l.Nodup) (hl : l.length < k) :
    joinF l k = (0, 21) ∧ ∀ x, inF x = true → fitsF l k x = true := by
  obtain ⟨hv, ho⟩ := part_ok hk hk2 hn hsub hnd
  exact ⟨join_few hv hl, fun x hx => fits_few hv hl x hx⟩
end Go.Proofs.Ytfidjhhpcjmioaa
