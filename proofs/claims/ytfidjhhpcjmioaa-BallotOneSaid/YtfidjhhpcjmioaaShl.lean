/- Plain law of layer 7: what the program's functions return is what the reference's functions return, at shares that are valid; the shares of a secret lie on one polynomial. -/
import Derived.Test.YtfidjhhpcjmioaaShm
import Derived.Test.YtfidjhhpcjmioaaR5
namespace Go.Proofs.Ytfidjhhpcjmioaa
open Alg

theorem twiceX_false {l : List (Int × Int)} : ∀ {n : Nat}, twiceX l n = false → ∀ i j, i < n → j < n → fx l i = fx l j → i = j := by
  have hmem : ∀ m x, x ∈ seenX l m ↔ ∃ i, i < m ∧ fx l i = x := by
    intro m x
    induction m with
    | zero => simp [seenX]
    | succ m ih =>
      rw [seenX, List.mem_cons, ih]
      constructor
      · rintro (rfl | ⟨i, hi, rfl⟩)
        · exact ⟨m, by omega, rfl⟩
        · exact ⟨i, by omega, rfl⟩
      · rintro ⟨i, hi, rfl⟩
        by_cases e : i = m
        · subst e; exact .inl rfl
        · exact .inr ⟨i, by omega, rfl⟩
  have key : ∀ n, twiceX l n = false → ∀ i j, i < j → j < n → fx l i ≠ fx l j := by
    intro n
    induction n with
    | zero => intro _ i j _ h; omega
    | succ n ih =>
      intro h i j hij hj
      simp only [twiceX, Bool.or_eq_false_iff, decide_eq_false_iff_not] at h
      by_cases e : j = n
      · subst e
        intro he
        exact h.2 ((hmem j _).2 ⟨i, hij, he⟩)
      · exact ih h.1 i j hij (by omega)
  intro n h i j hi hj he
  rcases Nat.lt_trichotomy i j with h1 | h1 | h1
  · exact absurd he (key n h i j h1 hj)
  · exact h1
  · exact absurd he.symm (key n h j i h1 hi)
theorem fx_mem {l : List (Int × Int)} {i : Nat} (h : i < l.length) : (fx l i, fy l i) ∈ l := by
  have e : (fx l i, fy l i) = l[i] := by simp [fx, fy, List.getD, h]
  rw [e]; exact List.getElem_mem h
theorem valid_pts {l : List (Int × Int)} {k : Int} (h : validF l k = 0) : Pts (fx l) l.length := by
  obtain ⟨_, _, hok, ht⟩ := valid_zero h
  refine ⟨fun i hi => ?_, twiceX_false ht⟩
  have := hok _ (fx_mem hi)
  simp [shOk] at this
  omega
theorem Pts.le {X : Nat → Int} {n m : Nat} (h : Pts X n) (hm : m ≤ n) : Pts X m := ⟨fun i hi => h.1 i (by omega), fun i j hi hj => h.2 i j (by omega) (by omega)⟩
theorem Pts.congr {X X' : Nat → Int} {n : Nat} (h : Pts X n) (he : ∀ i, i < n → X' i = X i) : Pts X' n :=
  ⟨fun i hi => by rw [he i hi]; exact h.1 i hi, fun i j hi hj e => h.2 i j hi hj (by rw [← he i hi, ← he j hj]; exact e)⟩
theorem fx_take {l : List (Int × Int)} {k i : Nat} (h : i < k) : fx (l.take k) i = fx l i := by
  simp only [fx, List.getD, List.getElem?_take, h, if_true]
theorem fy_take {l : List (Int × Int)} {k i : Nat} (h : i < k) : fy (l.take k) i = fy l i := by
  simp only [fy, List.getD, List.getElem?_take, h, if_true]
theorem valid_cons {l : List (Int × Int)} {k secret : Int} (h : validF l k = 0) : Pts (fx ((0, secret) :: l)) (l.length + 1) := by
  obtain ⟨_, _, hok, ht⟩ := valid_zero h
  have hp := valid_pts h
  have h0 : fx ((0, secret) :: l) 0 = 0 := rfl
  have hs : ∀ i, fx ((0, secret) :: l) (i + 1) = fx l i := fun _ => rfl
  have h1 : ∀ i, i < l.length → 1 ≤ fx l i := fun i hi => by
    have := hok _ (fx_mem hi)
    simp [shOk] at this
    omega
  refine ⟨fun i hi => ?_, fun i j hi hj e => ?_⟩
  · cases i with
    | zero => rw [h0]; omega
    | succ i => rw [hs]; exact hp.1 i (by omega)
  · cases i with
    | zero =>
      cases j with
      | zero => rfl
      | succ j => rw [h0, hs] at e; have := h1 j (by omega); omega
    | succ i =>
      cases j with
      | zero => rw [h0, hs] at e; have := h1 i (by omega); omega
      | succ j => rw [hs, hs] at e; rw [hp.2 i j (by omega) (by omega) e]
theorem newtV_lagV {l : List (Int × Int)} {k : Nat} (hk : 0 < k) (h : Pts (fx l) k) (t : Int) : newtV l k t = lagV (fx l) (fy l) k t :=
  nwt_lagV hk (fun i hi => fi_eq (ofF_get hi)) h t
theorem onFrom_agree {l : List (Int × Int)} {k : Nat} (hk : 0 < k) (h : Pts (fx (l.take k)) k) : ∀ m a, onFrom l k a m = agreeFrom l k a m
  | 0, _ => rfl
  | m + 1, a => by rw [onFrom, agreeFrom, onFrom_agree hk h m, newtV_lagV hk h]
theorem rjoin_join (l : List (Int × Int)) (k : Int) : rjoinF l k = joinF l k := by
  unfold rjoinF joinF
  by_cases hv : validF l k = 0
  · rw [if_pos hv, if_pos hv]
    by_cases hl : (l.length : Int) < k
    · rw [if_pos hl, if_pos hl]
    · rw [if_neg hl, if_neg hl]
      have h1 := valid_zero hv
      have hp : Pts (fx (l.take k.toNat)) k.toNat := ((valid_pts hv).le (m := k.toNat) (by omega)).congr fun i hi => fx_take hi
      rw [onFrom_agree (by omega) hp, newtV_lagV (by omega) hp]
      rfl
  · rw [if_neg hv, if_neg hv]
theorem rfits_fits (l : List (Int × Int)) (k secret : Int) : rfitsF l k secret = fitsF l k secret := by
  unfold rfitsF fitsF
  by_cases hv : validF l k = 0
  · rw [if_pos hv, if_pos hv]
    congr 1
    have h1 := valid_zero hv
    unfold agreeF
    rw [List.length_cons]
    by_cases hl : k.toNat ≤ l.length + 1
    · exact onFrom_agree (by omega) (((valid_cons (secret := secret) hv).le (m := k.toNat) hl).congr fun i hi => fx_take hi) _ _
    · rw [show l.length + 1 - k.toNat = 0 by omega]; rfl
  · rw [if_neg hv, if_neg hv]

/-! The polynomial of a secret -/
def pwr (t : Fp) : Nat → Fp
  | 0 => 1
  | c + 1 => pwr t c * t
/-- the sum of the first m summands -/
def Sf (c : Nat → Int) (t : Fp) : Nat → Fp
  | 0 => 0
  | m + 1 => Sf c t m + ph (c m) * pwr t m
theorem pwr_isP : ∀ m, IsP (m + 1) (fun t => pwr t m)
  | 0 => (IsP.const (1 : Fp)).congr fun _ => rfl
  | m + 1 => (pwr_isP m).mulX.congr fun t => by simp only [pwr]; grind
theorem Sf_isP (c : Nat → Int) : ∀ m, IsP m (fun t => Sf c t m)
  | 0 => fun _ => rfl
  | m + 1 => ((Sf_isP c m).up.add ((pwr_isP m).smul (ph (c m)))).congr fun _ => rfl
theorem Sf_zero (c : Nat → Int) : ∀ m, Sf c 0 (m + 1) = ph (c 0)
  | 0 => by simp only [Sf, pwr]; grind
  | m + 1 => by
    have h := Sf_zero c m
    rw [Sf, h, pwr]; grind
theorem ph_rpw (i : Nat) : ∀ c, ph (rpw i c) = pwr (ph ((i : Int) + 1)) c
  | 0 => ph_one
  | c + 1 => by rw [rpw, pwr, ph_mod, ph_mul, ph_rpw i c]
theorem ph_rY (secret s : Int) (i : Nat) : ∀ c, ph (rY secret s i c) = Sf (coef secret s) (ph ((i : Int) + 1)) (c + 1)
  | 0 => by simp only [rY, Sf, pwr, coef, if_true]; grind
  | c + 1 => by
    have e : ph (coef secret s (c + 1)) = ph (rnd s (c + 1)) := by rw [coef, if_neg (by omega), ph_mod]
    rw [rY, ph_mod, ph_add, ph_mul, ph_rY secret s i c, ph_rpw, ph_mod, ← e]
    rfl
theorem ph_hor (c : Nat → Int) (t : Int) (k : Nat) : ∀ m, m ≤ k → pwr (ph t) (k - m) * ph (hor c t k m) + Sf c (ph t) (k - m) = Sf c (ph t) k
  | 0, _ => by rw [hor, ph_zero, Nat.sub_zero]; grind
  | m + 1, h => by
    have ih := ph_hor c t k m (by omega)
    obtain ⟨j, hj⟩ : ∃ j, k - m = j + 1 := ⟨k - m - 1, by omega⟩
    rw [hj, pwr, Sf] at ih
    rw [hor, ph_mod, ph_add, ph_mul, show k - (m + 1) = j by omega, show k - 1 - m = j by omega]
    rw [← ih]; grind
theorem ph_hor_all (c : Nat → Int) (t : Int) (k : Nat) : ph (hor c t k k) = Sf c (ph t) k := by
  have h := ph_hor c t k k (Nat.le_refl _)
  rw [Nat.sub_self, pwr, Sf] at h
  rw [← h]; grind
theorem rsplit_split (secret s : Int) (k n : Nat) (hk : 0 < k) (hs : inF secret = true) : rsplitL secret s k n = splitL secret k s n := by
  have hsec : 0 ≤ secret ∧ secret < 2147483647 := by simpa [inF] using hs
  unfold rsplitL splitL ofF
  refine List.map_congr_left fun i _ => ?_
  rw [Int.toNat_natCast]
  congr 1
  refine ph_inj (rY_bd _ _ _ _ hsec) (hor_bd _ _ _ _) ?_
  rw [ph_rY, ph_hor_all, show k - 1 + 1 = k by omega]

/-! The same by a fast power, to be reckoned out -/
def lagC (X Y : Nat → Int) (n : Nat) (t : Int) : Int := sumN (fun i => Y i * prodE (fun k => t - X k) i n * (fpow 31 (prodE (fun k => X i - X k) i n) 2147483645 1 % 2147483647)) n % 2147483647
theorem lagV_C (X Y : Nat → Int) (n : Nat) (t : Int) : lagV X Y n t = lagC X Y n t := by
  unfold lagV lagC
  congr 2
  funext i
  unfold lagT
  congr 1
  unfold pw
  rw [fpow_eq 31 _ 2147483645 1 (by decide), Int.one_mul]
  rfl
def agreeC (l : List (Int × Int)) (k : Nat) : Nat → Nat → Bool
  | _, 0 => true
  | a, m + 1 => (lagC (fx (l.take k)) (fy (l.take k)) k (fx l a) == fy l a) && agreeC l k (a + 1) m
theorem agree_C (l : List (Int × Int)) (k : Nat) : ∀ m a, agreeFrom l k a m = agreeC l k a m
  | 0, _ => rfl
  | m + 1, a => by rw [agreeFrom, agreeC, agree_C l k m, lagV_C]
def joinC (l : List (Int × Int)) (k : Int) : Int × Int :=
  if validF l k = 0 then (if (l.length : Int) < k then (0, 21) else if agreeC l k.toNat k.toNat (l.length - k.toNat) then (lagC (fx (l.take k.toNat)) (fy (l.take k.toNat)) k.toNat 0, 0) else (0, 23)) else (0, validF l k)
theorem join_C (l : List (Int × Int)) (k : Int) : joinF l k = joinC l k := by
  unfold joinF joinC agreeF
  rw [agree_C, lagV_C]
def fitsC (l : List (Int × Int)) (k secret : Int) : Bool := if validF l k = 0 then inF secret && agreeC ((0, secret) :: l) k.toNat k.toNat (l.length + 1 - k.toNat) else false
theorem fits_C (l : List (Int × Int)) (k secret : Int) : fitsF l k secret = fitsC l k secret := by
  unfold fitsF fitsC agreeF
  rw [agree_C, List.length_cons]
theorem small1 : joinF [(1, 7), (2, 9)] 2 = (5, 0) := by rw [join_C]; decide +kernel
theorem small2 : joinF ([(1, 7), (2, 9)] ++ [(3, 11)]) 2 = (5, 0) := by rw [join_C]; decide +kernel
theorem small3 : joinF ([(1, 7), (2, 9)] ++ [(3, 12)]) 2 = (0, 23) := by rw [join_C]; decide +kernel
theorem small4 : joinF [(1, 7)] 2 = (0, 21) := by rw [join_C]; decide +kernel
theorem small5 : joinF [(1, 7), (1, 7)] 2 = (0, 5) := by rw [join_C]; decide +kernel
theorem small6 : splitL 5 1 9 3 = [(1, 5), (2, 5), (3, 5)] := by decide +kernel
theorem small7 : fitsF [(1, 7)] 2 5 = true := by rw [fits_C]; decide +kernel
theorem small8 : fitsF [(1, 7)] 2 6 = true := by rw [fits_C]; decide +kernel
theorem small9 : fitsF [(1, 7), (2, 9)] 2 5 = true := by rw [fits_C]; decide +kernel
theorem small10 : fitsF [(1, 7), (2, 9)] 2 6 = false := by rw [fits_C]; decide +kernel
end Go.Proofs.Ytfidjhhpcjmioaa
