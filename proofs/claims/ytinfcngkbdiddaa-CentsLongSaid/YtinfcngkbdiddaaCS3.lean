/- Plain law of CentsLong: memories stay parts of a small whole, so that nothing is ever refused; what all got. No condition. -/
import Derived.Test.YtinfcngkbdiddaaCS2
import Derived.Test.YtinfcngkbdiddaaCL2
namespace Go.Proofs.Ytinfcngkbdiddaa
open Go.RowKit
set_option linter.unusedVariables false
set_option linter.unusedSimpArgs false

/-- a whole number of D-th parts -/
def IsM (D : Int) (q : Rat) : Prop := ∃ z : Int, q * ((D : Int) : Rat) = ((z : Int) : Rat)
theorem IsM.add {D : Int} {p q : Rat} (h : IsM D p) (h' : IsM D q) : IsM D (p + q) := by
  obtain ⟨a, ha⟩ := h
  obtain ⟨b, hb⟩ := h'
  exact ⟨a + b, by rw [Rat.intCast_add, ← ha, ← hb]; grind⟩
theorem IsM.sub {D : Int} {p q : Rat} (h : IsM D p) (h' : IsM D q) : IsM D (p - q) := by
  obtain ⟨a, ha⟩ := h
  obtain ⟨b, hb⟩ := h'
  exact ⟨a - b, by rw [Rat.intCast_sub, ← ha, ← hb]; grind⟩
theorem IsM.int (D a : Int) : IsM D ((a : Int) : Rat) := ⟨a * D, by rw [Rat.intCast_mul]⟩
theorem IsM.mulR {D e : Int} {q : Rat} (h : IsM D q) : IsM (D * e) q := by
  obtain ⟨a, ha⟩ := h
  exact ⟨a * e, by rw [Rat.intCast_mul, Rat.intCast_mul, ← ha]; grind⟩
theorem IsM.mulL {D e : Int} {q : Rat} (h : IsM D q) : IsM (e * D) q := by rw [Int.mul_comm]; exact h.mulR
theorem IsM.den {D : Int} {q : Rat} (h : IsM D q) (hD : 0 < D) : (q.den : Int) ≤ D := by
  obtain ⟨z, hz⟩ := h
  have hD0 : ((D : Int) : Rat) ≠ 0 := fun e => by
    have : ((D : Int) : Rat) = ((0 : Int) : Rat) := e
    have := Rat.intCast_inj.1 this
    omega
  have e : Rat.divInt z D = q := by
    rw [Rat.divInt_eq_div, ← hz]
    grind
  rw [← e]
  exact den_le hD
theorem IsM.div {a D : Int} (hD : 0 < D) : IsM D (Rat.divInt a D) := by
  have hD0 : ((D : Int) : Rat) ≠ 0 := fun e => by
    have : ((D : Int) : Rat) = ((0 : Int) : Rat) := e
    have := Rat.intCast_inj.1 this
    omega
  exact ⟨a, by rw [Rat.divInt_eq_div]; grind⟩
theorem num_den8 {r : Rat} (hr : -8 < r ∧ r < 8) : -(8 * (r.den : Int)) < r.num ∧ r.num < 8 * r.den := by
  have h1 := (Rat.lt_iff _ _).1 hr.1
  have h2 := (Rat.lt_iff _ _).1 hr.2
  have e1 : (-8 : Rat).num = -8 := rfl
  have e2 : (-8 : Rat).den = 1 := rfl
  have e3 : (8 : Rat).num = 8 := rfl
  have e4 : (8 : Rat).den = 1 := rfl
  rw [e1, e2] at h1
  rw [e3, e4] at h2
  omega
theorem addK_small {x y : Rat} {D : Int} (hx : -8 < x ∧ x < 8) (hy : -8 < y ∧ y < 8) (dx : (x.den : Int) ≤ D) (dy : (y.den : Int) ≤ D) (hD : D < pw 5) : addK x y = true := by
  have a1 := num_den8 hx
  have a2 := num_den8 hy
  have p1 := den_pos x
  have p2 := den_pos y
  have h56 : 8 * pw 5 ≤ pw 6 := by
    have : pw 6 = 1048576 * pw 5 := rfl
    have h0 : 0 < pw 5 := by omega
    omega
  have b1 : ((x.num * y.den).natAbs : Int) < pw 11 := pw_mul_lt (j := 6) (k := 5) (by omega) (by omega)
  have b2 : ((y.num * x.den).natAbs : Int) < pw 11 := pw_mul_lt (j := 6) (k := 5) (by omega) (by omega)
  have b3 : (((x.den : Int) * y.den).natAbs : Int) < pw 10 := pw_mul_lt (j := 5) (k := 5) (by omega) (by omega)
  have h12 : 2 * pw 11 ≤ pw 12 := by
    have : pw 12 = 1048576 * pw 11 := rfl
    have h0 : 0 < pw 11 := by omega
    omega
  unfold addK sumK
  rw [fits_lt b1 (by omega), fits_lt b2 (by omega), fits_lt b3 (by omega), fits_lt (z := x.num * y.den + y.num * x.den) (k := 12) (by omega) (by omega)]
  rfl
/-- memories between rounds -/
structure MemS (D : Int) (n : Nat) (M : List Fv) : Prop where
  len : M.length = n
  ok : ∀ x ∈ M, x.ok = true
  rng : ∀ i, i < n → -1 < gq (ratL M) i ∧ gq (ratL M) i < 1
  sum : smQ (gq (ratL M)) n = 0
  prt : ∀ i, i < n → IsM D (gq (ratL M) i)
theorem ratL_gq {M : List Fv} {i : Nat} (h : i < M.length) : (ratL M)[i]? = some (gq (ratL M) i) := by
  have h1 : i < (ratL M).length := by rw [ratL_len]; exact h
  unfold gq
  rw [List.getD_eq_getElem?_getD, List.getElem?_eq_getElem h1]
  rfl
theorem MemS.right {D : Int} {n : Nat} {M : List Fv} (h : MemS D n M) (h1 : 1 ≤ n) (h6 : n ≤ 6) (hD0 : 0 < D) (hD : D < pw 5) : rightM M = true := by
  have hs : ∀ k, k ≤ n → smQ (gq (ratL M)) k ≤ (k : Rat) ∧ -(k : Rat) ≤ smQ (gq (ratL M)) k ∧ IsM D (smQ (gq (ratL M)) k) ∧ sumK1 (ratL M) k = some (smQ (gq (ratL M)) k) := by
    intro k
    induction k with
    | zero =>
      intro _
      refine ⟨by rw [smQ]; decide +kernel, by rw [smQ]; decide +kernel, IsM.int D 0, ?_⟩
      unfold sumK1
      rw [List.take_zero, sumF_nil]
      rfl
    | succ k ih =>
      intro hk
      obtain ⟨i1, i2, i3, i4⟩ := ih (by omega)
      have hr := h.rng k (by omega)
      have hp := h.prt k (by omega)
      have hk6 : (k : Rat) ≤ 6 := by
        have : ((k : Nat) : Rat) ≤ ((6 : Nat) : Rat) := by exact_mod_cast (show k ≤ 6 by omega)
        exact this
      have e : ((k + 1 : Nat) : Rat) = (k : Rat) + 1 := by push_cast; rfl
      have ha : addK (smQ (gq (ratL M)) k) (gq (ratL M) k) = true := addK_small (D := D) ⟨by grind, by grind⟩ ⟨by grind, by grind⟩ (i3.den hD0) (hp.den hD0) hD
      refine ⟨by rw [smQ, e]; grind, by rw [smQ, e]; grind, by rw [smQ]; exact i3.add hp, ?_⟩
      rw [sumK1_step (ratL_gq (by rw [h.len]; omega)), i4, Option.bind_some, if_pos ha, smQ]
  have hall := (hs n (Nat.le_refl _)).2.2.2
  refine rightM_of (by rw [h.len]; omega) h.ok ?_ (fun x hx => ?_)
  · rw [← sumK1_all, ratL_len, h.len, hall, h.sum]
  · obtain ⟨i, hi, rfl⟩ := List.mem_iff_getElem.1 hx
    have := h.rng i (by rw [← h.len]; exact hi)
    rw [gq_ratL (List.getElem?_eq_getElem hi)] at this
    exact this
theorem MemS.zero (n : Nat) : MemS 1 n (zeL n) := by
  refine ⟨by unfold zeL; rw [List.length_replicate], zeL_ok, fun i _ => by rw [zeL_gq]; constructor <;> decide +kernel, ?_, fun i _ => by rw [zeL_gq]; exact IsM.int 1 0⟩
  rw [smQ_congr (g := fun _ => 0) (fun i _ => zeL_gq), smQ_const]
  grind
/-- what shares are parts of -/
def shD (P : List Int) (n : Nat) : Int := if smI (prt P) n = 0 then (n : Int) else smI (prt P) n
theorem smQ_mul (c : Rat) (f : Nat → Rat) : ∀ n : Nat, smQ (fun i => c * f i) n = c * smQ f n
  | 0 => by rw [smQ, smQ]; grind
  | n + 1 => by rw [smQ, smQ, smQ_mul c f n]; grind
section
variable {T : Int} {P : List Int} {n : Nat} (hT : 0 ≤ T ∧ T ≤ 1000000) (hP : ∀ y ∈ P, 0 ≤ y ∧ y ≤ 255) (h1 : 1 ≤ n) (h6 : n ≤ 6)
include hP h1 h6
theorem shD_rng : 1 ≤ shD P n ∧ shD P n ≤ 1530 := by
  have h := smP_rng hP n
  unfold shD
  split <;> omega
include hT
theorem shR_facts (i : Nat) : 0 ≤ shR T P n i ∧ IsM (shD P n) (shR T P n i) ∧ fitsF (shR T P n i) = true := by
  have h := smP_rng hP n
  have hp := prt_rng hP i
  have hTp : 0 ≤ T * prt P i ∧ T * prt P i ≤ 1000000 * 255 := ⟨Int.mul_nonneg hT.1 hp.1, Int.mul_le_mul hT.2 hp.2 hp.1 (by omega)⟩
  unfold shR shD
  by_cases e : smI (prt P) n = 0
  · rw [if_pos e, if_pos e]
    exact ⟨Rat.divInt_nonneg hT.1 (by omega), IsM.div (by omega), divInt_fits (by omega) (fits_i64 (by omega)) (fits_i64 (by omega))⟩
  · rw [if_neg e, if_neg e]
    exact ⟨Rat.divInt_nonneg hTp.1 (by omega), IsM.div (by omega), divInt_fits (by omega) (fits_i64 (by omega)) (fits_i64 (by omega))⟩
omit hT in
theorem shR_sum : smQ (shR T P n) n = (T : Rat) := by
  have h := smP_rng hP n
  by_cases e : smI (prt P) n = 0
  · have e1 : ∀ i, i < n → shR T P n i = Rat.divInt T n := fun i _ => by unfold shR; rw [if_pos e]
    rw [smQ_congr (g := fun _ => Rat.divInt T n) e1, smQ_const, Rat.divInt_eq_div, Rat.intCast_natCast]
    have : ((n : Nat) : Rat) ≠ 0 := by
      intro e
      have : ((n : Nat) : Rat) = ((0 : Nat) : Rat) := e
      have := Rat.natCast_inj.1 this
      omega
    grind
  · have hs0 : ((smI (prt P) n : Int) : Rat) ≠ 0 := fun e' => by
      have : ((smI (prt P) n : Int) : Rat) = ((0 : Int) : Rat) := e'
      exact e (Rat.intCast_inj.1 this)
    have e1 : ∀ i, i < n → shR T P n i = ((T : Rat) / ((smI (prt P) n : Int) : Rat)) * ((prt P i : Int) : Rat) := fun i _ => by
      unfold shR
      rw [if_neg e, Rat.divInt_eq_div, Rat.intCast_mul]
      grind
    rw [smQ_congr (g := fun i => ((T : Rat) / ((smI (prt P) n : Int) : Rat)) * ((prt P i : Int) : Rat)) e1, smQ_mul, smI_cast]
    grind
omit hT hP h1 h6 in
theorem shL_gq {i : Nat} (hi : i < n) : gq (ratL (shL T P n)) i = shR T P n i := by
  have : ratL (shL T P n) = ofF n (shR T P n) := by
    unfold ratL shL ofF
    rw [List.map_map]
    exact List.map_congr_left fun i _ => fvQ_rat _
  rw [this, gq_ofF hi]
theorem shL_check {M : List Fv} (hM : rightM M = true) (hl : M.length = n) : checkC T (shL T P n) M = 0 ∨ checkC T (shL T P n) M = 6 := by
  have hlen : (shL T P n).length = n := ofF_len
  have hok : ∀ x ∈ shL T P n, x.ok = true := fun x hx => by
    obtain ⟨i, hi, rfl⟩ := ofF_mem hx
    exact fvQ_ok (shR_facts hT hP h1 h6 i).2.2
  have hp : ∀ x ∈ shL T P n, 0 ≤ x.rat := fun x hx => by
    obtain ⟨i, hi, rfl⟩ := ofF_mem hx
    rw [fvQ_rat]
    exact (shR_facts hT hP h1 h6 i).1
  unfold checkC
  rw [if_pos ⟨hT.1, by omega, hM, by rw [hlen, hl], List.all_eq_true.2 hok, hp⟩]
  cases hs : sumF 0 ((shL T P n).map Fv.rat) with
  | none => exact Or.inr rfl
  | some q =>
    have h2 := sumF_eq _ _ _ hs
    rw [List.length_map, hlen] at h2
    have h3 : smQ (gq ((shL T P n).map Fv.rat)) n = smQ (shR T P n) n := smQ_congr fun i hi => shL_gq hi
    rw [h3, shR_sum hP h1 h6] at h2
    have h4 : q = (T : Rat) := by rw [h2]; grind
    left
    show (if q = (T : Rat) then (0 : Int) else 1) = 0
    rw [if_pos h4]
theorem shL_split {M : List Fv} (hM : rightM M = true) (hl : M.length = n) : splitE T (shL T P n) M = 0 ∨ splitE T (shL T P n) M = 6 := by
  unfold splitE
  rcases shL_check hT hP h1 h6 hM hl with h | h
  · rw [if_pos h]
    by_cases a : addA (shL T P n) M = true
    · rw [if_pos a]; exact Or.inl rfl
    · rw [if_neg a]; exact Or.inr rfl
  · rw [if_neg (by omega)]
    exact Or.inr h
/-- a round -/
theorem MemS.step {D : Int} {M a : List Fv} {g : List Int} (hMS : MemS D n M) (H : OkC T (shL T P n) M n) (h : SpC T (shL T P n) M n g a) :
    MemS (D * shD P n) n a ∧ ∃ G : Nat → Int, (∀ i, i < n → g[i]? = some (G i)) ∧ (∀ i, i < n → -1 ≤ G i ∧ G i ≤ 1000000000000002) ∧ (∀ i, i < n → ((G i : Int) : Rat) + gq (ratL a) i = shR T P n i + gq (ratL M) i) ∧ smI G n = T := by
  obtain ⟨S, m, g1, g2, g3, g4⟩ := h.has
  have ha : ∀ i, i < n → gq (ratL a) i = aftC (gq (ratL (shL T P n))) (gq (ratL M)) S i := fun i hi => by
    have hx := List.getElem?_eq_getElem (l := a) (show i < a.length by rw [h.lenA]; exact hi)
    rw [gq_ratL hx]
    exact g4 i _ hi hx
  have hsum : ∀ i, i < n → ((gotC (gq (ratL (shL T P n))) (gq (ratL M)) S i : Int) : Rat) + gq (ratL a) i = shR T P n i + gq (ratL M) i := fun i hi => by
    rw [ha i hi, gotC_aft, shL_gq hi]
  refine ⟨⟨h.lenA, h.okA, fun i hi => by rw [ha i hi]; exact aft_rng g1 g2 H.sumS H.sumM hi, ?_, fun i hi => ?_⟩, gotC (gq (ratL (shL T P n))) (gq (ratL M)) S, g3, fun i hi => H.got S hi, hsum, got_sum g1 g2⟩
  · rw [smQ_congr ha]
    exact aft_sum g1 g2 H.sumS H.sumM
  · have e : gq (ratL a) i = shR T P n i + gq (ratL M) i - ((gotC (gq (ratL (shL T P n))) (gq (ratL M)) S i : Int) : Rat) := by
      have := hsum i hi
      grind
    rw [e]
    exact ((shR_facts hT hP h1 h6 i).2.1.mulL.add (hMS.prt i hi).mulR).sub (IsM.int _ _)
end
/-- the whole stays small over 8 rounds -/
def dB : Nat → Int
  | 0 => 1
  | j + 1 => dB j * 1530
theorem dB_pos : ∀ j, 0 < dB j
  | 0 => by decide
  | j + 1 => by have := dB_pos j; rw [dB]; omega
theorem dB_mono {j k : Nat} (h : j ≤ k) : dB j ≤ dB k := by
  induction k with
  | zero =>
    obtain rfl : j = 0 := by omega
    exact Int.le_refl _
  | succ k ih =>
    by_cases e : j = k + 1
    · rw [e]; exact Int.le_refl _
    · have := ih (by omega)
      have hp := dB_pos k
      rw [dB]
      omega
theorem dB_pw {j : Nat} (h : j ≤ 8) : dB j < pw 5 := by
  have h1 := dB_mono h
  have h2 : dB 8 < pw 5 := by decide +kernel
  omega
theorem dB_step {j : Nat} {D d : Int} (h : 0 < D ∧ D ≤ dB j) (hd : 1 ≤ d ∧ d ≤ 1530) : 0 < D * d ∧ D * d ≤ dB (j + 1) :=
  ⟨Int.mul_pos h.1 (by omega), by rw [dB]; exact Int.mul_le_mul h.2 hd.2 (by omega) (by have := dB_pos j; omega)⟩
end Go.Proofs.Ytinfcngkbdiddaa
