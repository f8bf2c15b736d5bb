/- Plain law: what Split returns, by the first error, the sums, and the rests; what the steps of its loops need. No condition. -/
import Derived.Test.YtinfcngkbdiddaaC5
import Derived.Test.YtinfcngkbdiddaaCm
import Derived.Test.YtinfcngkbdiddaaCf
namespace Go.Proofs.Ytinfcngkbdiddaa
open Go.RowKit
set_option linter.unusedVariables false
set_option linter.unusedSimpArgs false

/-- the numbers of a list of fractions -/
def ratL (l : List Fv) : List Rat := l.map Fv.rat
theorem ratL_len (l : List Fv) : (ratL l).length = l.length := by unfold ratL; rw [List.length_map]
theorem gq_ratL {l : List Fv} {i : Nat} {x : Fv} (h : l[i]? = some x) : gq (ratL l) i = x.rat := by
  unfold gq ratL
  rw [List.getD_eq_getElem?_getD, List.getElem?_map, h]
  rfl
/-- whether each index's share and memory can be added -/
def addA (sh me : List Fv) : Bool := (List.range sh.length).all fun i => addK (gq (ratL sh) i) (gq (ratL me) i)
theorem addA_no {sh me : List Fv} {i : Nat} (hi : i < sh.length) (h : addK (gq (ratL sh) i) (gq (ratL me) i) = false) : addA sh me = false := by
  unfold addA
  rw [List.all_eq_false]
  exact ⟨i, List.mem_range.2 hi, by simp [h]⟩
theorem addA_yes {sh me : List Fv} (h : ∀ i, i < sh.length → addK (gq (ratL sh) i) (gq (ratL me) i) = true) : addA sh me = true := by
  unfold addA
  rw [List.all_eq_true]
  intro i hi
  exact h i (List.mem_range.1 hi)
/-- Split's error -/
def splitE (total : Int) (sh me : List Fv) : Int := if checkC total sh me = 0 then (if addA sh me = true then 0 else 6) else checkC total sh me
/-- what Split leaves -/
def SplitC (w : World) (total : Int) (sh me : List Fv) (e : Ending) (w' : World) : Prop :=
  ∃ A n cap got A' n' cap' aft, e = .returned (.tuple #[.slice A n cap, .slice A' n' cap', .int .i64 (splitE total sh me)]) ∧ (RdI w' w'.heap.size A n cap got ∧ RdF w' w'.heap.size A' n' cap' aft) ∧
    (splitE total sh me ≠ 0 → got = [] ∧ aft = []) ∧ (splitE total sh me = 0 → (∀ x ∈ aft, x.ok = true) ∧ SplitP total (ratL sh) (ratL me) got (ratL aft)) ∧ Below w.heap.size w w'
theorem rightM_facts {me : List Fv} (h : rightM me = true) : (1 ≤ me.length ∧ me.length ≤ 60) ∧ (∀ x ∈ me, x.ok = true) ∧ sumF 0 (ratL me) = some 0 ∧ ∀ x ∈ me, -1 < x.rat ∧ x.rat < 1 := by
  unfold rightM at h
  simp only [Bool.and_eq_true, decide_eq_true_iff, List.all_eq_true] at h
  exact ⟨h.1, h.2.1, h.2.2.1, h.2.2.2⟩
theorem smQ_pos {f : Nat → Rat} : ∀ {n : Nat}, (∀ i, i < n → 0 ≤ f i) → 0 ≤ smQ f n
  | 0, _ => Rat.le_refl
  | n + 1, h => by
    have h1 := smQ_pos (fun i hi => h i (by omega)) (n := n)
    have h2 := h n (by omega)
    rw [smQ]
    grind
theorem smQ_one_le {f : Nat → Rat} {i : Nat} : ∀ {n : Nat}, (∀ i, i < n → 0 ≤ f i) → i < n → f i ≤ smQ f n
  | 0, _, hi => absurd hi (Nat.not_lt_zero i)
  | n + 1, h, hi => by
    have h2 := h n (by omega)
    rw [smQ]
    by_cases e : i = n
    · subst e
      have h1 := smQ_pos (fun j hj => h j (by omega)) (n := i)
      grind
    · have h1 := smQ_one_le (fun j hj => h j (by omega)) (show i < n by omega)
      grind
theorem smI_bd {f : Nat → Int} {lo hi : Int} : ∀ {n : Nat}, (∀ i, i < n → lo ≤ f i ∧ f i ≤ hi) → (n : Int) * lo ≤ smI f n ∧ smI f n ≤ (n : Int) * hi
  | 0, _ => by simp [smI]
  | n + 1, h => by
    have h1 := smI_bd (fun i hi => h i (by omega)) (n := n)
    have h2 := h n (by omega)
    have e1 : ((n + 1 : Nat) : Int) * lo = (n : Int) * lo + lo := by push_cast; rw [Int.add_mul, Int.one_mul]
    have e2 : ((n + 1 : Nat) : Int) * hi = (n : Int) * hi + hi := by push_cast; rw [Int.add_mul, Int.one_mul]
    rw [smI, e1, e2]
    omega
/-- what is known of a sum and shares that are not refused -/
structure OkC (total : Int) (sh me : List Fv) (n : Nat) : Prop where
  tot : 0 ≤ total ∧ total ≤ 1000000000000000
  lenS : sh.length = n
  lenM : me.length = n
  size : 1 ≤ n
  okS : ∀ x ∈ sh, x.ok = true
  okM : ∀ x ∈ me, x.ok = true
  posS : ∀ i, i < n → 0 ≤ gq (ratL sh) i
  rngM : ∀ i, i < n → -1 < gq (ratL me) i ∧ gq (ratL me) i < 1
  sumS : smQ (gq (ratL sh)) n = (total : Rat)
  sumM : smQ (gq (ratL me)) n = 0
theorem checkC_zero {total : Int} {sh me : List Fv} (h : checkC total sh me = 0) : OkC total sh me sh.length := by
  unfold checkC at h
  split at h
  · rename_i hc
    obtain ⟨h1, h2, h3, h4, h5, h6⟩ := hc
    obtain ⟨g1, g2, g3, g4⟩ := rightM_facts h3
    cases hs : sumF 0 (sh.map Fv.rat) with
    | none => rw [hs] at h; simp at h
    | some q =>
      rw [hs] at h
      have hq : q = (total : Rat) := by
        by_cases e : q = (total : Rat)
        · exact e
        · simp [e] at h
      have s1 := sumF_eq _ _ _ hs
      have s2 := sumF_eq _ _ _ g3
      rw [List.length_map] at s1
      rw [ratL_len] at s2
      refine ⟨⟨h1, h2⟩, rfl, h4.symm, by omega, fun x hx => List.all_eq_true.1 h5 x hx, g2, fun i hi => ?_, fun i hi => ?_, ?_, ?_⟩
      · rw [gq_ratL (List.getElem?_eq_getElem hi)]
        exact h6 _ (List.getElem_mem hi)
      · rw [gq_ratL (List.getElem?_eq_getElem (show i < me.length by omega))]
        exact g4 _ (List.getElem_mem _)
      · have e : gq (ratL sh) = gq (sh.map Fv.rat) := rfl
        rw [e]
        grind
      · rw [h4]
        grind
  · cases h
section
variable {total : Int} {sh me : List Fv} {n : Nat} (H : OkC total sh me n)
include H
theorem OkC.sh_at {i : Nat} (hi : i < n) : ∃ x, sh[i]? = some x ∧ x.ok = true ∧ x.rat = gq (ratL sh) i := by
  have hl := H.lenS
  have h := List.getElem?_eq_getElem (l := sh) (show i < sh.length by omega)
  exact ⟨_, h, H.okS _ (List.getElem_mem _), (gq_ratL h).symm⟩
theorem OkC.me_at {i : Nat} (hi : i < n) : ∃ x, me[i]? = some x ∧ x.ok = true ∧ x.rat = gq (ratL me) i := by
  have hl := H.lenM
  have h := List.getElem?_eq_getElem (l := me) (show i < me.length by omega)
  exact ⟨_, h, H.okM _ (List.getElem_mem _), (gq_ratL h).symm⟩
theorem OkC.fl {i : Nat} (hi : i < n) : -1 ≤ flC (gq (ratL sh)) (gq (ratL me)) i ∧ flC (gq (ratL sh)) (gq (ratL me)) i ≤ total + 1 := by
  have h1 := H.posS i hi
  have h2 := H.rngM i hi
  have h3 := smQ_one_le H.posS hi
  rw [H.sumS] at h3
  unfold flC
  constructor
  · exact Rat.le_floor_iff.2 (by
      have : ((-1 : Int) : Rat) = -1 := rfl
      rw [this]
      grind)
  · have h4 := Rat.floor_le (gq (ratL sh) i + gq (ratL me) i)
    have h5 : (((gq (ratL sh) i + gq (ratL me) i).floor : Int) : Rat) ≤ ((total + 1 : Int) : Rat) := by
      rw [Rat.intCast_add]
      have : ((1 : Int) : Rat) = 1 := rfl
      rw [this]
      grind
    exact Rat.intCast_le_intCast.1 h5
theorem OkC.wants {i : Nat} (hi : i < n) : -1 < gq (ratL sh) i + gq (ratL me) i := by
  have h1 := H.posS i hi
  have h2 := H.rngM i hi
  grind
theorem OkC.miss : 0 ≤ total - smI (flC (gq (ratL sh)) (gq (ratL me))) n ∧ total - smI (flC (gq (ratL sh)) (gq (ratL me))) n < n := miss_rng H.sumS H.sumM H.size
theorem OkC.part {k : Nat} (hk : k ≤ n) (hn : n ≤ 60) : -1000000000000000000 ≤ total - smI (flC (gq (ratL sh)) (gq (ratL me))) k ∧ total - smI (flC (gq (ratL sh)) (gq (ratL me))) k ≤ 1000000000000000000 := by
  have h1 := smI_bd (f := flC (gq (ratL sh)) (gq (ratL me))) (lo := -1) (hi := total + 1) (n := k) (fun i hi => H.fl (by omega))
  have h2 := H.tot
  have h3 : (k : Int) * (total + 1) ≤ 60 * (total + 1) := Int.mul_le_mul_of_nonneg_right (by omega) (by omega)
  omega
theorem OkC.got {i : Nat} (S : Nat → Bool) (hi : i < n) : -1 ≤ gotC (gq (ratL sh)) (gq (ratL me)) S i ∧ gotC (gq (ratL sh)) (gq (ratL me)) S i ≤ 1000000000000002 := by
  have h1 := H.fl hi
  have h2 := H.tot
  unfold gotC
  split <;> omega
end
theorem intV_std {s : Int} {l : List Int} {z : Int} (h : Std s l z) (hz : -9223372036854775808 ≤ z ∧ z ≤ 9223372036854775807) : intV s l = z ∧ intC s l = true := by
  have h1 := h.right (fits_i64 (by omega))
  have h2 := h.val
  have h3 : intC s l = true := by
    unfold intC
    rw [h1, h2, decide_eq_true hz]
    rfl
  refine ⟨?_, h3⟩
  unfold intV
  rw [if_pos h3, h2]
theorem floorZ_true (x : Rat) : floorZ true x = x.floor := by
  have e : floorZ true x = fq x.num x.den := rfl
  have hd : (0 : Int) < x.den := by have := x.den_nz; omega
  rw [e, Rat.floor_def]
  unfold fq
  rw [if_pos hd]
/-- what the first k have -/
def preI (k : Nat) (f : Nat → Int) : Nat → Int := fun j => if j < k then f j else 0
theorem preI_step (k : Nat) (f : Nat → Int) : putF (preI k f) k (f k) = preI (k + 1) f := by
  funext j
  unfold putF preI
  by_cases h : j = k
  · subst h
    rw [if_pos rfl, if_pos (by omega)]
  · rw [if_neg h]
    by_cases h1 : j < k
    · rw [if_pos h1, if_pos (by omega)]
    · rw [if_neg h1, if_neg (by omega)]
theorem preI_zero (f : Nat → Int) : preI 0 f = fun _ => 0 := by
  funext j
  unfold preI
  rw [if_neg (by omega)]
theorem preI_all {n : Nat} (f : Nat → Int) : intA n (preI n f) = intA n f := intA_congr fun i hi => if_pos hi
/-- one more has its cent -/
theorem inF_step (d : Nat → Nat) (t : Nat) : inF d (t + 1) = fun x => inF d t x || decide (x = d t) := by
  funext x
  unfold inF
  rw [List.range_succ, List.any_append]
  simp only [List.any_cons, List.any_nil, Bool.or_false]
  congr 1
  by_cases e : x = d t
  · subst e; simp
  · have e' : ¬ d t = x := fun h => e h.symm
    simp [e, e']
theorem inF_no {n : Nat} {r : Nat → Rat} {d : Nat → Nat} (h : Ord n r d) {t : Nat} (ht : t < n) : inF d t (d t) = false := by
  cases e : inF d t (d t) with
  | false => rfl
  | true =>
    obtain ⟨k, h1, h2⟩ := inF_iff.1 e
    have := h.2.1 k t (by omega) (by omega) h2
    omega
section
variable {n t : Nat} {r : Nat → Rat} {d : Nat → Nat} {sh me : Nat → Rat}
theorem got_step (h : Ord n r d) (ht : t < n) : putF (gotC sh me (inF d t)) (d t) (gotC sh me (inF d t) (d t) + 1) = gotC sh me (inF d (t + 1)) := by
  funext j
  unfold putF
  by_cases e : j = d t
  · subst e
    rw [if_pos rfl]
    unfold gotC
    rw [inF_step, inF_no h ht]
    simp
  · rw [if_neg e]
    unfold gotC
    rw [inF_step]
    simp [e]
theorem got_first (d : Nat → Nat) : gotC sh me (inF d 0) = flC sh me := by
  funext j
  unfold gotC inF
  simp
theorem aft_first (d : Nat → Nat) (j : Nat) : aftC sh me (inF d 0) j = rsC sh me j := by
  have e : inF d 0 j = false := rfl
  unfold aftC ind
  rw [e]
  simp
  grind
theorem aft_at (h : Ord n r d) (ht : t < n) : aftC sh me (inF d t) (d t) = rsC sh me (d t) := by
  unfold aftC ind
  rw [inF_no h ht]
  simp
  grind
theorem aft_step (h : Ord n r d) (ht : t < n) (j : Nat) : aftC sh me (inF d (t + 1)) j = if j = d t then rsC sh me (d t) - 1 else aftC sh me (inF d t) j := by
  by_cases e : j = d t
  · subst e
    rw [if_pos rfl]
    unfold aftC ind
    rw [inF_step]
    simp
  · rw [if_neg e]
    unfold aftC ind
    rw [inF_step]
    simp [e]
end
theorem got_ofF {n : Nat} {sh me : List Rat} {S : Nat → Bool} : ofF n (gotC (gq sh) (gq me) S) = (List.range n).map (gotC (gq sh) (gq me) S) := rfl
theorem aft_ofF {n : Nat} {sh me : List Rat} {S : Nat → Bool} {v : Nat → Rw} (h : ∀ j, j < n → (v j).fv.rat = aftC (gq sh) (gq me) S j) : ratL (ofF n fun i => (v i).fv) = (List.range n).map (aftC (gq sh) (gq me) S) := by
  unfold ratL ofF
  rw [List.map_map]
  exact List.map_congr_left fun i hi => h i (List.mem_range.1 hi)
theorem aft_ok {n : Nat} {v : Nat → Rw} (h : ∀ j, j < n → (v j).fv.ok = true) : ∀ x ∈ ofF n (fun i => (v i).fv), x.ok = true := by
  intro x hx
  obtain ⟨i, hi, rfl⟩ := ofF_mem hx
  exact h i hi
end Go.Proofs.Ytinfcngkbdiddaa
