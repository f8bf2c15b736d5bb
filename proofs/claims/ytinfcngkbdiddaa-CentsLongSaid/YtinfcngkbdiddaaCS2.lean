/- Plain law of CentsWhole: whole shares are never refused, and nobody is far away from its share. No condition. -/
import Derived.Test.YtinfcngkbdiddaaCS1
import Derived.Test.YtinfcngkbdiddaaC5
namespace Go.Proofs.Ytinfcngkbdiddaa
open Go.RowKit
set_option linter.unusedVariables false
set_option linter.unusedSimpArgs false

theorem addK_ints {a b : Int} (ha : a.natAbs ≤ 1000000000000000000) (hb : b.natAbs ≤ 1000000000000000000) : addK ((a : Int) : Rat) ((b : Int) : Rat) = true := by
  unfold addK sumK
  rw [Rat.num_intCast, Rat.num_intCast, Rat.den_intCast, Rat.den_intCast]
  have e1 : a * ((1 : Nat) : Int) = a := by omega
  have e2 : b * ((1 : Nat) : Int) = b := by omega
  rw [e1, e2, fits_i64 (z := a) (by omega), fits_i64 (z := b) (by omega), fits_i64 (z := a + b) (by omega), fits_i64 (z := ((1 : Nat) : Int) * ((1 : Nat) : Int)) (by decide)]
  rfl
theorem fitsF_int {a : Int} (ha : a.natAbs ≤ 9223372036854775808) : fitsF ((a : Int) : Rat) = true := by
  rw [← divInt_1]; exact divInt_fits (by omega) (fits_i64 (by omega)) (fits_i64 (by decide))
/-- whole shares -/
def shW (n : Nat) (N : Nat → Int) : List Fv := ofF n fun i => fvQ ((N i : Int) : Rat)
theorem shW_len {n : Nat} {N : Nat → Int} : (shW n N).length = n := ofF_len
theorem shW_rat {n : Nat} {N : Nat → Int} : ratL (shW n N) = ofF n fun i => ((N i : Int) : Rat) := by
  unfold ratL shW ofF
  rw [List.map_map]
  exact List.map_congr_left fun i _ => fvQ_rat _
theorem gq_ofF {n i : Nat} {f : Nat → Rat} (h : i < n) : gq (ofF n f) i = f i := by
  unfold gq
  rw [List.getD_eq_getElem?_getD, ofF_get h]
  rfl
theorem shW_gq {n i : Nat} {N : Nat → Int} (h : i < n) : gq (ratL (shW n N)) i = ((N i : Int) : Rat) := by rw [shW_rat, gq_ofF h]
theorem smI_rng {N : Nat → Int} {n : Nat} (hN : ∀ i, i < n → 0 ≤ N i ∧ N i ≤ 1000000000) (hn : n ≤ 12) : ∀ k, k ≤ n → 0 ≤ smI N k ∧ smI N k ≤ 12000000000 := fun k hk => by
  have h1 := smI_bd (f := N) (lo := 0) (hi := 1000000000) (n := k) (fun i hi => hN i (by omega))
  omega
section
variable {n : Nat} {N : Nat → Int} (hN : ∀ i, i < n → 0 ≤ N i ∧ N i ≤ 1000000000) (hn1 : 1 ≤ n) (hn : n ≤ 12)
include hN hn
theorem shW_sum : sumF 0 (ratL (shW n N)) = some ((smI N n : Int) : Rat) := by
  have key : ∀ k, k ≤ n → sumK1 (ratL (shW n N)) k = some ((smI N k : Int) : Rat) := by
    intro k
    induction k with
    | zero => intro _; unfold sumK1; rw [List.take_zero, sumF_nil]; rfl
    | succ k ih =>
      intro hk
      have h1 := ih (by omega)
      have h2 : (ratL (shW n N))[k]? = some ((N k : Int) : Rat) := by rw [shW_rat, ofF_get (by omega)]
      have h3 := smI_rng hN hn k (by omega)
      have h4 := hN k (by omega)
      rw [sumK1_step h2, h1, Option.bind_some, if_pos (addK_ints (by omega) (by omega)), smI, Rat.intCast_add]
  have h := key n (Nat.le_refl _)
  rw [← sumK1_all, ratL_len, shW_len]
  exact h
omit hn in
theorem shW_ok : ∀ x ∈ shW n N, x.ok = true := fun x hx => by
  obtain ⟨i, hi, rfl⟩ := ofF_mem hx
  have := hN i hi
  exact fvQ_ok (fitsF_int (by omega))
theorem shW_check {M : List Fv} (hM : rightM M = true) (hl : M.length = n) : checkC (smI N n) (shW n N) M = 0 := by
  have h1 := smI_rng hN hn n (Nat.le_refl _)
  unfold checkC
  have hp : ∀ x ∈ shW n N, 0 ≤ x.rat := fun x hx => by
    obtain ⟨i, hi, rfl⟩ := ofF_mem hx
    rw [fvQ_rat]
    have : ((0 : Int) : Rat) ≤ ((N i : Int) : Rat) := Rat.intCast_le_intCast.2 (hN i hi).1
    exact this
  have h2 := shW_sum hN hn
  have e : (shW n N).map Fv.rat = ratL (shW n N) := rfl
  rw [if_pos ⟨h1.1, by omega, hM, by rw [shW_len, hl], List.all_eq_true.2 (shW_ok hN), hp⟩, e, h2]
  simp
theorem shW_split {M : List Fv} (hM : rightM M = true) (hl : M.length = n) (hf : fewL M = true) : splitE (smI N n) (shW n N) M = 0 := by
  have h0 := shW_check hN hn hM hl
  unfold splitE
  rw [if_pos h0]
  refine if_pos ?_
  refine addA_yes fun i hi => ?_
  rw [shW_len] at hi
  have h1 := List.getElem?_eq_getElem (l := M) (show i < M.length by omega)
  have hx := List.getElem_mem (l := M) (show i < M.length by omega)
  obtain ⟨-, ho, -, hr⟩ := rightM_facts hM
  have h2 := few_den (ho _ hx) ((of_decide_eq_true hf).2 _ hx).2
  have h3 := hN i hi
  rw [shW_gq hi, gq_ratL h1]
  refine addK_whole (fv_std (ho _ hx)).2 ?_ ?_ (hr _ hx)
  · have : pw 3 = 1152921504606846976 := by simp [pw]
    omega
  · have := pw_le (show 4 ≤ 8 by omega)
    omega
end
/-- memories of 0 -/
def zeL (n : Nat) : List Fv := List.replicate n (fvQ 0)
theorem zeL_rat {n : Nat} : ratL (zeL n) = List.replicate n 0 := by
  unfold ratL zeL
  rw [List.map_replicate, fvQ_rat]
theorem zeL_gq {n i : Nat} : gq (ratL (zeL n)) i = 0 := by
  rw [zeL_rat]
  unfold gq
  rw [List.getD_eq_getElem?_getD, List.getElem?_replicate]
  split <;> rfl
theorem zeL_ok {n : Nat} : ∀ x ∈ zeL n, x.ok = true := fun x hx => by
  rw [List.eq_of_mem_replicate hx]
  exact fvQ_ok (by decide +kernel)
theorem zeL_right {n : Nat} (h1 : 1 ≤ n) (h2 : n ≤ 12) : rightM (zeL n) = true := by
  refine rightM_of (by unfold zeL; rw [List.length_replicate]; omega) zeL_ok ?_ (fun x hx => ?_)
  · rw [zeL_rat]
    clear h1 h2
    induction n with
    | zero => rfl
    | succ k ih =>
      rw [List.replicate_succ, sumF_cons, if_pos (by decide +kernel)]
      have : (0 : Rat) + 0 = 0 := by grind
      rw [this]
      exact ih
  · rw [List.eq_of_mem_replicate hx, fvQ_rat]
    constructor <;> decide +kernel
theorem zeL_few {n : Nat} (h : n ≤ 12) : fewL (zeL n) = true := by
  refine decide_eq_true ⟨by unfold zeL; rw [List.length_replicate]; exact h, fun x hx => ?_⟩
  rw [List.eq_of_mem_replicate hx]
  constructor <;> decide +kernel
theorem shW_zero {n : Nat} {N : Nat → Int} : SplitP (smI N n) (ratL (shW n N)) (ratL (zeL n)) (ofF n N) (ratL (zeL n)) := by
  have hl : (ratL (shW n N)).length = n := by rw [ratL_len, shW_len]
  have key : ∀ i, i < n → flC (gq (ratL (shW n N))) (gq (ratL (zeL n))) i = N i ∧ rsC (gq (ratL (shW n N))) (gq (ratL (zeL n))) i = 0 := fun i hi => whole_fl (shW_gq hi) zeL_gq
  refine ⟨fun _ => false, 0, fun _ => rfl, ?_, ?_, ?_⟩
  · rw [hl, smI_congr fun i hi => (key i hi).1]
    simp
  · rw [hl]
    refine List.map_congr_left fun i hi => ?_
    unfold gotC
    rw [(key i (List.mem_range.1 hi)).1]
    simp
  · rw [hl]
    have e : ratL (zeL n) = (List.range n).map fun _ => 0 := by
      rw [zeL_rat]
      apply List.ext_getElem (by simp)
      intro i h1 h2
      simp
    refine e.trans (List.map_congr_left fun i hi => ?_)
    unfold aftC ind
    rw [(key i (List.mem_range.1 hi)).2]
    simp
    grind
/-- what each gets -/
theorem shW_got {n : Nat} {N : Nat → Int} {M : List Fv} {g : List Int} {a : List Fv} (H : OkC (smI N n) (shW n N) M n) (h : SpC (smI N n) (shW n N) M n g a) {i : Nat} {x : Fv} (hi : i < n) (hx : M[i]? = some x) : ∃ G, g[i]? = some G ∧ N i - 1 ≤ G ∧ G ≤ N i + 1 ∧ (x.s = 0 → G = N i) := by
  obtain ⟨S, m, h1, h2, h3, -⟩ := h.has
  have hme : gq (ratL M) i = x.rat := gq_ratL hx
  have hp : S i = true → 0 < rsC (gq (ratL (shW n N))) (gq (ratL M)) i := fun e => h1.pos (fun i _ => rsC_rng _ _ i) (by rw [miss H.sumS H.sumM, ← h2, Rat.intCast_natCast]) e
  obtain ⟨b1, b2, b3⟩ := whole_got (shW_gq hi) (H.rngM i hi) hp
  refine ⟨_, h3 i hi, b1, b2, fun h0 => b3 ?_⟩
  rw [hme]
  have ho := H.okM x (List.mem_of_getElem? hx)
  have hs : x.s = sgI x.rat.num := (fv_std ho).1.1.1
  rw [h0] at hs
  refine Rat.num_eq_zero.1 ?_
  unfold sgI at hs
  by_cases e1 : x.rat.num < 0
  · rw [if_pos e1] at hs; omega
  · rw [if_neg e1] at hs
    by_cases e2 : x.rat.num = 0
    · exact e2
    · rw [if_neg e2] at hs; omega
end Go.Proofs.Ytinfcngkbdiddaa
