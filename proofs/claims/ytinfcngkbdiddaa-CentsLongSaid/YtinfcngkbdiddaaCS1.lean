/- Plain law: what a share and a memory of few digits leave can be added again; the errors of Split. No condition. -/
import Derived.Test.YtinfcngkbdiddaaCy
import Derived.Test.YtinfcngkbdiddaaCh
namespace Go.Proofs.Ytinfcngkbdiddaa
open Go.RowKit
set_option linter.unusedVariables false
set_option linter.unusedSimpArgs false

theorem den_le {x y : Int} (hy : 0 < y) : ((Rat.divInt x y).den : Int) ≤ y := by
  obtain ⟨e1, e2⟩ := divInt_parts (x := x) hy
  rw [e2]
  exact Int.ediv_le_self _ (by omega)
theorem add_den (x y : Rat) : ((x + y).den : Int) ≤ (x.den : Int) * y.den := by
  rw [← rat_add]
  exact den_le (den_mul_pos x y)
theorem sub_den (x : Rat) (g : Int) : ((x - ((g : Int) : Rat)).den : Int) ≤ x.den := by
  have h := add_den x (-((g : Int) : Rat))
  rw [Rat.neg_den, Rat.den_intCast, ← Rat.sub_eq_add_neg] at h
  omega
theorem num_den1 {r : Rat} (hr : -1 < r ∧ r < 1) : -(r.den : Int) < r.num ∧ r.num < r.den := by
  have h1 := (Rat.lt_iff _ _).1 hr.1
  have h2 := (Rat.lt_iff _ _).1 hr.2
  have e1 : (-1 : Rat).num = -1 := rfl
  have e2 : (-1 : Rat).den = 1 := rfl
  have e3 : (1 : Rat).num = 1 := rfl
  have e4 : (1 : Rat).den = 1 := rfl
  rw [e1, e2] at h1
  rw [e3, e4] at h2
  omega
theorem pw3_big {g : Int} (h : -1000000000000000 ≤ g ∧ g ≤ 1000000000000100) : (g.natAbs : Int) < pw 3 := by
  have : pw 3 = 1152921504606846976 := by simp [pw]
  omega
theorem addK_whole {g : Int} {r : Rat} (h1 : fitsF r = true) (hg : ((g.natAbs : Int) + 1 < pw 3)) (hd : (r.den : Int) < pw 8) (hr : -1 < r ∧ r < 1) : addK ((g : Int) : Rat) r = true := by
  have hn := num_den1 hr
  have hp := den_pos r
  have hpos : (0 : Int) < pw 8 := by omega
  have key : (((g.natAbs : Int) + 1) * (r.den : Int)) < pw 11 := by
    have h := pw_mul_lt (x := ((g.natAbs : Int) + 1)) (y := (r.den : Int)) (j := 3) (k := 8) (by omega) (by omega)
    rw [Int.natAbs_of_nonneg (Int.mul_nonneg (by omega) (by omega))] at h
    exact h
  have e1 : (g.natAbs : Int) * (r.den : Int) + r.den = ((g.natAbs : Int) + 1) * (r.den : Int) := by rw [Int.add_mul, Int.one_mul]
  have e2 : ((g * (r.den : Int)).natAbs : Int) = (g.natAbs : Int) * (r.den : Int) := by rw [Int.natAbs_mul]; simp
  unfold addK sumK
  rw [Rat.num_intCast, Rat.den_intCast]
  have c1 : fits (g * (r.den : Int)) = true := fits_lt (k := 11) (by omega) (by omega)
  have c2 : fits (r.num * ((1 : Nat) : Int)) = true := by
    have : r.num * ((1 : Nat) : Int) = r.num := by omega
    rw [this]
    exact fitsF_num h1
  have c3 : fits (g * (r.den : Int) + r.num * ((1 : Nat) : Int)) = true := fits_lt (k := 11) (by omega) (by omega)
  have c4 : fits (((1 : Nat) : Int) * (r.den : Int)) = true := by
    have : ((1 : Nat) : Int) * (r.den : Int) = r.den := by omega
    rw [this]
    exact fitsF_den h1
  rw [c1, c2, c3, c4]
  rfl
theorem few_den {x : Fv} (h : x.ok = true) (hm : x.m.length ≤ 4) : (x.rat.den : Int) < pw 4 := by
  obtain ⟨⟨-, h2⟩, -⟩ := fv_std h
  have h3 := h2.2
  rw [h3] at hm
  have := digs_len.1 hm
  have hp := den_pos x.rat
  omega
section
variable {total : Int} {sh me : List Fv} {n : Nat} (H : OkC total sh me n) (h1 : fewL sh = true) (h2 : fewL me = true) (S : Nat → Bool) {i : Nat} (hi : i < n)
include H h1 h2 hi
theorem aft_den : ((aftC (gq (ratL sh)) (gq (ratL me)) S i).den : Int) < pw 8 := by
  obtain ⟨x, hx, hxo, hxr⟩ := H.sh_at hi
  obtain ⟨y, hy, hyo, hyr⟩ := H.me_at hi
  have f1 := few_den hxo ((of_decide_eq_true h1).2 x (List.mem_of_getElem? hx)).2
  have f2 := few_den hyo ((of_decide_eq_true h2).2 y (List.mem_of_getElem? hy)).2
  have e : aftC (gq (ratL sh)) (gq (ratL me)) S i = x.rat + y.rat - ((gotC (gq (ratL sh)) (gq (ratL me)) S i : Int) : Rat) := by
    have := gotC_aft (gq (ratL sh)) (gq (ratL me)) S i
    rw [hxr, hyr]
    grind
  rw [e]
  have a1 := sub_den (x.rat + y.rat) (gotC (gq (ratL sh)) (gq (ratL me)) S i)
  have a2 := add_den x.rat y.rat
  have p1 := den_pos x.rat
  have p2 := den_pos y.rat
  have a3 := pw_mul_lt (x := (x.rat.den : Int)) (y := (y.rat.den : Int)) (j := 4) (k := 4) (by omega) (by omega)
  have a4 : 0 ≤ (x.rat.den : Int) * (y.rat.den : Int) := Int.mul_nonneg (by omega) (by omega)
  have a5 : ((((x.rat.den : Int) * (y.rat.den : Int)).natAbs : Nat) : Int) = (x.rat.den : Int) * (y.rat.den : Int) := by omega
  rw [a5] at a3
  exact Int.lt_of_le_of_lt (Int.le_trans a1 a2) a3
end
theorem splitE_any (total : Int) (sh me : List Fv) : splitE total sh me = 0 ∨ splitE total sh me = 1 ∨ splitE total sh me = 6 := by
  unfold splitE checkC
  by_cases h : 0 ≤ total ∧ total ≤ 1000000000000000 ∧ rightM me = true ∧ sh.length = me.length ∧ sh.all Fv.ok = true ∧ (∀ x ∈ sh, 0 ≤ x.rat)
  · rw [if_pos h]
    cases sumF 0 (sh.map Fv.rat) with
    | none => simp
    | some q =>
      by_cases e : q = (total : Rat)
      · simp only [e, if_true]
        by_cases a : addA sh me = true
        · simp [a]
        · simp [a]
      · simp [e]
  · rw [if_neg h]
    simp
theorem splitE_zero {total : Int} {sh me : List Fv} (h : splitE total sh me = 0) : checkC total sh me = 0 ∧ ∀ i, i < sh.length → addK (gq (ratL sh) i) (gq (ratL me) i) = true := by
  unfold splitE at h
  by_cases h0 : checkC total sh me = 0
  · rw [if_pos h0] at h
    refine ⟨h0, fun i hi => ?_⟩
    by_cases a : addA sh me = true
    · exact List.all_eq_true.1 a i (List.mem_range.2 hi)
    · rw [if_neg a] at h
      cases h
  · rw [if_neg h0] at h
    exact absurd h h0
theorem rightM_of {l : List Fv} (h : 1 ≤ l.length ∧ l.length ≤ 60) (ho : ∀ x ∈ l, x.ok = true) (hs : sumF 0 (ratL l) = some 0) (hr : ∀ x ∈ l, -1 < x.rat ∧ x.rat < 1) : rightM l = true := by
  unfold rightM
  simp only [Bool.and_eq_true, decide_eq_true_iff, List.all_eq_true]
  exact ⟨h, ho, hs, hr⟩
/-- what is known of a split -/
structure SpC (total : Int) (sh me : List Fv) (n : Nat) (g : List Int) (a : List Fv) : Prop where
  lenG : g.length = n
  lenA : a.length = n
  okA : ∀ x ∈ a, x.ok = true
  has : ∃ (S : Nat → Bool) (m : Nat), Sel n (rsC (gq (ratL sh)) (gq (ratL me))) m S ∧ (m : Int) = total - smI (flC (gq (ratL sh)) (gq (ratL me))) n ∧ (∀ i, i < n → g[i]? = some (gotC (gq (ratL sh)) (gq (ratL me)) S i)) ∧ (∀ i x, i < n → a[i]? = some x → x.rat = aftC (gq (ratL sh)) (gq (ratL me)) S i)
theorem SpC.of {total : Int} {sh me : List Fv} {n : Nat} {g : List Int} {a : List Fv} (hn : sh.length = n) (ho : ∀ x ∈ a, x.ok = true) (h : SplitP total (ratL sh) (ratL me) g (ratL a)) : SpC total sh me n g a := by
  obtain ⟨S, m, h1, h2, h3, h4⟩ := h
  rw [ratL_len, hn] at h1 h2 h3 h4
  have hla : a.length = n := by
    have := congrArg List.length h4
    rw [ratL_len] at this
    simpa using this
  refine ⟨by rw [h3]; simp, hla, ho, S, m, h1, h2, fun i hi => ?_, fun i x hi hx => ?_⟩
  · rw [h3, List.getElem?_map, List.getElem?_range hi]; rfl
  · have : (ratL a)[i]? = some x.rat := by unfold ratL; rw [List.getElem?_map, hx]; rfl
    rw [h4, List.getElem?_map, List.getElem?_range hi] at this
    exact (Option.some.inj this).symm
end Go.Proofs.Ytinfcngkbdiddaa
