/- Texts laid together: each begins with what it shows, and the conditions stand in its theorems. -/
import Derived.Test.YtkeajohkpmabcaaGreatDoorT
import Derived.Test.YtkeajohkpmabcaaGreatDoorG
import Derived.Test.YtkeajohkpmabcaaGreatDoorL
import Derived.Test.YtkeajohkpmabcaaGreatDoorD
import Derived.Test.YtkeajohkpmabcaaGreatDoorF

/- Contracts of package frac at numbers; heights of fractions. Conditions stand in each theorem. -/
namespace Go.Proofs.YtkeajohkpmabcaaGreatDoor
open Go.RowKit
set_option linter.unusedVariables false
set_option linter.unusedSimpArgs false

/-- both parts have at most k digits -/
def ht (q : Rat) (k : Nat) : Prop := (q.num.natAbs : Int) < pw k ∧ (q.den : Int) < pw k
theorem divInt_ht {x y : Int} {k : Nat} (hy : 0 < y) (h1 : (x.natAbs : Int) < pw k) (h2 : y < pw k) : ht (Rat.divInt x y) k := by
  obtain ⟨e1, e2⟩ := divInt_parts (x := x) hy
  have hg : 0 < Int.gcd x y := Int.gcd_pos_of_ne_zero_right x (show y ≠ 0 by omega)
  have n1 : (x / (Int.gcd x y : Int)).natAbs ≤ x.natAbs := by rw [Int.natAbs_ediv_of_dvd (Int.gcd_dvd_left ..)]; exact Nat.div_le_self _ _
  have n2 : (y / (Int.gcd x y : Int)).natAbs ≤ y.natAbs := by rw [Int.natAbs_ediv_of_dvd (Int.gcd_dvd_right ..)]; exact Nat.div_le_self _ _
  unfold ht
  rw [e1]
  have := den_pos (Rat.divInt x y)
  omega
theorem ht_fits {q : Rat} {k : Nat} (h : ht q k) (hk : k ≤ 60) : fitsF q = true := by
  unfold fitsF
  have := den_pos q
  rw [fits_lt h.1 hk, fits_lt (z := (q.den : Int)) (k := k) (by have := h.2; omega) hk]
  rfl
theorem ht.den {q : Rat} {k : Nat} (h : ht q k) : (((q.den : Int)).natAbs : Int) < pw k := by have := h.2; omega
theorem ht_neg {q : Rat} {k : Nat} (h : ht q k) : ht (-q) k := by
  unfold ht
  rw [Rat.neg_num, Rat.neg_den, Int.natAbs_neg]
  exact h
theorem ht_add {x y : Rat} {j k : Nat} (hx : ht x j) (hy : ht y k) : ht (x + y) (j + k + 1) := by
  rw [← rat_add]
  have h1 := pw_mul_lt hx.1 hy.den
  have h2 := pw_mul_lt hy.1 hx.den
  have h3 := pw_mul_lt hx.den hy.den
  rw [Nat.add_comm k j] at h2
  refine divInt_ht (den_mul_pos x y) (pw_add_lt h1 h2 (by omega) (by omega)) ?_
  have := den_mul_pos x y
  have := pw_le (show j + k ≤ j + k + 1 by omega)
  omega
theorem ht_addK {x y : Rat} {j k : Nat} (hx : ht x j) (hy : ht y k) (h : j + k + 1 ≤ 60) : addK x y = true := by
  have h1 := pw_mul_lt hx.1 hy.den
  have h2 := pw_mul_lt hy.1 hx.den
  have h3 := pw_mul_lt hx.den hy.den
  rw [Nat.add_comm k j] at h2
  unfold addK sumK
  rw [fits_lt h1 (by omega), fits_lt h2 (by omega), fits_lt h3 (by omega), fits_lt (pw_add_lt h1 h2 (show j + k < j + k + 1 by omega) (by omega)) h]
  rfl
theorem ht_mul {x y : Rat} {j k : Nat} (hx : ht x j) (hy : ht y k) : ht (x * y) (j + k) := by
  rw [← rat_mul]
  have h1 := pw_mul_lt hx.1 hy.1
  have h3 := pw_mul_lt hx.den hy.den
  have := den_mul_pos x y
  exact divInt_ht (den_mul_pos x y) h1 (by omega)
theorem ht_mulK {x y : Rat} {j k : Nat} (hx : ht x j) (hy : ht y k) (h : j + k ≤ 60) : mulK x y = true := by
  unfold mulK
  rw [fits_lt (pw_mul_lt hx.1 hy.1) h, fits_lt (pw_mul_lt hx.den hy.den) h]
  rfl
theorem ht_divK {x y : Rat} {j k : Nat} (hx : ht x j) (hy : ht y k) (h : j + k ≤ 60) : divK x y = true := by
  unfold divK
  rw [fits_lt (pw_mul_lt hx.1 hy.den) h, fits_lt (pw_mul_lt hx.den hy.1) h]
  rfl
theorem ht_div {x y : Rat} {j k : Nat} (hx : ht x j) (hy : ht y k) (h0 : y ≠ 0) : ht (x / y) (j + k) := by
  have hn : y.num ≠ 0 := fun e => h0 (rat_zero.2 e)
  have h1 := pw_mul_lt hx.1 hy.den
  have h3 := pw_mul_lt hx.den hy.1
  have hd := den_pos x
  rw [← rat_div]
  by_cases hp : 0 < y.num
  · have := Int.mul_pos hd hp
    exact divInt_ht this h1 (by omega)
  · have := Int.mul_pos hd (show 0 < -y.num by omega)
    rw [Int.mul_neg] at this
    rw [← divInt_opp]
    exact divInt_ht this (by rw [Int.natAbs_neg]; exact h1) (by omega)
theorem ht_of {p q : Int} {k : Nat} (h1 : (p.natAbs : Int) < pw k) (h2 : (q.natAbs : Int) < pw k) (hq : q ≠ 0) : ht (Rat.divInt p q) k := by
  by_cases hp : 0 < q
  · exact divInt_ht hp h1 (by omega)
  · rw [← divInt_opp]
    exact divInt_ht (by omega) (by rw [Int.natAbs_neg]; exact h1) (by omega)
section
variable (x y : Rat) (s1 t1 s2 t2 : Int) (A1 B1 A2 B2 : Option Addr) (n1 c1 m1 d1 n2 c2 m2 d2 : Nat) (l1 k1 l2 k2 : List Int) (w : World) (r1 : RdI w w.heap.size A1 n1 c1 l1) (q1 : RdI w w.heap.size B1 m1 d1 k1) (r2 : RdI w w.heap.size A2 n2 c2 l2) (q2 : RdI w w.heap.size B2 m2 d2 k2)
variable (h1 : StdF s1 l1 t1 k1 x) (h2 : StdF s2 l2 t2 k2 y)
include r1 q1 r2 q2 h1 h2
theorem nSameF : Calls Tryz.prog 43 #[.agg #[.int .i64 s1, .slice A1 n1 c1, .int .i64 t1, .slice B1 m1 d1], .agg #[.int .i64 s2, .slice A2 n2 c2, .int .i64 t2, .slice B2 m2 d2]] w fun e w' => e = .returned (.bool (decide (x = y))) ∧ Below w.heap.size w w' := by
  have h := gsame_any s1 t1 s2 t2 A1 B1 A2 B2 n1 c1 m1 d1 n2 c2 m2 d2 l1 k1 l2 k2 w r1 q1 r2 q2
  have e : sameF s1 l1 t1 k1 s2 l2 t2 k2 = decide (x = y) := by
    unfold sameF sameB
    rw [← Bool.decide_and]
    refine decide_eq_decide.2 ⟨fun ⟨⟨e1, e2⟩, e3, e4⟩ => ?_, fun e => ?_⟩
    · subst e1; subst e2; subst e3; subst e4
      exact h1.rat.symm.trans h2.rat
    · subst e
      obtain ⟨e1, e2, e3, e4⟩ := h1.same h2
      exact ⟨⟨e1, e2⟩, e3, e4⟩
  rw [e] at h
  exact h
theorem nSameFT (e : x = y) : Calls Tryz.prog 43 #[.agg #[.int .i64 s1, .slice A1 n1 c1, .int .i64 t1, .slice B1 m1 d1], .agg #[.int .i64 s2, .slice A2 n2 c2, .int .i64 t2, .slice B2 m2 d2]] w fun e w' => e = .returned (.bool true) ∧ Below w.heap.size w w' := by
  have h := nSameF x y s1 t1 s2 t2 A1 B1 A2 B2 n1 c1 m1 d1 n2 c2 m2 d2 l1 k1 l2 k2 w r1 q1 r2 q2 h1 h2
  rw [decide_eq_true e] at h
  exact h
variable (f1 : fitsF x = true) (f2 : fitsF y = true)
include f1 f2
theorem nAddFT (hk : addK x y = true) : Calls Tryz.prog 39 #[.agg #[.int .i64 s1, .slice A1 n1 c1, .int .i64 t1, .slice B1 m1 d1], .agg #[.int .i64 s2, .slice A2 n2 c2, .int .i64 t2, .slice B2 m2 d2]] w (FrE w (some (x + y)) 0) := by
  have h := vAddF x y s1 t1 s2 t2 A1 B1 A2 B2 n1 c1 m1 d1 n2 c2 m2 d2 l1 k1 l2 k2 w r1 q1 r2 q2 h1 h2 f1 f2
  rw [hk] at h
  exact h
theorem nSubFT (hk : addK x (-y) = true) : Calls Tryz.prog 41 #[.agg #[.int .i64 s1, .slice A1 n1 c1, .int .i64 t1, .slice B1 m1 d1], .agg #[.int .i64 s2, .slice A2 n2 c2, .int .i64 t2, .slice B2 m2 d2]] w (FrE w (some (x - y)) 0) := by
  have h := fSub_any s1 t1 s2 t2 A1 B1 A2 B2 n1 c1 m1 d1 n2 c2 m2 d2 l1 k1 l2 k2 w r1 q1 r2 q2
  rw [h1.right f1, h2.right f2, h1.rat, h2.rat, hk] at h
  exact h
theorem nMulFT (hk : mulK x y = true) : Calls Tryz.prog 44 #[.agg #[.int .i64 s1, .slice A1 n1 c1, .int .i64 t1, .slice B1 m1 d1], .agg #[.int .i64 s2, .slice A2 n2 c2, .int .i64 t2, .slice B2 m2 d2]] w (FrE w (some (x * y)) 0) := by
  have h := fMul_any s1 t1 s2 t2 A1 B1 A2 B2 n1 c1 m1 d1 n2 c2 m2 d2 l1 k1 l2 k2 w r1 q1 r2 q2
  rw [h1.right f1, h2.right f2, h1.rat, h2.rat, hk] at h
  exact h
theorem nDivFT (hy : y ≠ 0) (hk : divK x y = true) : Calls Tryz.prog 46 #[.agg #[.int .i64 s1, .slice A1 n1 c1, .int .i64 t1, .slice B1 m1 d1], .agg #[.int .i64 s2, .slice A2 n2 c2, .int .i64 t2, .slice B2 m2 d2]] w (FrE w (some (x / y)) 0) := by
  have h := fDiv_any s1 t1 s2 t2 A1 B1 A2 B2 n1 c1 m1 d1 n2 c2 m2 d2 l1 k1 l2 k2 w r1 q1 r2 q2
  rw [h1.right f1, h2.right f2, h1.rat, h2.rat] at h
  have e1 : divO (true && true) x y = some (x / y) := by unfold divO; rw [if_neg hy, hk]; rfl
  have e2 : divE (true && true) x y = 0 := by unfold divE; rw [if_neg (by simp [hy]), hk]; rfl
  rw [e1, e2] at h
  exact h
theorem nDivF0 (hy : y = 0) : Calls Tryz.prog 46 #[.agg #[.int .i64 s1, .slice A1 n1 c1, .int .i64 t1, .slice B1 m1 d1], .agg #[.int .i64 s2, .slice A2 n2 c2, .int .i64 t2, .slice B2 m2 d2]] w (FrE w none 15) := by
  have h := fDiv_any s1 t1 s2 t2 A1 B1 A2 B2 n1 c1 m1 d1 n2 c2 m2 d2 l1 k1 l2 k2 w r1 q1 r2 q2
  rw [h1.right f1, h2.right f2, h1.rat, h2.rat] at h
  have e1 : divO (true && true) x y = none := by unfold divO; rw [if_pos hy]
  have e2 : divE (true && true) x y = 15 := by unfold divE; rw [if_pos ⟨rfl, hy⟩]
  rw [e1, e2] at h
  exact h
theorem nCompareF : Calls Tryz.prog 56 #[.agg #[.int .i64 s1, .slice A1 n1 c1, .int .i64 t1, .slice B1 m1 d1], .agg #[.int .i64 s2, .slice A2 n2 c2, .int .i64 t2, .slice B2 m2 d2]] w fun e w' => e = .returned (.int .i64 (cmpQ x y)) ∧ Below w.heap.size w w' := by
  have h := fCompare_any s1 t1 s2 t2 A1 B1 A2 B2 n1 c1 m1 d1 n2 c2 m2 d2 l1 k1 l2 k2 w r1 q1 r2 q2
  rw [h1.right f1, h2.right f2, h1.rat, h2.rat] at h
  exact h
end
section
variable (x : Rat) (s1 t1 : Int) (A1 B1 : Option Addr) (n1 c1 m1 d1 : Nat) (l1 k1 : List Int) (w : World) (r1 : RdI w w.heap.size A1 n1 c1 l1) (q1 : RdI w w.heap.size B1 m1 d1 k1)
variable (h1 : StdF s1 l1 t1 k1 x) (f1 : fitsF x = true)
include r1 q1 h1 f1
theorem nRightF : Calls Tryz.prog 54 #[.agg #[.int .i64 s1, .slice A1 n1 c1, .int .i64 t1, .slice B1 m1 d1]] w fun e w' => e = .returned (.bool true) ∧ Below w.heap.size w w' := by
  have h := fRight_any s1 t1 A1 B1 n1 c1 m1 d1 l1 k1 w r1 q1
  rw [h1.right f1] at h
  exact h
theorem nFloor : Calls Tryz.prog 61 #[.agg #[.int .i64 s1, .slice A1 n1 c1, .int .i64 t1, .slice B1 m1 d1]] w (BigR w (fq x.num x.den)) := by
  have h := fFloor_any s1 t1 A1 B1 n1 c1 m1 d1 l1 k1 w r1 q1
  rw [h1.right f1, h1.rat] at h
  exact h
theorem nTextF (ht : Tab w) : Calls Tryz.prog 58 #[.agg #[.int .i64 s1, .slice A1 n1 c1, .int .i64 t1, .slice B1 m1 d1]] w fun e w' => e = .returned (.string ⟨(textQ x).toArray⟩) ∧ Below w.heap.size w w' := by
  have h := fText_any s1 t1 A1 B1 n1 c1 m1 d1 l1 k1 w r1 q1 ht
  rw [h1.right f1, h1.rat] at h
  exact h
end
theorem nOfT (p q : Int) (w : World) (hp : -9223372036854775808 ≤ p ∧ p ≤ 9223372036854775807) (hq : -9223372036854775808 ≤ q ∧ q ≤ 9223372036854775807) (h0 : q ≠ 0) : Calls Tryz.prog 48 #[.int .i64 p, .int .i64 q] w (FrE w (some (Rat.divInt p q)) 0) := by
  have h := fOf_any p q w hp hq
  rw [newO_yes h0, newE_yes h0] at h
  exact h
theorem nNewT (x y : Int) (s : Int) (A : Option Addr) (n cap : Nat) (l : List Int) (t : Int) (A' : Option Addr) (n' cap' : Nat) (m : List Int) (W : World) (hl : RdI W W.heap.size A n cap l) (hm : RdI W W.heap.size A' n' cap' m) (h1 : Std s l x) (h2 : Std t m y) (f1 : fits x = true) (f2 : fits y = true) (h0 : y ≠ 0) :
    Calls Tryz.prog 52 #[.agg #[.int .i64 s, .slice A n cap], .agg #[.int .i64 t, .slice A' n' cap']] W (FrE W (some (Rat.divInt x y)) 0) := by
  have h := vNew x y s A n cap l t A' n' cap' m W hl hm h1 h2 f1 f2
  rw [newO_yes h0, newE_yes h0] at h
  exact h
theorem nSameB (x y : Int) (s : Int) (A : Option Addr) (n cap : Nat) (l : List Int) (t : Int) (A' : Option Addr) (n' cap' : Nat) (m : List Int) (W : World) (hl : RdI W W.heap.size A n cap l) (hm : RdI W W.heap.size A' n' cap' m) (h1 : Std s l x) (h2 : Std t m y) :
    Calls Tryz.prog 60 #[.agg #[.int .i64 s, .slice A n cap], .agg #[.int .i64 t, .slice A' n' cap']] W fun e w' => e = .returned (.bool (decide (x = y))) ∧ Below W.heap.size W w' := by
  have h := gsamebig_any s t A A' n cap n' cap' l m W hl hm
  have e : sameB s l t m = decide (x = y) := by
    unfold sameB
    refine decide_eq_decide.2 ⟨fun ⟨e1, e2⟩ => ?_, fun e => ?_⟩
    · subst e1; subst e2
      exact h1.val.symm.trans h2.val
    · subst e
      exact ⟨h1.1.trans h2.1.symm, h1.2.trans h2.2.symm⟩
  rw [e] at h
  exact h
theorem textQ_at {q : Rat} {L1 L2 : List UInt8} (h1 : formL L1 = true) (h2 : formL L2 = true) (e1 : readN L1 = q.num) (e2 : readN L2 = q.den) : textQ q = L1 ++ 47 :: L2 := by
  unfold textQ
  rw [← e1, ← e2, form_text h1, form_text h2]
/-- right and few: both parts are small -/
theorem few_ht {s t : Int} {A A' : Option Addr} {n cap n' cap' : Nat} {l m : List Int} {W : World} {k : Nat} (hl : RdI W W.heap.size A n cap l) (hm : RdI W W.heap.size A' n' cap' m) (h : rightF s l t m = true) (hn : n ≤ k) (hn' : n' ≤ k) : ht (ratF s l t m) k := by
  obtain ⟨r1, r2, r3, r4⟩ := rightF_iff.1 h
  have h1 := few_bd hl r1 hn
  have h2 := few_bd hm r2 hn'
  have h3 := rightB_pos r2 r3
  exact divInt_ht h3 h1 (by omega)
end Go.Proofs.YtkeajohkpmabcaaGreatDoor

/- Walks over of and right of the law's package of layer 5. Conditions stand in each theorem. -/
namespace Go.Proofs.YtkeajohkpmabcaaGreatDoor
open Go.RowKit
set_option linter.unusedVariables false
set_option linter.unusedSimpArgs false

/-- what a call that returns a fraction leaves -/
def FrR (w : World) (q : Rat) (e : Ending) (w' : World) : Prop :=
  ∃ s A n cap l t A' n' cap' m, e = .returned (.agg #[.int .i64 s, .slice A n cap, .int .i64 t, .slice A' n' cap']) ∧ (RdI w' w'.heap.size A n cap l ∧ RdI w' w'.heap.size A' n' cap' m) ∧ StdF s l t m q ∧ (FrA w.heap.size A ∧ FrA w.heap.size A') ∧ Below w.heap.size w w'
set_option maxRecDepth 100000 in
set_option maxHeartbeats 1000000 in
theorem lof_any (p q : Int) (w : World) (hp : -9223372036854775808 ≤ p ∧ p ≤ 9223372036854775807) (hq : -9223372036854775808 ≤ q ∧ q ≤ 9223372036854775807) (h0 : q ≠ 0) :
    Calls Tryz.prog 64 #[.int .i64 p, .int .i64 q] w (FrR w (Rat.divInt p q)) := by
  have K := St.start w
  have r := K.raw
  have HO := Lib.hid (fun W => nOfT p q W hp hq h0)
  generalize Rat.divInt p q = z at *
  clear hp hq h0
  go_enter Tryz.func64, Tryz.ntmps64
  go_wp2_with (first | ((first | (apply K.alloc; rfl; rfl; (first | with_reducible exact big_zero | with_reducible exact frac_zero)) | (apply K.box; rfl; rfl; rfl)); clear K r; (first | ((fail_if_success revert b0); intro W b0 K) | ((fail_if_success revert b1); intro W b1 K) | ((fail_if_success revert b2); intro W b2 K) | ((fail_if_success revert b3); intro W b3 K) | ((fail_if_success revert b4); intro W b4 K) | ((fail_if_success revert b5); intro W b5 K) | ((fail_if_success revert b6); intro W b6 K) | ((fail_if_success revert b7); intro W b7 K)); have r := K.rawS) | (apply K.storeA; rfl; rfl; rfl; rfl; rfl; (repeat (first | with_reducible exact Upd.head _ | with_reducible apply Upd.tail)); (first | with_reducible exact big_size | with_reducible exact frac_size); rfl; rfl; rfl; clear K r; intro W K; have r := K.rawS))
  refine (HO.out _).mono ?_
  rintro e W' ⟨s7, A7, n7, c7, l7, t7, B7, m7, d7, k7, rfl, ⟨hra, hrb⟩, ho, ⟨hfa, hfb⟩, hb⟩
  have hf7 := Lib.hid (hfa.mono K.1.size)
  have hg7 := Lib.hid (hfb.mono K.1.size)
  replace K := K.retF hb hra hrb hfa hfb
  clear r
  have r := K.rawS
  clear hra hrb hfa hfb hb
  go_wp2_with (first | ((first | (apply K.alloc; rfl; rfl; (first | with_reducible exact big_zero | with_reducible exact frac_zero)) | (apply K.box; rfl; rfl; rfl)); clear K r; (first | ((fail_if_success revert b0); intro W b0 K) | ((fail_if_success revert b1); intro W b1 K) | ((fail_if_success revert b2); intro W b2 K) | ((fail_if_success revert b3); intro W b3 K) | ((fail_if_success revert b4); intro W b4 K) | ((fail_if_success revert b5); intro W b5 K) | ((fail_if_success revert b6); intro W b6 K) | ((fail_if_success revert b7); intro W b7 K)); have r := K.rawS) | (apply K.storeA; rfl; rfl; rfl; rfl; rfl; (repeat (first | with_reducible exact Upd.head _ | with_reducible apply Upd.tail)); (first | with_reducible exact big_size | with_reducible exact frac_size); rfl; rfl; rfl; clear K r; intro W K; have r := K.rawS))
  have HE := Lib.hid (⟨s7, A7, n7, c7, l7, t7, B7, m7, d7, k7, rfl, ⟨(by first | exact Rd.nil | exact K.rda), (by first | exact Rd.nil | exact K.rda)⟩, ho, ⟨hf7.out, hg7.out⟩, K.1⟩ : FrR w z (.returned (.agg #[.int .i64 s7, .slice A7 n7 c7, .int .i64 t7, .slice B7 m7 d7])) W)
  clear ho
  exact bodyPost_ret (v := .agg #[.int .i64 s7, .slice A7 n7 c7, .int .i64 t7, .slice B7 m7 d7]) (by simp [results, Tryz.results64, go_sem, r]) rfl HE.out
set_option maxRecDepth 100000 in
set_option maxHeartbeats 1000000 in
theorem lright_any (s1 t1 : Int) (A1 B1 : Option Addr) (n1 c1 m1 d1 : Nat) (l1 k1 : List Int) (w : World) (r1 : RdI w w.heap.size A1 n1 c1 l1) (q1 : RdI w w.heap.size B1 m1 d1 k1) (x : Rat) (h1 : StdF s1 l1 t1 k1 x) (f1 : fitsF x = true) :
    Calls Tryz.prog 63 #[.agg #[.int .i64 s1, .slice A1 n1 c1, .int .i64 t1, .slice B1 m1 d1], .int .i64 0] w fun e w' => e = .returned (.tuple #[.agg #[.int .i64 s1, .slice A1 n1 c1, .int .i64 t1, .slice B1 m1 d1], .bool true]) ∧ Below w.heap.size w w' := by
  have K := ((St.start w).oldRd r1).oldRd q1
  have r := K.raw
  have HR0 := Lib.hid (fun W a b => nRightF x s1 t1 A1 B1 n1 c1 m1 d1 l1 k1 W a b h1 f1)
  clear h1 f1
  go_enter Tryz.func63, Tryz.ntmps63
  go_wp2_with (first | ((first | (apply K.alloc; rfl; rfl; (first | with_reducible exact big_zero | with_reducible exact frac_zero)) | (apply K.box; rfl; rfl; rfl)); clear K r; (first | ((fail_if_success revert b0); intro W b0 K) | ((fail_if_success revert b1); intro W b1 K) | ((fail_if_success revert b2); intro W b2 K) | ((fail_if_success revert b3); intro W b3 K) | ((fail_if_success revert b4); intro W b4 K) | ((fail_if_success revert b5); intro W b5 K) | ((fail_if_success revert b6); intro W b6 K) | ((fail_if_success revert b7); intro W b7 K)); have r := K.rawS) | (apply K.storeA; rfl; rfl; rfl; rfl; rfl; (repeat (first | with_reducible exact Upd.head _ | with_reducible apply Upd.tail)); (first | with_reducible exact big_size | with_reducible exact frac_size); rfl; rfl; rfl; clear K r; intro W K; have r := K.rawS))
  have X0 : Sx w b1 43 4 [(b0, #[.int .i64 s1, .slice A1 n1 c1, .int .i64 t1, .slice B1 m1 d1], 43)] [⟨rdP B1 m1 d1 k1, oldS w⟩, ⟨rdP A1 n1 c1 l1, oldS w⟩] W := Sx.of K rfl
  have HSx := Lib.hid (fun W (h : Sx w b1 43 4 [(b0, #[.int .i64 s1, .slice A1 n1 c1, .int .i64 t1, .slice B1 m1 d1], 43)] [⟨rdP B1 m1 d1 k1, oldS w⟩, ⟨rdP A1 n1 c1 l1, oldS w⟩] W) => (show (Sx w b1 43 4 [(b0, #[.int .i64 s1, .slice A1 n1 c1, .int .i64 t1, .slice B1 m1 d1], 43)] [⟨rdP B1 m1 d1 k1, oldS w⟩, ⟨rdP A1 n1 c1 l1, oldS w⟩] W ∧ ((W.cell? ⟨b0, 0, none⟩ = some (.int .i64 s1) ∧ W.cell? ⟨b0, 1, none⟩ = some (.slice A1 n1 c1) ∧ W.cell? ⟨b0, 2, none⟩ = some (.int .i64 t1) ∧ W.cell? ⟨b0, 3, none⟩ = some (.slice B1 m1 d1)) ∧ (W.cell? ⟨b1, 0, none⟩ = some (cellD W ⟨b1, 0, none⟩) ∧ W.cell? ⟨b1, 1, none⟩ = some (cellD W ⟨b1, 1, none⟩) ∧ W.cell? ⟨b1, 2, none⟩ = some (cellD W ⟨b1, 2, none⟩) ∧ W.cell? ⟨b1, 3, none⟩ = some (cellD W ⟨b1, 3, none⟩)) ∧ ∀ j, W.frozen? ⟨b1, j, none⟩ = false)) from by
    have r := h.raw
    simp only [Raw, RawC, and_true, Nat.zero_add, Nat.reduceAdd] at r
    exact ⟨h, r, ⟨h.cell (by omega), h.cell (by omega), h.cell (by omega), h.cell (by omega)⟩, h.thaw⟩))
  have HR := Lib.hid (fun W (h : Sx w b1 43 4 [(b0, #[.int .i64 s1, .slice A1 n1 c1, .int .i64 t1, .slice B1 m1 d1], 43)] [⟨rdP B1 m1 d1 k1, oldS w⟩, ⟨rdP A1 n1 c1 l1, oldS w⟩] W) => (HR0.out W (h.rd (by repeat (first | with_reducible exact List.mem_cons_self | with_reducible apply List.mem_cons_of_mem))) (h.rd (by repeat (first | with_reducible exact List.mem_cons_self | with_reducible apply List.mem_cons_of_mem)))).mono fun e W' ⟨he, hb⟩ => (⟨he, h.keep hb⟩ : e = Ending.returned (.bool true) ∧ Sx w b1 43 4 [(b0, #[.int .i64 s1, .slice A1 n1 c1, .int .i64 t1, .slice B1 m1 d1], 43)] [⟨rdP B1 m1 d1 k1, oldS w⟩, ⟨rdP A1 n1 c1 l1, oldS w⟩] W'))
  clear r K HR0
  go_region_held3 (fun W => (Sx w b1 43 4 [(b0, #[.int .i64 s1, .slice A1 n1 c1, .int .i64 t1, .slice B1 m1 d1], 43)] [⟨rdP B1 m1 d1 k1, oldS w⟩, ⟨rdP A1 n1 c1 l1, oldS w⟩] W ∧ ((W.cell? ⟨b0, 0, none⟩ = some (.int .i64 s1) ∧ W.cell? ⟨b0, 1, none⟩ = some (.slice A1 n1 c1) ∧ W.cell? ⟨b0, 2, none⟩ = some (.int .i64 t1) ∧ W.cell? ⟨b0, 3, none⟩ = some (.slice B1 m1 d1)) ∧ (W.cell? ⟨b1, 0, none⟩ = some (cellD W ⟨b1, 0, none⟩) ∧ W.cell? ⟨b1, 1, none⟩ = some (cellD W ⟨b1, 1, none⟩) ∧ W.cell? ⟨b1, 2, none⟩ = some (cellD W ⟨b1, 2, none⟩) ∧ W.cell? ⟨b1, 3, none⟩ = some (cellD W ⟨b1, 3, none⟩)) ∧ ∀ j, W.frozen? ⟨b1, j, none⟩ = false)))
    ((refine HSx.out _ ?_; first | assumption | exact X0.drew | exact (Sx.set4 (by assumption)).1 | exact And.left (by assumption)))
    (first
      | (go_at_call 54; refine (HR.out _ (And.left (by assumption))).mono ?_; rintro e w5 ⟨rfl, x5⟩))
  all_goals
    obtain ⟨y1, y2⟩ := x5.set4 (u0 := .int .i64 s1) (u1 := .slice A1 n1 c1) (u2 := .int .i64 t1) (u3 := .slice B1 m1 d1)
    have HE := Lib.hid y1.below
    clear y1 x5 X0
    go_wp2
    exact bodyPost_ret (v := .tuple #[.agg #[.int .i64 s1, .slice A1 n1 c1, .int .i64 t1, .slice B1 m1 d1], .bool true]) (by simp [results, Tryz.results63, go_sem, y2]) rfl ⟨rfl, HE.out⟩
section
variable (x y : Rat) {j k : Nat} (z : Rat) (s1 t1 s2 t2 : Int) (A1 B1 A2 B2 : Option Addr) (n1 c1 m1 d1 n2 c2 m2 d2 : Nat) (l1 k1 l2 k2 : List Int) (w : World) (r1 : RdI w w.heap.size A1 n1 c1 l1) (q1 : RdI w w.heap.size B1 m1 d1 k1) (r2 : RdI w w.heap.size A2 n2 c2 l2) (q2 : RdI w w.heap.size B2 m2 d2 k2)
variable (h1 : StdF s1 l1 t1 k1 x) (h2 : StdF s2 l2 t2 k2 y) (g1 : ht x j) (g2 : ht y k)
include r1 q1 r2 q2 h1 h2 g1 g2
theorem cAdd (hz : x + y = z) (hk : j + k + 1 ≤ 60) : Calls Tryz.prog 39 #[.agg #[.int .i64 s1, .slice A1 n1 c1, .int .i64 t1, .slice B1 m1 d1], .agg #[.int .i64 s2, .slice A2 n2 c2, .int .i64 t2, .slice B2 m2 d2]] w (FrE w (some z) 0) := by
  rw [← hz]
  exact nAddFT x y s1 t1 s2 t2 A1 B1 A2 B2 n1 c1 m1 d1 n2 c2 m2 d2 l1 k1 l2 k2 w r1 q1 r2 q2 h1 h2 (ht_fits g1 (by omega)) (ht_fits g2 (by omega)) (ht_addK g1 g2 hk)
theorem cSub (hz : x - y = z) (hk : j + k + 1 ≤ 60) : Calls Tryz.prog 41 #[.agg #[.int .i64 s1, .slice A1 n1 c1, .int .i64 t1, .slice B1 m1 d1], .agg #[.int .i64 s2, .slice A2 n2 c2, .int .i64 t2, .slice B2 m2 d2]] w (FrE w (some z) 0) := by
  rw [← hz]
  exact nSubFT x y s1 t1 s2 t2 A1 B1 A2 B2 n1 c1 m1 d1 n2 c2 m2 d2 l1 k1 l2 k2 w r1 q1 r2 q2 h1 h2 (ht_fits g1 (by omega)) (ht_fits g2 (by omega)) (ht_addK g1 (ht_neg g2) hk)
theorem cMul (hz : x * y = z) (hk : j + k ≤ 60) : Calls Tryz.prog 44 #[.agg #[.int .i64 s1, .slice A1 n1 c1, .int .i64 t1, .slice B1 m1 d1], .agg #[.int .i64 s2, .slice A2 n2 c2, .int .i64 t2, .slice B2 m2 d2]] w (FrE w (some z) 0) := by
  rw [← hz]
  exact nMulFT x y s1 t1 s2 t2 A1 B1 A2 B2 n1 c1 m1 d1 n2 c2 m2 d2 l1 k1 l2 k2 w r1 q1 r2 q2 h1 h2 (ht_fits g1 (by omega)) (ht_fits g2 (by omega)) (ht_mulK g1 g2 hk)
theorem cDiv (h0 : y ≠ 0) (hz : x / y = z) (hk : j + k ≤ 60) : Calls Tryz.prog 46 #[.agg #[.int .i64 s1, .slice A1 n1 c1, .int .i64 t1, .slice B1 m1 d1], .agg #[.int .i64 s2, .slice A2 n2 c2, .int .i64 t2, .slice B2 m2 d2]] w (FrE w (some z) 0) := by
  rw [← hz]
  exact nDivFT x y s1 t1 s2 t2 A1 B1 A2 B2 n1 c1 m1 d1 n2 c2 m2 d2 l1 k1 l2 k2 w r1 q1 r2 q2 h1 h2 (ht_fits g1 (by omega)) (ht_fits g2 (by omega)) h0 (ht_divK g1 g2 hk)
theorem cCmp (v : Int) (hz : cmpQ x y = v) (hj : j ≤ 60) (hk : k ≤ 60) : Calls Tryz.prog 56 #[.agg #[.int .i64 s1, .slice A1 n1 c1, .int .i64 t1, .slice B1 m1 d1], .agg #[.int .i64 s2, .slice A2 n2 c2, .int .i64 t2, .slice B2 m2 d2]] w fun e w' => e = .returned (.int .i64 v) ∧ Below w.heap.size w w' := by
  rw [← hz]
  exact nCompareF x y s1 t1 s2 t2 A1 B1 A2 B2 n1 c1 m1 d1 n2 c2 m2 d2 l1 k1 l2 k2 w r1 q1 r2 q2 h1 h2 (ht_fits g1 hj) (ht_fits g2 hk)
end
theorem ht.add {x y z : Rat} {j k : Nat} (g1 : ht x j) (g2 : ht y k) (hz : x + y = z) : ht z (j + k + 1) := by rw [← hz]; exact ht_add g1 g2
theorem ht.sub {x y z : Rat} {j k : Nat} (g1 : ht x j) (g2 : ht y k) (hz : x - y = z) : ht z (j + k + 1) := by rw [← hz, Rat.sub_eq_add_neg]; exact ht_add g1 (ht_neg g2)
theorem ht.mul {x y z : Rat} {j k : Nat} (g1 : ht x j) (g2 : ht y k) (hz : x * y = z) : ht z (j + k) := by rw [← hz]; exact ht_mul g1 g2
end Go.Proofs.YtkeajohkpmabcaaGreatDoor
/- Words for drawn regions that make a block of four cells. Conditions stand in each theorem. -/
namespace Go.Proofs.YtkeajohkpmabcaaGreatDoor
open Go.RowKit
set_option linter.unusedVariables false
set_option linter.unusedSimpArgs false

theorem fewF_le {n m : Nat} {K : Nat} (h : fewF n m (K : Int) = true) : n ≤ K ∧ m ≤ K := by
  unfold fewF at h
  rw [Bool.and_eq_true] at h
  have h1 := of_decide_eq_true h.1
  have h2 := of_decide_eq_true h.2
  omega
theorem St.sub {w W : World} {L L' : List Blk} {D : List Hl} (h : St w L D W) (hs : L'.Sublist L) : St w L' D W :=
  h.pick (fun p hp => hs.subset hp) (h.2.2.1.sublist hs)
theorem St.newX {w W : World} {L : List Blk} {D : List Hl} (K : St w L D W) (cs : Array Value) (T : TypeId) : ∃ g, W.heap.size = g ∧ St w ((g, cs, T) :: L) D (W.alloc (.cells cs T)) := ⟨_, rfl, K.new cs T⟩
theorem St.hideF {w W : World} {L : List Blk} {D : List Hl} (K : St w L D W) (T : TypeId) : ∃ R : Nat → Array Value → Option Addr → Nat → Nat → List Int → Option Addr → Nat → Nat → List Int → World → Prop, ∀ g cs A n c l B m d k W', R g cs A n c l B m d k W' ↔ St w ((g, cs, T) :: L) (⟨rdP B m d k, rdS B m⟩ :: ⟨rdP A n c l, rdS A n⟩ :: D) W' :=
  ⟨_, fun _ _ _ _ _ _ _ _ _ _ _ => Iff.rfl⟩
theorem St.skip4 {w W : World} {L : List Blk} {D : List Hl} {x y u v : Hl} (K : St w L (x :: y :: u :: v :: D) W) : St w L (x :: y :: D) W :=
  K.less fun z hz => by
    simp only [List.mem_cons] at hz ⊢
    rcases hz with h | h | h
    · exact Or.inl h
    · exact Or.inr (Or.inl h)
    · exact Or.inr (Or.inr (Or.inr (Or.inr h)))
theorem St.set4 {w W : World} {L L' : List Blk} {D : List Hl} {b : Nat} {t : TypeId} (h : St w L D W) {x0 x1 x2 x3 u0 u1 u2 u3 : Value} (hU : Upd b #[x0, x1, x2, x3] t #[u0, u1, u2, u3] L L') :
    St w L' D ((((W.setCell ⟨b, 0, none⟩ u0).setCell ⟨b, 1, none⟩ u1).setCell ⟨b, 2, none⟩ u2).setCell ⟨b, 3, none⟩ u3) :=
  h.upd hU ((((OnlyB.set W b 0 u0).trans (OnlyB.set _ b 1 u1)).trans (OnlyB.set _ b 2 u2)).trans (OnlyB.set _ b 3 u3)) (((((h.blk hU.mem).set (j := 0) u0).set (j := 1) u1).set (j := 2) u2).set (j := 3) u3)
end Go.Proofs.YtkeajohkpmabcaaGreatDoor
