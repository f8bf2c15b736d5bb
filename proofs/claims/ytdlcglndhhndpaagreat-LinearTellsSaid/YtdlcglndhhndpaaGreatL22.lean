/- Laws and walks; conditions stand in each theorem. -/
import Derived.Test.YtdlcglndhhndpaaGreatL21
import Derived.Test.YtdlcglndhhndpaaGreatL05
import Derived.Test.YtdlcglndhhndpaaGreatL06
import Derived.Test.YtdlcglndhhndpaaGreatL03
set_option linter.unusedSimpArgs false
set_option linter.unusedVariables false
set_option maxHeartbeats 2000000
set_option maxRecDepth 100000
namespace Go.Proofs.YtdlcglndhhndpaaGreat
open Go.RowKit
theorem ZL16 {p : Prop} (h : p := by
 first
  | (go_wp2_with (first | (refine ZAL ?_; clear K r; intro W b K r) | (refine ZST ?_; clear K r; intro W K r))
     refine (HGc.out _ _ _ _ _ _ _ _ _ _ _ ZRD ZRD hs1 hs2).mono ?_
     rintro e W' ⟨s3, A3, n3, c3, l3, rfl, hr, hs3, hf, hb⟩
     replace K := K.ret hb hr hf
     clear r
     have r := K.rawS
     clear hr hf hb
     go_wp2_with (first | (refine ZAL ?_; clear K r; intro W b K r) | (refine ZST ?_; clear K r; intro W K r))
     refine (HD1.out _ _ _ _ _ _ _ _ _ _ _ ZRD ZRD hs1 hs3).mono ?_
     rintro e W' ⟨s4, A4, n4, c4, l4, s5, A5, n5, c5, l5, rfl, ⟨hr, hs4, hf⟩, -, hb⟩
     have hf4 := Lib.hid (hf.mono K.1.size)
     replace K := K.ret hb hr hf
     clear r
     have r := K.rawS
     clear hr hf hb
     go_wp2_with (first | (refine ZAL ?_; clear K r; intro W b K r) | (refine ZST ?_; clear K r; intro W K r))
     refine (HD2.out _ _ _ _ _ _ _ _ _ _ _ ZRD ZRD hs2 hs3).mono ?_
     rintro e W' ⟨s6, A6, n6, c6, l6, s7, A7, n7, c7, l7, rfl, ⟨hr, hs6, hf⟩, -, hb⟩
     have hf6 := Lib.hid (hf.mono K.1.size)
     replace K := K.ret hb hr hf
     clear r
     have r := K.rawS
     clear hr hf hb
     go_wp2_with (first | (refine ZAL ?_; clear K r; intro W b K r) | (refine ZST ?_; clear K r; intro W K r))
     have HE := Lib.hid (HEnd.out _ _ _ _ _ _ _ _ _ _ _ ZRD ZRD hs4 hs6 hf4.out hf6.out K.1)
     clear hs1 hs2 hs3 hs4 hs6
     exact bodyPost_ret (v := .tuple #[.agg #[.int .i64 s4, .slice A4 n4 c4, .int .i64 s6, .slice A6 n6 c6], .int .i64 0]) (by simp [results, Tryz.results82, go_sem, r]) rfl HE.out)
  | fail) : p := h
theorem ZL51 {p : Prop} (h : p := by
 first
  | (rintro e W' ⟨rfl, hb⟩
     replace K := K.keep hb
     clear r
     have r := K.rawS
     clear hb
     go_wp2_with (first | (refine ZAL ?_; clear K r; intro W b K r) | (refine ZST ?_; clear K r; intro W K r))
     exact bodyPost_ret (v := .tuple #[.agg #[.int .i64 0, .slice none 0 0, .int .i64 0, .slice none 0 0], .int .i64 1]) (by simp [results, Tryz.results82, go_sem, r]) rfl (Hno.out _ _ K.1))
  | fail) : p := h
theorem gNew_any (s t : Int) (A A' : Option Addr) (n cap n' cap' : Nat) (l m : List Int) (w : World) (hl : RdI w w.heap.size A n cap l) (hm : RdI w w.heap.size A' n' cap' m) :
 Calls Tryz.prog 82 #[.agg #[.int .i64 s, .slice A n cap], .agg #[.int .i64 t, .slice A' n' cap']] w (FrE w (newO (rightB s l && rightB t m) (bval s l) (bval t m)) (newE (rightB s l && rightB t m) (bval t m))) := by
 have K := ((St.start w).oldRd hl).oldRd hm
 have r := K.raw
 have HR1 := Lib.hid (fun W h => eright_any s A n cap l W h)
 have HR2 := Lib.hid (fun W h => eright_any t A' n' cap' m W h)
 have Hno := Lib.hid (fun W (c : Int) (h : Below w.heap.size w W) => (⟨0, none, 0, 0, [], 0, none, 0, 0, [], rfl, ⟨Rd.nil, Rd.nil⟩, ⟨rfl, rfl, rfl, rfl⟩, ⟨FrA.none, FrA.none⟩, h⟩ : FrE w none c (.returned (.tuple #[.agg #[.int .i64 0, .slice none 0 0, .int .i64 0, .slice none 0 0], .int .i64 c])) W))
 cases h1 : rightB s l
 · rw [h1] at HR1
   rw [Bool.false_and, newO_no, newE_no]
   clear h1
   go_enter Tryz.func82, Tryz.ntmps82
   go_wp2_with (first | (refine ZAL ?_; clear K r; intro W b K r) | (refine ZST ?_; clear K r; intro W K r))
   refine (HR1.out _ ZRD).mono ?_
   exact ZL51
 cases h2 : rightB t m
 · rw [h1] at HR1
   rw [h2] at HR2
   rw [Bool.true_and, newO_no, newE_no]
   clear h1 h2
   go_enter Tryz.func82, Tryz.ntmps82
   go_wp2_with (first | (refine ZAL ?_; clear K r; intro W b K r) | (refine ZST ?_; clear K r; intro W K r))
   refine (HR1.out _ ZRD).mono ?_
   rintro e W' ⟨rfl, hb⟩
   replace K := K.keep hb
   clear r
   have r := K.rawS
   clear hb
   go_wp2_with (first | (refine ZAL ?_; clear K r; intro W b K r) | (refine ZST ?_; clear K r; intro W K r))
   refine (HR2.out _ ZRD).mono ?_
   exact ZL51
 rw [h1] at HR1
 rw [h2] at HR2
 rw [Bool.true_and]
 obtain ⟨x, hx⟩ : ∃ x, x = bval s l := ⟨_, rfl⟩
 obtain ⟨y, hy⟩ : ∃ y, y = bval t m := ⟨_, rfl⟩
 have S1 : Std s l x := by rw [hx]; exact Std.of_right h1
 have S2 : Std t m y := by rw [hy]; exact Std.of_right h2
 have F1 : fits x = true := by rw [hx]; exact fits_of_right h1
 have F2 : fits y = true := by rw [hy]; exact fits_of_right h2
 rw [← hx, ← hy]
 clear hx hy h1 h2
 rcases S2.signs with ⟨-, ht, hy0⟩ | ⟨-, ht, hy0⟩ | ⟨-, ht, hy0⟩
 · have hd : (t == 0) = true := by simp [ht]
   rw [hy0, newO_zero, newE_zero]
   clear S1 S2 F1 F2 ht hy0
   go_enter Tryz.func82, Tryz.ntmps82
   go_wp2_with (first | (refine ZAL ?_; clear K r; intro W b K r) | (refine ZST ?_; clear K r; intro W K r))
   refine (HR1.out _ ZRD).mono ?_
   rintro e W' ⟨rfl, hb⟩
   replace K := K.keep hb
   clear r
   have r := K.rawS
   clear hb
   go_wp2_with (first | (refine ZAL ?_; clear K r; intro W b K r) | (refine ZST ?_; clear K r; intro W K r))
   refine (HR2.out _ ZRD).mono ?_
   rintro e W' ⟨rfl, hb⟩
   replace K := K.keep hb
   clear r
   have r := K.rawS
   clear hb
   go_wp2_with (first | (refine ZAL ?_; clear K r; intro W b K r) | (refine ZST ?_; clear K r; intro W K r))
   exact bodyPost_ret (v := .tuple #[.agg #[.int .i64 0, .slice none 0 0, .int .i64 0, .slice none 0 0], .int .i64 15]) (by simp [results, Tryz.results82, go_sem, r]) rfl (Hno.out _ _ K.1)
 · have hd : (t == 0) = false := by simp [ht]
   have hd2 : decide (t < 0) = false := decide_eq_false (by omega)
   have hg : (0 : Int) < (Int.gcd x y : Int) := by have := Int.gcd_pos_of_ne_zero_right x (show y ≠ 0 by omega); omega
   have F3 := gcd_fits (x := x) (show y ≠ 0 by omega) F2
   obtain ⟨g1, g2⟩ := gcd_div (x := x) hy0
   have HGc := Lib.hid (fun s A n cap l t A' n' cap' m W hl hm h1 h2 => uGcd x y s A n cap l t A' n' cap' m W hl hm h1 h2 F1 F2)
   have HD1 := Lib.hid (fun s A n cap l t A' n' cap' m W hl hm h1 h2 => uDiv x (Int.gcd x y : Int) s A n cap l t A' n' cap' m W hl hm h1 h2 F1 F3 (by omega))
   have HD2 := Lib.hid (fun s A n cap l t A' n' cap' m W hl hm h1 h2 => uDiv y (Int.gcd x y : Int) s A n cap l t A' n' cap' m W hl hm h1 h2 F2 F3 (by omega))
   rw [newO_yes (by omega), newE_yes (by omega)]
   have HEnd := Lib.hid (fun s A n cap l t A' n' cap' m W (r1 : RdI W W.heap.size A n cap l) (r2 : RdI W W.heap.size A' n' cap' m) (e1 : Std s l (fq x (Int.gcd x y : Int))) (e2 : Std t m (fq y (Int.gcd x y : Int))) (a1 : FrA w.heap.size A) (a2 : FrA w.heap.size A') (hb : Below w.heap.size w W) => (⟨s, A, n, cap, l, t, A', n', cap', m, rfl, ⟨r1, r2⟩, ⟨by rw [← g1]; exact e1, by rw [← g2]; exact e2⟩, ⟨a1, a2⟩, hb⟩ : FrE w (some (Rat.divInt x y)) 0 (.returned (.tuple #[.agg #[.int .i64 s, .slice A n cap, .int .i64 t, .slice A' n' cap'], .int .i64 0])) W))
   have hs1 := S1; have hs2 := S2
   clear S1 S2 F1 F2 F3 ht hy0 hg g1 g2
   go_enter Tryz.func82, Tryz.ntmps82
   go_wp2_with (first | (refine ZAL ?_; clear K r; intro W b K r) | (refine ZST ?_; clear K r; intro W K r))
   refine (HR1.out _ ZRD).mono ?_
   rintro e W' ⟨rfl, hb⟩
   replace K := K.keep hb
   clear r
   have r := K.rawS
   clear hb
   go_wp2_with (first | (refine ZAL ?_; clear K r; intro W b K r) | (refine ZST ?_; clear K r; intro W K r))
   refine (HR2.out _ ZRD).mono ?_
   rintro e W' ⟨rfl, hb⟩
   replace K := K.keep hb
   clear r
   have r := K.rawS
   clear hb
   exact ZL16
 · have hd : (t == 0) = false := by simp [ht]
   have hd2 : decide (t < 0) = true := decide_eq_true (by omega)
   have hy1 : 0 < -y := by omega
   have hg : (0 : Int) < (Int.gcd (-x) (-y) : Int) := by have := Int.gcd_pos_of_ne_zero_right (-x) (show -y ≠ 0 by omega); omega
   have F1' := fits_neg F1
   have F2' := fits_neg F2
   have F3 := gcd_fits (x := -x) (show -y ≠ 0 by omega) F2'
   obtain ⟨g1, g2⟩ := gcd_div (x := -x) hy1
   rw [divInt_opp] at g1 g2
   have HN1 := Lib.hid (fun W hl => uNeg x s A n cap l W hl S1 F1)
   have HN2 := Lib.hid (fun W hl => uNeg y t A' n' cap' m W hl S2 F2)
   have HGc := Lib.hid (fun s A n cap l t A' n' cap' m W hl hm h1 h2 => uGcd (-x) (-y) s A n cap l t A' n' cap' m W hl hm h1 h2 F1' F2')
   have HD1 := Lib.hid (fun s A n cap l t A' n' cap' m W hl hm h1 h2 => uDiv (-x) (Int.gcd (-x) (-y) : Int) s A n cap l t A' n' cap' m W hl hm h1 h2 F1' F3 (by omega))
   have HD2 := Lib.hid (fun s A n cap l t A' n' cap' m W hl hm h1 h2 => uDiv (-y) (Int.gcd (-x) (-y) : Int) s A n cap l t A' n' cap' m W hl hm h1 h2 F2' F3 (by omega))
   rw [newO_yes (by omega), newE_yes (by omega)]
   have HEnd := Lib.hid (fun s A n cap l t A' n' cap' m W (r1 : RdI W W.heap.size A n cap l) (r2 : RdI W W.heap.size A' n' cap' m) (e1 : Std s l (fq (-x) (Int.gcd (-x) (-y) : Int))) (e2 : Std t m (fq (-y) (Int.gcd (-x) (-y) : Int))) (a1 : FrA w.heap.size A) (a2 : FrA w.heap.size A') (hb : Below w.heap.size w W) => (⟨s, A, n, cap, l, t, A', n', cap', m, rfl, ⟨r1, r2⟩, ⟨by rw [← g1]; exact e1, by rw [← g2]; exact e2⟩, ⟨a1, a2⟩, hb⟩ : FrE w (some (Rat.divInt x y)) 0 (.returned (.tuple #[.agg #[.int .i64 s, .slice A n cap, .int .i64 t, .slice A' n' cap'], .int .i64 0])) W))
   clear S1 S2 F1 F2 F3 F1' F2' ht hy0 hy1 hg g1 g2
   go_enter Tryz.func82, Tryz.ntmps82
   go_wp2_with (first | (refine ZAL ?_; clear K r; intro W b K r) | (refine ZST ?_; clear K r; intro W K r))
   refine (HR1.out _ ZRD).mono ?_
   rintro e W' ⟨rfl, hb⟩
   replace K := K.keep hb
   clear r
   have r := K.rawS
   clear hb
   go_wp2_with (first | (refine ZAL ?_; clear K r; intro W b K r) | (refine ZST ?_; clear K r; intro W K r))
   refine (HR2.out _ ZRD).mono ?_
   rintro e W' ⟨rfl, hb⟩
   replace K := K.keep hb
   clear r
   have r := K.rawS
   clear hb
   go_wp2_with (first | (refine ZAL ?_; clear K r; intro W b K r) | (refine ZST ?_; clear K r; intro W K r))
   refine (HN1.out _ ZRD).mono ?_
   rintro e W' ⟨s1, A1, n1, c1, l1, rfl, hr, hs1, hf, hb⟩
   have hf1 := Lib.hid (hf.mono K.1.size)
   replace K := K.ret hb hr hf
   clear r
   have r := K.rawS
   clear hr hf hb
   go_wp2_with (first | (refine ZAL ?_; clear K r; intro W b K r) | (refine ZST ?_; clear K r; intro W K r))
   refine (HN2.out _ ZRD).mono ?_
   rintro e W' ⟨s2, A2, n2, c2, l2, rfl, hr, hs2, hf, hb⟩
   have hf2 := Lib.hid (hf.mono K.1.size)
   replace K := K.ret hb hr hf
   clear r
   have r := K.rawS
   clear hr hf hb
   exact ZL16
theorem uNew (x y : Int) (s : Int) (A : Option Addr) (n cap : Nat) (l : List Int) (t : Int) (A' : Option Addr) (n' cap' : Nat) (m : List Int) (W : World) (hl : RdI W W.heap.size A n cap l) (hm : RdI W W.heap.size A' n' cap' m) (h1 : Std s l x) (h2 : Std t m y) (f1 : fits x = true) (f2 : fits y = true) :
 Calls Tryz.prog 82 #[.agg #[.int .i64 s, .slice A n cap], .agg #[.int .i64 t, .slice A' n' cap']] W (FrE W (newO true x y) (newE true y)) := by
 have h := gNew_any s t A A' n cap n' cap' l m W hl hm
 rw [h1.right f1, h2.right f2, h1.val, h2.val] at h
 exact h
theorem gOf_any (p q : Int) (w : World) (hp : -9223372036854775808 ≤ p ∧ p ≤ 9223372036854775807) (hq : -9223372036854775808 ≤ q ∧ q ≤ 9223372036854775807) :
 Calls Tryz.prog 35 #[.int .i64 p, .int .i64 q] w (FrE w (newO true p q) (newE true q)) := by
 have K := St.start w
 have r := K.raw
 have HO1 := Lib.hid (fun W => eOf_any p W hp)
 have HO2 := Lib.hid (fun W => eOf_any q W hq)
 have HN := Lib.hid (fun s A n cap l t A' n' cap' m W hl hm h1 h2 => uNew p q s A n cap l t A' n' cap' m W hl hm h1 h2 (fits_small (by omega)) (fits_small (by omega)))
 generalize newO true p q = O at *
 generalize newE true q = E at *
 clear hp hq
 go_enter Tryz.func35, Tryz.ntmps35
 go_wp2_with (first | (refine ZAL ?_; clear K r; intro W b K r) | (refine ZST ?_; clear K r; intro W K r))
 refine (HO1.out _).mono ?_
 rintro e W' ⟨s1, A1, n1, c1, l1, rfl, hr, hs1, hf, hb⟩
 have hf1 := Lib.hid (hf.mono K.1.size)
 replace K := K.ret hb hr hf
 clear r
 have r := K.rawS
 clear hr hf hb
 go_wp2_with (first | (refine ZAL ?_; clear K r; intro W b K r) | (refine ZST ?_; clear K r; intro W K r))
 refine (HO2.out _).mono ?_
 rintro e W' ⟨s2, A2, n2, c2, l2, rfl, hr, hs2, hf, hb⟩
 have hf2 := Lib.hid (hf.mono K.1.size)
 replace K := K.ret hb hr hf
 clear r
 have r := K.rawS
 clear hr hf hb
 go_wp2_with (first | (refine ZAL ?_; clear K r; intro W b K r) | (refine ZST ?_; clear K r; intro W K r))
 refine (HN.out _ _ _ _ _ _ _ _ _ _ _ ZRD ZRD hs1 hs2).mono ?_
 rintro e W' ⟨s3, A3, n3, c3, l3, t3, B3, m3, d3, k3, rfl, ⟨hra, hrb⟩, ho, ⟨hfa, hfb⟩, hb⟩
 have hf3 := Lib.hid (hfa.mono K.1.size)
 have hg3 := Lib.hid (hfb.mono K.1.size)
 replace K := K.retF hb hra hrb hfa hfb
 clear r
 have r := K.rawS
 clear hra hrb hfa hfb hb
 go_wp2_with (first | (refine ZAL ?_; clear K r; intro W b K r) | (refine ZST ?_; clear K r; intro W K r))
 have HE := Lib.hid (⟨s3, A3, n3, c3, l3, t3, B3, m3, d3, k3, rfl, ⟨ZRD, ZRD⟩, ho, ⟨hf3.out, hg3.out⟩, K.1⟩ : FrE w O E (.returned (.tuple #[.agg #[.int .i64 s3, .slice A3 n3 c3, .int .i64 t3, .slice B3 m3 d3], .int .i64 E])) W)
 clear hs1 hs2 ho
 exact bodyPost_ret (v := .tuple #[.agg #[.int .i64 s3, .slice A3 n3 c3, .int .i64 t3, .slice B3 m3 d3], .int .i64 E]) (by simp [results, Tryz.results35, go_sem, r]) rfl HE.out
def madO (bad : Bool) (x y : Int) : Option Rat := if bad = true then none else newO true x y
def madE (bad : Bool) (y : Int) : Int := if bad = true then 6 else newE true y
theorem gmade_any (bad : Bool) (x y : Int) (s : Int) (A : Option Addr) (n cap : Nat) (l : List Int) (t : Int) (A' : Option Addr) (n' cap' : Nat) (m : List Int) (w : World) (hl : RdI w w.heap.size A n cap l) (hm : RdI w w.heap.size A' n' cap' m) (h1 : Std s l x) (h2 : Std t m y) (f1 : fits x = true) (f2 : fits y = true) :
 Calls Tryz.prog 96 #[.agg #[.int .i64 s, .slice A n cap], .agg #[.int .i64 t, .slice A' n' cap'], .bool bad] w (FrE w (madO bad x y) (madE bad y)) := by
 have K := ((St.start w).oldRd hl).oldRd hm
 have r := K.raw
 have Hno := Lib.hid (fun W (c : Int) (h : Below w.heap.size w W) => (⟨0, none, 0, 0, [], 0, none, 0, 0, [], rfl, ⟨Rd.nil, Rd.nil⟩, ⟨rfl, rfl, rfl, rfl⟩, ⟨FrA.none, FrA.none⟩, h⟩ : FrE w none c (.returned (.tuple #[.agg #[.int .i64 0, .slice none 0 0, .int .i64 0, .slice none 0 0], .int .i64 c])) W))
 cases bad
 case true =>
  have e1 : madO true x y = none := if_pos rfl
  have e2 : madE true y = 6 := if_pos rfl
  rw [e1, e2]
  clear e1 e2 h1 h2 f1 f2
  go_enter Tryz.func96, Tryz.ntmps96
  go_wp2_with (first | (refine ZAL ?_; clear K r; intro W b K r) | (refine ZST ?_; clear K r; intro W K r))
  exact bodyPost_ret (v := .tuple #[.agg #[.int .i64 0, .slice none 0 0, .int .i64 0, .slice none 0 0], .int .i64 6]) (by simp [results, Tryz.results96, go_sem, r]) rfl (Hno.out _ _ K.1)
 have HN := Lib.hid (fun W hl hm => uNew x y s A n cap l t A' n' cap' m W hl hm h1 h2 f1 f2)
 have e1 : madO false x y = newO true x y := if_neg (by simp)
 have e2 : madE false y = newE true y := if_neg (by simp)
 rw [e1, e2]
 generalize newO true x y = O at *
 generalize newE true y = E at *
 clear e1 e2 h1 h2 f1 f2
 go_enter Tryz.func96, Tryz.ntmps96
 go_wp2_with (first | (refine ZAL ?_; clear K r; intro W b K r) | (refine ZST ?_; clear K r; intro W K r))
 refine (HN.out _ ZRD ZRD).mono ?_
 rintro e W' ⟨s3, A3, n3, c3, l3, t3, B3, m3, d3, k3, rfl, ⟨hra, hrb⟩, ho, ⟨hfa, hfb⟩, hb⟩
 have hf3 := Lib.hid (hfa.mono K.1.size)
 have hg3 := Lib.hid (hfb.mono K.1.size)
 replace K := K.retF hb hra hrb hfa hfb
 clear r
 have r := K.rawS
 clear hra hrb hfa hfb hb
 go_wp2_with (first | (refine ZAL ?_; clear K r; intro W b K r) | (refine ZST ?_; clear K r; intro W K r))
 have HE := Lib.hid (show FrE w O E (.returned (.tuple #[.agg #[.int .i64 s3, .slice A3 n3 c3, .int .i64 t3, .slice B3 m3 d3], .int .i64 E])) W from ⟨s3, A3, n3, c3, l3, t3, B3, m3, d3, k3, rfl, ⟨ZRD, ZRD⟩, ho, ⟨hf3.out, hg3.out⟩, K.1⟩)
 clear ho
 exact bodyPost_ret (v := .tuple #[.agg #[.int .i64 s3, .slice A3 n3 c3, .int .i64 t3, .slice B3 m3 d3], .int .i64 E]) (by simp [results, Tryz.results96, go_sem, r]) rfl HE.out
theorem gsamebig_any (s t : Int) (A A2 : Option Addr) (n cap n2 cap2 : Nat) (a b : List Int) (w : World) (ha : RdI w w.heap.size A n cap a) (hb : RdI w w.heap.size A2 n2 cap2 b) :
 Calls Tryz.prog 105 #[.agg #[.int .i64 s, .slice A n cap], .agg #[.int .i64 t, .slice A2 n2 cap2]] w fun e w' => e = .returned (.bool (sameB s a t b)) ∧ Below w.heap.size w w' := by
 have K := ((St.start w).oldRd ha).oldRd hb
 have r := K.raw
 have hla := ha.len
 have hlb := hb.len
 have hca := ha.caps
 have hcb := hb.caps
 clear ha hb
 by_cases hst : s = t
 case neg =>
  have hd : (s != t) = true := by simp [hst]
  have hR : sameB s a t b = false := by unfold sameB; exact decide_eq_false fun h => hst h.1
  rw [hR]
  clear hR hst hla hlb
  go_enter Tryz.func105, Tryz.ntmps105
  exact ZL14
 subst hst
 have hd : (s != s) = false := by simp
 by_cases hnn : n = n2
 case neg =>
  have hd2 : ((n : Int) != (n2 : Int)) = true := by simp; omega
  have hR : sameB s a s b = false := by unfold sameB; exact decide_eq_false fun h => hnn (by rw [← hla, ← hlb, h.2])
  rw [hR]
  clear hR hnn hla hlb
  go_enter Tryz.func105, Tryz.ntmps105
  exact ZL14
 subst hnn
 have hd2 : ((n : Int) != (n : Int)) = false := by simp
 have HEq := Lib.hid (show (∀ j, j < n → gi a j = gi b j) → sameB s a s b = true from fun h => by unfold sameB; exact decide_eq_true ⟨rfl, gi_list (by omega) (by rw [hla]; exact h)⟩)
 have HNe := Lib.hid (show ∀ j, j < n → gi a j ≠ gi b j → sameB s a s b = false from fun j _ h => by unfold sameB; exact decide_eq_false fun h1 => h (by rw [h1.2]))
 generalize sameB s a s b = R at *
 clear hla hlb
 go_enter Tryz.func105, Tryz.ntmps105
 go_wp2_with (first | (refine ZAL ?_; clear K r; (first | ((fail_if_success revert b0); intro W b0 K r) | ((fail_if_success revert b1); intro W b1 K r) | intro W b K r)) | (refine ZST ?_; clear K r; intro W K r))
 go_loopg [5] n (fun gk i wr => ∃ k : Nat, k ≤ n ∧ gk = n - k ∧ i = .int .i64 k ∧ (∀ j, j < k → gi a j = gi b j) ∧ St w [(b1, #[.int .i64 s, .slice A2 n cap2], 48), (b0, #[.int .i64 s, .slice A n cap], 48)] [⟨rdP A2 n cap2 b, oldS w⟩, ⟨rdP A n cap a, oldS w⟩] wr)
 case atStart => exact ⟨0, Nat.zero_le _, rfl, rfl, (fun j hj => absurd hj (by omega)), K⟩
 case round =>
  exact ZL15
def sameF (s1 : Int) (l1 : List Int) (t1 : Int) (k1 : List Int) (s2 : Int) (l2 : List Int) (t2 : Int) (k2 : List Int) : Bool := sameB s1 l1 s2 l2 && sameB t1 k1 t2 k2
theorem gsame_any (s1 t1 s2 t2 : Int) (A1 B1 A2 B2 : Option Addr) (n1 c1 m1 d1 n2 c2 m2 d2 : Nat) (l1 k1 l2 k2 : List Int) (w : World) (r1 : RdI w w.heap.size A1 n1 c1 l1) (q1 : RdI w w.heap.size B1 m1 d1 k1) (r2 : RdI w w.heap.size A2 n2 c2 l2) (q2 : RdI w w.heap.size B2 m2 d2 k2) :
 Calls Tryz.prog 50 #[.agg #[.int .i64 s1, .slice A1 n1 c1, .int .i64 t1, .slice B1 m1 d1], .agg #[.int .i64 s2, .slice A2 n2 c2, .int .i64 t2, .slice B2 m2 d2]] w fun e w' => e = .returned (.bool (sameF s1 l1 t1 k1 s2 l2 t2 k2)) ∧ Below w.heap.size w w' := by
 have K := ((((St.start w).oldRd r1).oldRd q1).oldRd r2).oldRd q2
 have r := K.raw
 have H1 := Lib.hid (fun W h g => gsamebig_any s1 s2 A1 A2 n1 c1 n2 c2 l1 l2 W h g)
 have H2 := Lib.hid (fun W h g => gsamebig_any t1 t2 B1 B2 m1 d1 m2 d2 k1 k2 W h g)
 unfold sameF
 clear r1 q1 r2 q2
 cases h1 : sameB s1 l1 s2 l2
 · rw [h1] at H1
   rw [Bool.false_and]
   clear h1
   go_enter Tryz.func50, Tryz.ntmps50
   go_wp2_with (first | (refine ZAL ?_; clear K r; (first | ((fail_if_success revert b0); intro W b0 K r) | ((fail_if_success revert b1); intro W b1 K r) | intro W b K r)) | (refine ZST ?_; clear K r; intro W K r))
   refine (H1.out _ ZRD ZRD).mono ?_
   rintro e W' ⟨rfl, hb⟩
   replace K := K.keep hb
   clear r
   have r := K.rawS
   clear hb
   exact ZL14
 · rw [h1] at H1
   rw [Bool.true_and]
   clear h1
   generalize sameB t1 k1 t2 k2 = R at *
   go_enter Tryz.func50, Tryz.ntmps50
   go_wp2_with (first | (refine ZAL ?_; clear K r; (first | ((fail_if_success revert b0); intro W b0 K r) | ((fail_if_success revert b1); intro W b1 K r) | intro W b K r)) | (refine ZST ?_; clear K r; intro W K r))
   refine (H1.out _ ZRD ZRD).mono ?_
   rintro e W' ⟨rfl, hb⟩
   replace K := K.keep hb
   clear r
   have r := K.rawS
   clear hb
   go_wp2_with (first | (refine ZAL ?_; clear K r; (first | ((fail_if_success revert b0); intro W b0 K r) | ((fail_if_success revert b1); intro W b1 K r) | intro W b K r)) | (refine ZST ?_; clear K r; intro W K r))
   refine (H2.out _ ZRD ZRD).mono ?_
   rintro e W' ⟨rfl, hb⟩
   replace K := K.keep hb
   clear r
   have r := K.rawS
   clear hb
   exact ZL14
def fewF (n m : Nat) (N : Int) : Bool := decide ((n : Int) ≤ N) && decide ((m : Int) ≤ N)
theorem gfew_any (s t : Int) (A A' : Option Addr) (n cap n' cap' : Nat) (N : Int) (w : World) :
 Calls Tryz.prog 37 #[.agg #[.int .i64 s, .slice A n cap, .int .i64 t, .slice A' n' cap'], .int .i64 N] w fun e w' => e = .returned (.bool (fewF n n' N)) ∧ Below w.heap.size w w' := by
 have K := St.start w
 have r := K.raw
 unfold fewF
 cases h1 : decide ((n : Int) ≤ N)
 · rw [Bool.false_and]
   go_enter Tryz.func37, Tryz.ntmps37
   exact ZL14
 · rw [Bool.true_and]
   cases h2 : decide ((n' : Int) ≤ N)
   all_goals
    go_enter Tryz.func37, Tryz.ntmps37
    exact ZL14
end Go.Proofs.YtdlcglndhhndpaaGreat
