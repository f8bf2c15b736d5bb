/- Laws and walks; conditions stand in each theorem. -/
import Derived.Deep.CutRange
import Derived.Deep.CutBlock
import Derived.Test.YtdlcglndhhndpaaGreatL04
import Derived.Test.YtdlcglndhhndpaaGreatL02
set_option linter.unusedSimpArgs false
set_option linter.unusedVariables false
set_option maxHeartbeats 2000000
set_option maxRecDepth 100000
namespace Go.Proofs.YtdlcglndhhndpaaGreat
open Go.RowKit
theorem ZL13 {p : Prop} (h : p := by
 first
  | (go_wp2_with (first | (refine ZAL ?_; clear K r; (first | ((fail_if_success revert b0); intro W b0 K r) | ((fail_if_success revert b1); intro W b1 K r) | ((fail_if_success revert b2); intro W b2 K r) | intro W b K r)) | (refine ZST ?_; clear K r; intro W K r))
     refine (HGc.out _ _ _ _ _ _ _ _ _ _ _ ZRD ZRD hs1 hs2).mono ?_
     rintro e W' ⟨s3, A3, n3, c3, l3, rfl, hr, hs3, hf, hb⟩
     replace K := K.ret hb hr hf
     clear r
     have r := K.rawS
     clear hr hf hb
     go_wp2_with (first | (refine ZAL ?_; clear K r; (first | ((fail_if_success revert b0); intro W b0 K r) | ((fail_if_success revert b1); intro W b1 K r) | ((fail_if_success revert b2); intro W b2 K r) | intro W b K r)) | (refine ZST ?_; clear K r; intro W K r))
     refine (HD1.out _ _ _ _ _ _ _ _ _ _ _ ZRD ZRD hs1 hs3).mono ?_
     rintro e W' ⟨s4, A4, n4, c4, l4, s5, A5, n5, c5, l5, rfl, ⟨hr, hs4, hf⟩, -, hb⟩
     have hf4 := Lib.hid (hf.mono K.1.size)
     replace K := K.ret hb hr hf
     clear r
     have r := K.rawS
     clear hr hf hb
     go_wp2_with (first | (refine ZAL ?_; clear K r; (first | ((fail_if_success revert b0); intro W b0 K r) | ((fail_if_success revert b1); intro W b1 K r) | ((fail_if_success revert b2); intro W b2 K r) | intro W b K r)) | (refine ZST ?_; clear K r; intro W K r))
     refine (HD2.out _ _ _ _ _ _ _ _ _ _ _ ZRD ZRD hs2 hs3).mono ?_
     rintro e W' ⟨s6, A6, n6, c6, l6, s7, A7, n7, c7, l7, rfl, ⟨hr, hs6, hf⟩, -, hb⟩
     have hf6 := Lib.hid (hf.mono K.1.size)
     replace K := K.ret hb hr hf
     clear r
     have r := K.rawS
     clear hr hf hb
     go_wp2_with (first | (refine ZAL ?_; clear K r; (first | ((fail_if_success revert b0); intro W b0 K r) | ((fail_if_success revert b1); intro W b1 K r) | ((fail_if_success revert b2); intro W b2 K r) | intro W b K r)) | (refine ZST ?_; clear K r; intro W K r))
     have HE := Lib.hid (HEnd.out _ _ _ _ _ _ _ _ _ _ _ ZRD ZRD hs4 hs6 hf4.out hf6.out K.1)
     clear hs1 hs2 hs3 hs4 hs6
     exact bodyPost_ret (v := .tuple #[.agg #[.int .i64 s4, .slice A4 n4 c4, .int .i64 s6, .slice A6 n6 c6], .int .i64 0]) (by simp [results, Tryz.results90, go_sem, r]) rfl HE.out)
  | fail) : p := h
theorem ZL35 {p : Prop} (h : p := by
 first
  | (rintro e W' ⟨rfl, hb⟩
     replace K := K.keep hb
     clear r
     have r := K.rawS
     clear hb
     go_wp2_with (first | (refine ZAL ?_; clear K r; (first | ((fail_if_success revert b0); intro W b0 K r) | ((fail_if_success revert b1); intro W b1 K r) | ((fail_if_success revert b2); intro W b2 K r) | intro W b K r)) | (refine ZST ?_; clear K r; intro W K r))
     exact bodyPost_ret (v := .tuple #[.agg #[.int .i64 0, .slice none 0 0, .int .i64 0, .slice none 0 0], .int .i64 1]) (by simp [results, Tryz.results90, go_sem, r]) rfl (Hno.out _ _ K.1))
  | fail) : p := h
theorem ZL17 {p : Prop} (h : p := by
 first
  | (go_wp2_with (first | (refine ZAL ?_; clear K r; intro W b K r) | (refine ZST ?_; clear K r; intro W K r))
     refine (HR1.out _ ZRD).mono ?_
     rintro e W' ⟨rfl, hb⟩
     replace K := K.keep hb
     clear r
     have r := K.rawS
     clear hb
     go_wp2_with (first | (refine ZAL ?_; clear K r; intro W b K r) | (refine ZST ?_; clear K r; intro W K r))
     refine (HR2.out _ ZRD).mono ?_
     rintro e W' ⟨rfl, hb⟩
     replace K := K.keep hb
     clear r
     have r := K.rawS
     clear hb
     go_wp2
     go_ret
     exact ⟨rfl, K.1⟩)
  | fail) : p := h
theorem ZL18 {p : Prop} (h : p := by
 first
  | (rintro e W' ⟨rfl, hb⟩
     replace K := K.keep hb
     clear r
     have r := K.rawS
     clear hb
     go_wp2
     go_ret
     exact ⟨rfl, K.1⟩)
  | fail) : p := h
theorem ZL61 {p : Prop} (h : p := by
 first
  | (go_enter Tryz.func99, Tryz.ntmps99
     go_wp2_with (first | (refine ZAL ?_; clear K r; intro W b K r) | (refine ZST ?_; clear K r; intro W K r))
     refine (HI.out _ ZRD).mono ?_
     rintro e W' ⟨rfl, hb⟩
     replace K := K.keep hb
     clear r
     have r := K.rawS
     clear hb
     go_wp2
     go_ret
     exact ⟨by rw [HO.out]; rfl, K.1⟩)
  | fail) : p := h
theorem ZL78 {p : Prop} (h : p := by
 first
  | (have ht : t ≠ 0 := fun e => by
       rcases h2.signs with ⟨-, -, h⟩ | ⟨-, h, -⟩ | ⟨-, h, -⟩
       · exact hy h
       · omega
       · omega
     rw [h1.right f1, h2.right f2, h1.val, h2.val, if_neg (by simp), if_neg ht] at h
     exact h)
  | fail) : p := h
theorem ZL89 {p : Prop} (h : p := by
 first
  | (rw [h1.right f1, h2.right f2, h1.val, h2.val] at h
     exact h)
  | fail) : p := h
theorem ZL91 {p : Prop} (h : p := by
 first
  | (rw [h1.right f1, h2.right f2, h1.val, h2.val] at h
     have e1 : gcdZ (true && true) x y = (Int.gcd x y : Int) := by unfold gcdZ; simp
     have e2 : okE (true && true) = 0 := rfl
     rw [e1, e2] at h
     exact h)
  | fail) : p := h
theorem ZL115 {p : Prop} (h : p := by
 first
  | (have e : cmpB s l t m = cmpI x y := by
       unfold cmpB
       rw [if_pos ⟨h1.right f1, h2.right f2⟩, h1.val, h2.val]
     rw [e] at h
     exact h)
  | fail) : p := h
def oneB (s : Int) (l : List Int) : Bool := rightB s l && decide (bval s l = 1)
theorem fone_any (s : Int) (A : Option Addr) (n cap : Nat) (l : List Int) (w : World) (hl : RdI w w.heap.size A n cap l) :
 Calls Tryz.prog 99 #[.agg #[.int .i64 s, .slice A n cap]] w fun e w' => e = .returned (.bool (oneB s l)) ∧ Below w.heap.size w w' := by
 have K := (St.start w).oldRd hl
 have r := K.raw
 have HI := Lib.hid (bInt_any s A n cap l)
 have HV : intC s l = true ∧ intV s l = 1 ↔ oneB s l = true := by
  unfold oneB intV intC
  simp only [Bool.and_eq_true, decide_eq_true_eq]
  by_cases h : rightB s l = true
  · by_cases h2 : -9223372036854775808 ≤ bval s l ∧ bval s l ≤ 9223372036854775807
    · rw [if_pos ⟨h, h2⟩]; simp [h, h2]
    · rw [if_neg (fun h3 => h2 h3.2)]; simp; omega
  · simp [h]
 cases hc : intC s l
 · have HO := Lib.hid (show oneB s l = false from by
    cases h : oneB s l
    · rfl
    · rw [hc] at HV; exact absurd (HV.2 h).1 (by simp))
   rw [hc] at HI
   clear HV hc
   exact ZL61
 · rw [hc] at HI
   have hd : (intV s l == 1) = decide (intV s l = 1) := by
    by_cases h : intV s l = 1 <;> simp [h]
   have HO := Lib.hid (show oneB s l = (intV s l == 1) from by
    rw [hd]
    by_cases h : intV s l = 1
    · rw [decide_eq_true h]; exact HV.1 ⟨hc, h⟩
    · rw [decide_eq_false h]
      cases h2 : oneB s l
      · rfl
      · exact absurd (HV.2 h2).2 h)
   clear HV hc hd
   generalize intV s l = V at *
   exact ZL61
theorem oneB_std {s : Int} {l : List Int} {z : Int} (h : Std s l z) (hf : fits z = true) : oneB s l = decide (z = 1) := by
 unfold oneB
 rw [h.right hf, h.val, Bool.true_and]
theorem gcd_fits {x y : Int} (hy : y ≠ 0) (h : fits y = true) : fits (Int.gcd x y : Int) = true := fits_le h (by
 have : Int.gcd x y ≤ y.natAbs := Nat.gcd_le_right _ (by omega)
 omega)
theorem fRight_any (s t : Int) (A A' : Option Addr) (n cap n' cap' : Nat) (l m : List Int) (w : World) (hl : RdI w w.heap.size A n cap l) (hm : RdI w w.heap.size A' n' cap' m) :
 Calls Tryz.prog 45 #[.agg #[.int .i64 s, .slice A n cap, .int .i64 t, .slice A' n' cap']] w fun e w' => e = .returned (.bool (rightF s l t m)) ∧ Below w.heap.size w w' := by
 have K := ((St.start w).oldRd hl).oldRd hm
 have r := K.raw
 have HR1 := Lib.hid (fun W h => bright_any s A n cap l W h)
 have HR2 := Lib.hid (fun W h => bright_any t A' n' cap' m W h)
 have hF : ¬ (rightB s l = true ∧ rightB t m = true ∧ t = 1) → rightF s l t m = false := fun h => by
  cases hr : rightF s l t m
  · rfl
  · obtain ⟨h1, h2, h3, -⟩ := rightF_iff.1 hr
    exact absurd ⟨h1, h2, h3⟩ h
 cases h1 : rightB s l
 · rw [hF (by simp [h1])]
   rw [h1] at HR1
   clear hF h1
   go_enter Tryz.func45, Tryz.ntmps45
   go_wp2_with (first | (refine ZAL ?_; clear K r; intro W b K r) | (refine ZST ?_; clear K r; intro W K r))
   refine (HR1.out _ ZRD).mono ?_
   exact ZL18
 cases h2 : rightB t m
 · rw [hF (by simp [h2])]
   rw [h1] at HR1
   rw [h2] at HR2
   clear hF h1 h2
   go_enter Tryz.func45, Tryz.ntmps45
   exact ZL17
 rw [h1] at HR1
 rw [h2] at HR2
 by_cases ht : t = 1
 case neg =>
  have hd : (t != 1) = true := by simp [ht]
  rw [hF (fun h => ht h.2.2)]
  clear hF h1 h2 ht
  go_enter Tryz.func45, Tryz.ntmps45
  exact ZL17
 have hd : (t != 1) = false := by simp [ht]
 have hp := rightB_pos h2 ht
 have HG := Lib.hid (bGcd_any s t A A' n cap n' cap' l m)
 have hG : gcdZ (rightB s l && rightB t m) (bval s l) (bval t m) = (Int.gcd (bval s l) (bval t m) : Int) := by rw [h1, h2]; unfold gcdZ; simp
 have hE : okE (rightB s l && rightB t m) = 0 := by rw [h1, h2]; rfl
 rw [hG, hE] at HG
 have HO := Lib.hid (fun s' l' (h : Std s' l' (Int.gcd (bval s l) (bval t m) : Int)) => (show oneB s' l' = rightF s l t m from by
  rw [oneB_std h (gcd_fits (by omega) (fits_of_right h2))]
  unfold rightF
  rw [h1, h2, decide_eq_true ht]
  simp only [Bool.true_and]
  exact decide_eq_decide.2 (by omega)))
 generalize rightF s l t m = RF at *
 generalize (Int.gcd (bval s l) (bval t m) : Int) = G at *
 clear hF h1 h2 ht hp hG hE
 go_enter Tryz.func45, Tryz.ntmps45
 go_wp2_with (first | (refine ZAL ?_; clear K r; intro W b K r) | (refine ZST ?_; clear K r; intro W K r))
 refine (HR1.out _ ZRD).mono ?_
 rintro e W' ⟨rfl, hb⟩
 replace K := K.keep hb
 clear r
 have r := K.rawS
 clear hb
 go_wp2_with (first | (refine ZAL ?_; clear K r; intro W b K r) | (refine ZST ?_; clear K r; intro W K r))
 refine (HR2.out _ ZRD).mono ?_
 rintro e W' ⟨rfl, hb⟩
 replace K := K.keep hb
 clear r
 have r := K.rawS
 clear hb
 go_wp2_with (first | (refine ZAL ?_; clear K r; intro W b K r) | (refine ZST ?_; clear K r; intro W K r))
 refine (HG.out _ ZRD ZRD).mono ?_
 rintro e W' ⟨s1, A1, n1, c1, l1, rfl, hr, hs, hf, hb⟩
 replace K := K.ret hb hr hf
 clear r
 have r := K.rawS
 have HO1 := Lib.hid (HO.out _ _ hs)
 clear hr hs hf hb
 go_wp2_with (first | (refine ZAL ?_; clear K r; intro W b K r) | (refine ZST ?_; clear K r; intro W K r))
 refine (fone_any _ _ _ _ _ _ ZRD).mono ?_
 rintro e W' ⟨rfl, hb⟩
 replace K := K.keep hb
 clear r
 have r := K.rawS
 clear hb
 go_wp2
 go_ret
 exact ⟨by rw [← HO1.out]; rfl, K.1⟩
section
variable (x y : Int) (s : Int) (A : Option Addr) (n cap : Nat) (l : List Int) (t : Int) (A' : Option Addr) (n' cap' : Nat) (m : List Int) (W : World)
variable (hl : RdI W W.heap.size A n cap l) (hm : RdI W W.heap.size A' n' cap' m) (h1 : Std s l x) (h2 : Std t m y) (f1 : fits x = true) (f2 : fits y = true)
include hl hm h1 h2 f1 f2
theorem vGcd : Calls Tryz.prog 98 #[.agg #[.int .i64 s, .slice A n cap], .agg #[.int .i64 t, .slice A' n' cap']] W (BigE W (Int.gcd x y : Int) 0) := by
 have h := bGcd_any s t A A' n cap n' cap' l m W hl hm
 exact ZL91
theorem vDiv (hy : y ≠ 0) : Calls Tryz.prog 109 #[.agg #[.int .i64 s, .slice A n cap], .agg #[.int .i64 t, .slice A' n' cap']] W (BigE2 W (fq x y) (fr x y) 0) := by
 have h := bDiv_any s t A A' n cap n' cap' l m W hl hm
 exact ZL78
theorem vMul : Calls Tryz.prog 106 #[.agg #[.int .i64 s, .slice A n cap], .agg #[.int .i64 t, .slice A' n' cap']] W (BigE W (resZ true (x * y)) (errZ true (x * y))) := by
 have h := bMul_any s t A A' n cap n' cap' l m W hl hm
 exact ZL89
theorem vAdd : Calls Tryz.prog 144 #[.agg #[.int .i64 s, .slice A n cap], .agg #[.int .i64 t, .slice A' n' cap']] W (BigE W (resZ true (x + y)) (errZ true (x + y))) := by
 have h := bAdd_any s t A A' n cap n' cap' l m W hl hm
 exact ZL89
theorem vCompare : Calls Tryz.prog 110 #[.agg #[.int .i64 s, .slice A n cap], .agg #[.int .i64 t, .slice A' n' cap']] W fun e w' => e = .returned (.int .i64 (cmpI x y)) ∧ Below W.heap.size W w' := by
 have h := bcompare_any s t A A' n cap n' cap' l m W hl hm
 exact ZL115
end
theorem vNeg (x : Int) (s : Int) (A : Option Addr) (n cap : Nat) (l : List Int) (W : World) (hl : RdI W W.heap.size A n cap l) (h1 : Std s l x) (f1 : fits x = true) : Calls Tryz.prog 93 #[.agg #[.int .i64 s, .slice A n cap]] W (BigR W (-x)) := by
 have h := bneg_any s A n cap l W hl
 have e : negZ s l = -x := by
  unfold negZ
  rw [if_pos (h1.right f1), h1.val]
 rw [e] at h
 exact h
theorem divInt_opp (x y : Int) : Rat.divInt (-x) (-y) = Rat.divInt x y := Rat.neg_divInt_neg x y
theorem fNew_any (s t : Int) (A A' : Option Addr) (n cap n' cap' : Nat) (l m : List Int) (w : World) (hl : RdI w w.heap.size A n cap l) (hm : RdI w w.heap.size A' n' cap' m) :
 Calls Tryz.prog 90 #[.agg #[.int .i64 s, .slice A n cap], .agg #[.int .i64 t, .slice A' n' cap']] w (FrE w (newO (rightB s l && rightB t m) (bval s l) (bval t m)) (newE (rightB s l && rightB t m) (bval t m))) := by
 have K := ((St.start w).oldRd hl).oldRd hm
 have r := K.raw
 have HR1 := Lib.hid (fun W h => bright_any s A n cap l W h)
 have HR2 := Lib.hid (fun W h => bright_any t A' n' cap' m W h)
 have Hno := Lib.hid (fun W (c : Int) (h : Below w.heap.size w W) => (⟨0, none, 0, 0, [], 0, none, 0, 0, [], rfl, ⟨Rd.nil, Rd.nil⟩, ⟨rfl, rfl, rfl, rfl⟩, ⟨FrA.none, FrA.none⟩, h⟩ : FrE w none c (.returned (.tuple #[.agg #[.int .i64 0, .slice none 0 0, .int .i64 0, .slice none 0 0], .int .i64 c])) W))
 cases h1 : rightB s l
 · rw [h1] at HR1
   rw [Bool.false_and, newO_no, newE_no]
   clear h1
   go_enter Tryz.func90, Tryz.ntmps90
   go_wp2_with (first | (refine ZAL ?_; clear K r; (first | ((fail_if_success revert b0); intro W b0 K r) | ((fail_if_success revert b1); intro W b1 K r) | ((fail_if_success revert b2); intro W b2 K r) | intro W b K r)) | (refine ZST ?_; clear K r; intro W K r))
   refine (HR1.out _ ZRD).mono ?_
   exact ZL35
 cases h2 : rightB t m
 · rw [h1] at HR1
   rw [h2] at HR2
   rw [Bool.true_and, newO_no, newE_no]
   clear h1 h2
   go_enter Tryz.func90, Tryz.ntmps90
   go_wp2_with (first | (refine ZAL ?_; clear K r; (first | ((fail_if_success revert b0); intro W b0 K r) | ((fail_if_success revert b1); intro W b1 K r) | ((fail_if_success revert b2); intro W b2 K r) | intro W b K r)) | (refine ZST ?_; clear K r; intro W K r))
   refine (HR1.out _ ZRD).mono ?_
   rintro e W' ⟨rfl, hb⟩
   replace K := K.keep hb
   clear r
   have r := K.rawS
   clear hb
   go_wp2_with (first | (refine ZAL ?_; clear K r; (first | ((fail_if_success revert b0); intro W b0 K r) | ((fail_if_success revert b1); intro W b1 K r) | ((fail_if_success revert b2); intro W b2 K r) | intro W b K r)) | (refine ZST ?_; clear K r; intro W K r))
   refine (HR2.out _ ZRD).mono ?_
   exact ZL35
 rw [h1] at HR1
 rw [h2] at HR2
 rw [Bool.true_and]
 obtain ⟨x, hx⟩ : ∃ x, x = bval s l := ⟨_, rfl⟩
 obtain ⟨y, hy⟩ : ∃ y, y = bval t m := ⟨_, rfl⟩
 have S1 : Std s l x := by rw [hx]; exact Std.of_right h1
 have S2 : Std t m y := by rw [hy]; exact Std.of_right h2
 have F1 : fits x = true := by rw [hx]; exact fits_of_right h1
 have F2 : fits y = true := by rw [hy]; exact fits_of_right h2
 rw [← hx, ← hy]
 clear hx hy h1 h2
 rcases S2.signs with ⟨-, ht, hy0⟩ | ⟨-, ht, hy0⟩ | ⟨-, ht, hy0⟩
 · have hd : (t == 0) = true := by simp [ht]
   rw [hy0, newO_zero, newE_zero]
   clear S1 S2 F1 F2 ht hy0
   go_enter Tryz.func90, Tryz.ntmps90
   go_wp2_with (first | (refine ZAL ?_; clear K r; (first | ((fail_if_success revert b0); intro W b0 K r) | ((fail_if_success revert b1); intro W b1 K r) | ((fail_if_success revert b2); intro W b2 K r) | intro W b K r)) | (refine ZST ?_; clear K r; intro W K r))
   refine (HR1.out _ ZRD).mono ?_
   rintro e W' ⟨rfl, hb⟩
   replace K := K.keep hb
   clear r
   have r := K.rawS
   clear hb
   go_wp2_with (first | (refine ZAL ?_; clear K r; (first | ((fail_if_success revert b0); intro W b0 K r) | ((fail_if_success revert b1); intro W b1 K r) | ((fail_if_success revert b2); intro W b2 K r) | intro W b K r)) | (refine ZST ?_; clear K r; intro W K r))
   refine (HR2.out _ ZRD).mono ?_
   rintro e W' ⟨rfl, hb⟩
   replace K := K.keep hb
   clear r
   have r := K.rawS
   clear hb
   go_wp2_with (first | (refine ZAL ?_; clear K r; (first | ((fail_if_success revert b0); intro W b0 K r) | ((fail_if_success revert b1); intro W b1 K r) | ((fail_if_success revert b2); intro W b2 K r) | intro W b K r)) | (refine ZST ?_; clear K r; intro W K r))
   exact bodyPost_ret (v := .tuple #[.agg #[.int .i64 0, .slice none 0 0, .int .i64 0, .slice none 0 0], .int .i64 15]) (by simp [results, Tryz.results90, go_sem, r]) rfl (Hno.out _ _ K.1)
 · have hd : (t == 0) = false := by simp [ht]
   have hd2 : decide (t < 0) = false := decide_eq_false (by omega)
   have hg : (0 : Int) < (Int.gcd x y : Int) := by have := Int.gcd_pos_of_ne_zero_right x (show y ≠ 0 by omega); omega
   have F3 := gcd_fits (x := x) (show y ≠ 0 by omega) F2
   obtain ⟨g1, g2⟩ := gcd_div (x := x) hy0
   have HGc := Lib.hid (fun s A n cap l t A' n' cap' m W hl hm h1 h2 => vGcd x y s A n cap l t A' n' cap' m W hl hm h1 h2 F1 F2)
   have HD1 := Lib.hid (fun s A n cap l t A' n' cap' m W hl hm h1 h2 => vDiv x (Int.gcd x y : Int) s A n cap l t A' n' cap' m W hl hm h1 h2 F1 F3 (by omega))
   have HD2 := Lib.hid (fun s A n cap l t A' n' cap' m W hl hm h1 h2 => vDiv y (Int.gcd x y : Int) s A n cap l t A' n' cap' m W hl hm h1 h2 F2 F3 (by omega))
   rw [newO_yes (by omega), newE_yes (by omega)]
   have HEnd := Lib.hid (fun s A n cap l t A' n' cap' m W (r1 : RdI W W.heap.size A n cap l) (r2 : RdI W W.heap.size A' n' cap' m) (e1 : Std s l (fq x (Int.gcd x y : Int))) (e2 : Std t m (fq y (Int.gcd x y : Int))) (a1 : FrA w.heap.size A) (a2 : FrA w.heap.size A') (hb : Below w.heap.size w W) => (⟨s, A, n, cap, l, t, A', n', cap', m, rfl, ⟨r1, r2⟩, ⟨by rw [← g1]; exact e1, by rw [← g2]; exact e2⟩, ⟨a1, a2⟩, hb⟩ : FrE w (some (Rat.divInt x y)) 0 (.returned (.tuple #[.agg #[.int .i64 s, .slice A n cap, .int .i64 t, .slice A' n' cap'], .int .i64 0])) W))
   have hs1 := S1; have hs2 := S2
   clear S1 S2 F1 F2 F3 ht hy0 hg g1 g2
   go_enter Tryz.func90, Tryz.ntmps90
   go_wp2_with (first | (refine ZAL ?_; clear K r; (first | ((fail_if_success revert b0); intro W b0 K r) | ((fail_if_success revert b1); intro W b1 K r) | ((fail_if_success revert b2); intro W b2 K r) | intro W b K r)) | (refine ZST ?_; clear K r; intro W K r))
   refine (HR1.out _ ZRD).mono ?_
   rintro e W' ⟨rfl, hb⟩
   replace K := K.keep hb
   clear r
   have r := K.rawS
   clear hb
   go_wp2_with (first | (refine ZAL ?_; clear K r; (first | ((fail_if_success revert b0); intro W b0 K r) | ((fail_if_success revert b1); intro W b1 K r) | ((fail_if_success revert b2); intro W b2 K r) | intro W b K r)) | (refine ZST ?_; clear K r; intro W K r))
   refine (HR2.out _ ZRD).mono ?_
   rintro e W' ⟨rfl, hb⟩
   replace K := K.keep hb
   clear r
   have r := K.rawS
   clear hb
   exact ZL13
 · have hd : (t == 0) = false := by simp [ht]
   have hd2 : decide (t < 0) = true := decide_eq_true (by omega)
   have hy1 : 0 < -y := by omega
   have hg : (0 : Int) < (Int.gcd (-x) (-y) : Int) := by have := Int.gcd_pos_of_ne_zero_right (-x) (show -y ≠ 0 by omega); omega
   have F1' := fits_neg F1
   have F2' := fits_neg F2
   have F3 := gcd_fits (x := -x) (show -y ≠ 0 by omega) F2'
   obtain ⟨g1, g2⟩ := gcd_div (x := -x) hy1
   rw [divInt_opp] at g1 g2
   have HN1 := Lib.hid (fun W hl => vNeg x s A n cap l W hl S1 F1)
   have HN2 := Lib.hid (fun W hl => vNeg y t A' n' cap' m W hl S2 F2)
   have HGc := Lib.hid (fun s A n cap l t A' n' cap' m W hl hm h1 h2 => vGcd (-x) (-y) s A n cap l t A' n' cap' m W hl hm h1 h2 F1' F2')
   have HD1 := Lib.hid (fun s A n cap l t A' n' cap' m W hl hm h1 h2 => vDiv (-x) (Int.gcd (-x) (-y) : Int) s A n cap l t A' n' cap' m W hl hm h1 h2 F1' F3 (by omega))
   have HD2 := Lib.hid (fun s A n cap l t A' n' cap' m W hl hm h1 h2 => vDiv (-y) (Int.gcd (-x) (-y) : Int) s A n cap l t A' n' cap' m W hl hm h1 h2 F2' F3 (by omega))
   rw [newO_yes (by omega), newE_yes (by omega)]
   have HEnd := Lib.hid (fun s A n cap l t A' n' cap' m W (r1 : RdI W W.heap.size A n cap l) (r2 : RdI W W.heap.size A' n' cap' m) (e1 : Std s l (fq (-x) (Int.gcd (-x) (-y) : Int))) (e2 : Std t m (fq (-y) (Int.gcd (-x) (-y) : Int))) (a1 : FrA w.heap.size A) (a2 : FrA w.heap.size A') (hb : Below w.heap.size w W) => (⟨s, A, n, cap, l, t, A', n', cap', m, rfl, ⟨r1, r2⟩, ⟨by rw [← g1]; exact e1, by rw [← g2]; exact e2⟩, ⟨a1, a2⟩, hb⟩ : FrE w (some (Rat.divInt x y)) 0 (.returned (.tuple #[.agg #[.int .i64 s, .slice A n cap, .int .i64 t, .slice A' n' cap'], .int .i64 0])) W))
   clear S1 S2 F1 F2 F3 F1' F2' ht hy0 hy1 hg g1 g2
   go_enter Tryz.func90, Tryz.ntmps90
   go_upto_block 0 with (first | (refine ZAL ?_; clear K r; (first | ((fail_if_success revert b0); intro W b0 K r) | ((fail_if_success revert b1); intro W b1 K r) | ((fail_if_success revert b2); intro W b2 K r) | intro W b K r)) | (refine ZST ?_; clear K r; intro W K r))
   go_cut [] from 14 to 36 (fun wx => ∃ s1 A1 n1 c1 l1 s2 A2 n2 c2 l2 D, St w [(b2, #[.int .i64 0, .slice none 0 0, .int .i64 0, .slice none 0 0], 50), (b1, #[.int .i64 s2, .slice A2 n2 c2], 48), (b0, #[.int .i64 s1, .slice A1 n1 c1], 48)] (⟨rdP A2 n2 c2 l2, rdS A2 n2⟩ :: ⟨rdP A1 n1 c1 l1, rdS A1 n1⟩ :: D) wx ∧ Std s1 l1 (-x) ∧ Std s2 l2 (-y))
   case first =>
    go_wp2_with (first | (refine ZAL ?_; clear K r; (first | ((fail_if_success revert b0); intro W b0 K r) | ((fail_if_success revert b1); intro W b1 K r) | ((fail_if_success revert b2); intro W b2 K r) | intro W b K r)) | (refine ZST ?_; clear K r; intro W K r))
    refine (HR1.out _ ZRD).mono ?_
    rintro e W' ⟨rfl, hb⟩
    replace K := K.keep hb
    clear r
    have r := K.rawS
    clear hb
    go_wp2_with (first | (refine ZAL ?_; clear K r; (first | ((fail_if_success revert b0); intro W b0 K r) | ((fail_if_success revert b1); intro W b1 K r) | ((fail_if_success revert b2); intro W b2 K r) | intro W b K r)) | (refine ZST ?_; clear K r; intro W K r))
    refine (HR2.out _ ZRD).mono ?_
    rintro e W' ⟨rfl, hb⟩
    replace K := K.keep hb
    clear r
    have r := K.rawS
    clear hb
    go_upto_region 6 with fail
    have Kd := K.drew
    have z := K.rawz
    simp only [RawZ, and_true] at z
    have hne := K.rawn
    simp only [RawN, List.mem_cons, List.not_mem_nil, or_false, forall_eq_or_imp, forall_eq, and_true, false_imp_iff, implies_true] at hne
    go_region_with (first
     | (go_at_call 93; (with_reducible refine (HN1.out _ (by first | exact K.rd ZMB | exact Kd.rd ZMB)).mono ?_); rintro e W ⟨s1, A1, n1, c1, l1, rfl, hr, hs1, hf, hb⟩; (first | (replace K := K.ret hb hr hf) | (replace K := Kd.ret hb hr hf)); clear r z hr hf hb; have r := K.raw; have z := K.rawz; simp only [Raw, RawC, RawZ, and_true, true_and, Nat.zero_add, Nat.reduceAdd] at r z)
     | (go_at_call 93; (with_reducible refine (HN2.out _ (by first | exact K.rd ZMB | exact Kd.rd ZMB)).mono ?_); rintro e W ⟨s2, A2, n2, c2, l2, rfl, hr, hs2, hf, hb⟩; (first | (replace K := K.ret hb hr hf) | (replace K := Kd.ret hb hr hf)); clear r z hr hf hb; have r := K.raw; have z := K.rawz; simp only [Raw, RawC, RawZ, and_true, true_and, Nat.zero_add, Nat.reduceAdd] at r z))
    all_goals
     replace K := (K.set2 (u := .int .i64 s1) (v := .slice A1 n1 c1) (b := b0) ZUP).set2 (u := .int .i64 s2) (v := .slice A2 n2 c2) (b := b1) ZUP
     clear r z hne Kd
     go_wp2_with fail
     go_meet
     exact ⟨s1, A1, n1, c1, l1, s2, A2, n2, c2, l2, _, K, hs1, hs2⟩
   case rest =>
    obtain ⟨s1, A1, n1, c1, l1, s2, A2, n2, c2, l2, D, K, hs1, hs2⟩ := hcut
    have r := K.rawS
    exact ZL13
end Go.Proofs.YtdlcglndhhndpaaGreat
