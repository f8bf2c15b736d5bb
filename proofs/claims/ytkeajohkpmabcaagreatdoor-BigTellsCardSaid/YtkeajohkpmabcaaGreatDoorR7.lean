
/- Walk over the law BigTells. Conditions stand in the theorem. -/
import Derived.Test.YtkeajohkpmabcaaGreatDoorS
import Derived.Test.YtkeajohkpmabcaaGreatDoorS
import Derived.Test.YtkeajohkpmabcaaGreatDoorI
import Derived.Test.YtkeajohkpmabcaaGreatDoorJ
import Derived.Test.YtkeajohkpmabcaaGreatDoorE18
import Derived.Test.YtkeajohkpmabcaaGreatDoorE19
import Derived.Test.YtkeajohkpmabcaaGreatDoorO
import Derived.Test.YtkeajohkpmabcaaGreatDoorO
import Derived.Test.YtkeajohkpmabcaaGreatDoorRq
namespace Go.Proofs.YtkeajohkpmabcaaGreatDoor
open Go.RowKit
set_option linter.unusedVariables false
set_option linter.unusedSimpArgs false

theorem eSameZ (z : Int) (s t : Int) (A A2 : Option Addr) (n cap n2 cap2 : Nat) (a b : List Int) (w : World) (ha : RdI w w.heap.size A n cap a) (hb : RdI w w.heap.size A2 n2 cap2 b) (h1 : Std s a z) (h2 : Std t b z) :
    Calls Tryz.prog 17 #[.agg #[.int .i64 s, .slice A n cap], .agg #[.int .i64 t, .slice A2 n2 cap2]] w fun e w' => e = .returned (.bool true) ∧ Below w.heap.size w w' := by
  have h := esame_any s t A A2 n cap n2 cap2 a b w ha hb
  rw [sameB_std h1 h2, decide_eq_true rfl] at h
  exact h
def divZ (ok : Bool) (t z : Int) : Int := if ok = false then 0 else if t = 0 then 0 else z
def divC (ok : Bool) (t : Int) : Int := if ok = false then 1 else if t = 0 then 15 else 0
theorem div_one {w : World} {ok : Bool} {t z z' : Int} : (if ok = false then BigE2 w 0 0 1 else if t = 0 then BigE2 w 0 0 15 else BigE2 w z z' 0) = BigE2 w (divZ ok t z) (divZ ok t z') (divC ok t) := by
  unfold divZ divC
  split
  · rfl
  · split <;> rfl
set_option maxRecDepth 1000000 in
set_option maxHeartbeats 16000000 in
theorem bigTells_walk (s1 : Int) (A1 : Option Addr) (n1 c1 : Nat) (l1 : List Int) (s2 : Int) (A2 : Option Addr) (n2 c2 : Nat) (l2 : List Int) (N : Int) (s : ByteArray) (w : World) (r1 : RdI w w.heap.size A1 n1 c1 l1) (r2 : RdI w w.heap.size A2 n2 c2 l2) (hN : -9223372036854775808 ≤ N ∧ N ≤ 9223372036854775807) (hS : s.size ≤ maxLen) (htab : Tab w) :
    Calls Tryz.prog 3 #[.agg #[.int .i64 s1, .slice A1 n1 c1], .agg #[.int .i64 s2, .slice A2 n2 c2], .int .i64 N, .string s] w fun e w' => e = .returned (.bool true) ∧ Below w.heap.size w w' := by
  have K := ((St.start w).oldRd r1).oldRd r2
  have r := K.raw
  have hc1 := r1.caps
  have hc2 := r2.caps
  have HT := Lib.hid htab
  have HN := Lib.hid hN
  have HS := Lib.hid (fun W (h : Below w.heap.size w W) => small_any W (htab.on h))
  have HF1 := Lib.hid (fun W => few_any s1 A1 n1 c1 62 W (by omega))
  have HF2 := Lib.hid (fun W => few_any s2 A2 n2 c2 62 W (by omega))
  have HW1 := Lib.hid (fun W => few_any s1 A1 n1 c1 16 W (by omega))
  have HW2 := Lib.hid (fun W => few_any s2 A2 n2 c2 16 W (by omega))
  clear htab hN hc1 hc2
  by_cases y1 : (n1 : Int) ≤ 62
  case neg =>
    rw [decide_eq_false y1] at HF1
    clear r1 r2
    go_enter Tryz.func3, Tryz.ntmps3
    go_wp2_with (first | (first | ((first | (apply K.alloc; rfl; rfl; (first | with_reducible exact big_zero | with_reducible exact frac_zero)) | (apply K.box; rfl; rfl; rfl)); clear K r; (first | (have := b12; clear this; intro W b13 K) | (have := b11; clear this; intro W b12 K) | (have := b10; clear this; intro W b11 K) | (have := b9; clear this; intro W b10 K) | (have := b8; clear this; intro W b9 K) | (have := b7; clear this; intro W b8 K) | (have := b6; clear this; intro W b7 K) | (have := b5; clear this; intro W b6 K) | (have := b4; clear this; intro W b5 K) | (have := b3; clear this; intro W b4 K) | (have := b2; clear this; intro W b3 K) | (have := b1; clear this; intro W b2 K) | (have := b0; clear this; intro W b1 K) | intro W b0 K); have r := K.rawS) | (apply K.storeA; rfl; rfl; rfl; rfl; rfl; (repeat (first | with_reducible exact Upd.head _ | with_reducible apply Upd.tail)); (first | with_reducible exact big_size | with_reducible exact frac_size); rfl; rfl; rfl; clear K r; intro W K; have r := K.rawS)) | (go_at_call 9; (with_reducible refine (HS.out _ K.bel).mono ?_); rintro E0 W' ⟨rfl, hb⟩; replace K := K.keep hb; clear r; have r := K.rawS; clear hb) | (go_at_call 10; (with_reducible refine (HF1.out _).mono ?_); rintro E0 W' ⟨rfl, hb⟩; replace K := K.keep hb; clear r; have r := K.rawS; clear hb) | (go_at_call 10; (with_reducible refine (HF2.out _).mono ?_); rintro E0 W' ⟨rfl, hb⟩; replace K := K.keep hb; clear r; have r := K.rawS; clear hb))
    go_ret
    exact ⟨rfl, K.1⟩
  rw [decide_eq_true y1] at HF1
  by_cases y2 : (n2 : Int) ≤ 62
  case neg =>
    rw [decide_eq_false y2] at HF2
    clear r1 r2
    go_enter Tryz.func3, Tryz.ntmps3
    go_wp2_with (first | (first | ((first | (apply K.alloc; rfl; rfl; (first | with_reducible exact big_zero | with_reducible exact frac_zero)) | (apply K.box; rfl; rfl; rfl)); clear K r; (first | (have := b12; clear this; intro W b13 K) | (have := b11; clear this; intro W b12 K) | (have := b10; clear this; intro W b11 K) | (have := b9; clear this; intro W b10 K) | (have := b8; clear this; intro W b9 K) | (have := b7; clear this; intro W b8 K) | (have := b6; clear this; intro W b7 K) | (have := b5; clear this; intro W b6 K) | (have := b4; clear this; intro W b5 K) | (have := b3; clear this; intro W b4 K) | (have := b2; clear this; intro W b3 K) | (have := b1; clear this; intro W b2 K) | (have := b0; clear this; intro W b1 K) | intro W b0 K); have r := K.rawS) | (apply K.storeA; rfl; rfl; rfl; rfl; rfl; (repeat (first | with_reducible exact Upd.head _ | with_reducible apply Upd.tail)); (first | with_reducible exact big_size | with_reducible exact frac_size); rfl; rfl; rfl; clear K r; intro W K; have r := K.rawS)) | (go_at_call 9; (with_reducible refine (HS.out _ K.bel).mono ?_); rintro E0 W' ⟨rfl, hb⟩; replace K := K.keep hb; clear r; have r := K.rawS; clear hb) | (go_at_call 10; (with_reducible refine (HF1.out _).mono ?_); rintro E0 W' ⟨rfl, hb⟩; replace K := K.keep hb; clear r; have r := K.rawS; clear hb) | (go_at_call 10; (with_reducible refine (HF2.out _).mono ?_); rintro E0 W' ⟨rfl, hb⟩; replace K := K.keep hb; clear r; have r := K.rawS; clear hb))
    go_ret
    exact ⟨rfl, K.1⟩
  rw [decide_eq_true y2] at HF2
  clear y1 y2
  by_cases y3 : (400 : Int) < (s.size : Int)
  · clear r1 r2
    go_enter Tryz.func3, Tryz.ntmps3
    go_wp2_with (first | (first | ((first | (apply K.alloc; rfl; rfl; (first | with_reducible exact big_zero | with_reducible exact frac_zero)) | (apply K.box; rfl; rfl; rfl)); clear K r; (first | (have := b12; clear this; intro W b13 K) | (have := b11; clear this; intro W b12 K) | (have := b10; clear this; intro W b11 K) | (have := b9; clear this; intro W b10 K) | (have := b8; clear this; intro W b9 K) | (have := b7; clear this; intro W b8 K) | (have := b6; clear this; intro W b7 K) | (have := b5; clear this; intro W b6 K) | (have := b4; clear this; intro W b5 K) | (have := b3; clear this; intro W b4 K) | (have := b2; clear this; intro W b3 K) | (have := b1; clear this; intro W b2 K) | (have := b0; clear this; intro W b1 K) | intro W b0 K); have r := K.rawS) | (apply K.storeA; rfl; rfl; rfl; rfl; rfl; (repeat (first | with_reducible exact Upd.head _ | with_reducible apply Upd.tail)); (first | with_reducible exact big_size | with_reducible exact frac_size); rfl; rfl; rfl; clear K r; intro W K; have r := K.rawS)) | (go_at_call 9; (with_reducible refine (HS.out _ K.bel).mono ?_); rintro E0 W' ⟨rfl, hb⟩; replace K := K.keep hb; clear r; have r := K.rawS; clear hb) | (go_at_call 10; (with_reducible refine (HF1.out _).mono ?_); rintro E0 W' ⟨rfl, hb⟩; replace K := K.keep hb; clear r; have r := K.rawS; clear hb) | (go_at_call 10; (with_reducible refine (HF2.out _).mono ?_); rintro E0 W' ⟨rfl, hb⟩; replace K := K.keep hb; clear r; have r := K.rawS; clear hb))
    go_ret
    exact ⟨rfl, K.1⟩
  have hs3 : s.size ≤ 1000 := by omega
  have HD1 := fun W => bread_any s W hs3
  have HD2 := fun W => eread_any s W hs3
  generalize readZ s.data.toList = z6 at HD1 HD2
  generalize readE s.data.toList = e6 at HD1 HD2
  replace HD1 := Lib.hid HD1
  replace HD2 := Lib.hid HD2
  have he6 : (e6 != e6) = false := by simp
  have HV1 := fun W a b => bDiv_any s1 s2 A1 A2 n1 c1 n2 c2 l1 l2 W a b
  have HV2 := fun W a b => eDiv_any s1 s2 A1 A2 n1 c1 n2 c2 l1 l2 W a b
  simp only [div_one] at HV1 HV2
  generalize divZ (rightB s1 l1 && rightB s2 l2) s2 (fq (bval s1 l1) (bval s2 l2)) = z4 at HV1 HV2
  generalize divZ (rightB s1 l1 && rightB s2 l2) s2 (fr (bval s1 l1) (bval s2 l2)) = z5 at HV1 HV2
  generalize divC (rightB s1 l1 && rightB s2 l2) s2 = e4 at HV1 HV2
  replace HV1 := Lib.hid HV1
  replace HV2 := Lib.hid HV2
  have he4 : (e4 != e4) = false := by simp
  have HA1 := fun W a b => bAdd_any s1 s2 A1 A2 n1 c1 n2 c2 l1 l2 W a b
  have HB1 := fun W a b => eAdd_any s1 s2 A1 A2 n1 c1 n2 c2 l1 l2 W a b
  generalize resZ (rightB s1 l1 && rightB s2 l2) (bval s1 l1 + bval s2 l2) = z1 at HA1 HB1
  generalize errZ (rightB s1 l1 && rightB s2 l2) (bval s1 l1 + bval s2 l2) = e1 at HA1 HB1
  replace HA1 := Lib.hid HA1
  replace HB1 := Lib.hid HB1
  have he1 : (e1 != e1) = false := by simp
  have hq1 : (e1 == e1) = true := beq_self_eq_true _
  have HA2 := fun W a b => bSub_any s1 s2 A1 A2 n1 c1 n2 c2 l1 l2 W a b
  have HB2 := fun W a b => eSub_any s1 s2 A1 A2 n1 c1 n2 c2 l1 l2 W a b
  generalize resZ (rightB s1 l1 && rightB s2 l2) (bval s1 l1 - bval s2 l2) = z2 at HA2 HB2
  generalize errZ (rightB s1 l1 && rightB s2 l2) (bval s1 l1 - bval s2 l2) = e2 at HA2 HB2
  replace HA2 := Lib.hid HA2
  replace HB2 := Lib.hid HB2
  have he2 : (e2 != e2) = false := by simp
  have hq2 : (e2 == e2) = true := beq_self_eq_true _
  have HA3 := fun W a b => bMul_any s1 s2 A1 A2 n1 c1 n2 c2 l1 l2 W a b
  have HB3 := fun W a b => eMul_any s1 s2 A1 A2 n1 c1 n2 c2 l1 l2 W a b
  generalize resZ (rightB s1 l1 && rightB s2 l2) (bval s1 l1 * bval s2 l2) = z3 at HA3 HB3
  generalize errZ (rightB s1 l1 && rightB s2 l2) (bval s1 l1 * bval s2 l2) = e3 at HA3 HB3
  replace HA3 := Lib.hid HA3
  replace HB3 := Lib.hid HB3
  have he3 : (e3 != e3) = false := by simp
  have hq3 : (e3 == e3) = true := beq_self_eq_true _
  have HA7 := fun W a b => bGcd_any s1 s2 A1 A2 n1 c1 n2 c2 l1 l2 W a b
  have HB7 := fun W a b => eGcd_any s1 s2 A1 A2 n1 c1 n2 c2 l1 l2 W a b
  generalize gcdZ (rightB s1 l1 && rightB s2 l2) (bval s1 l1) (bval s2 l2) = z7 at HA7 HB7
  generalize okE (rightB s1 l1 && rightB s2 l2) = e7 at HA7 HB7
  replace HA7 := Lib.hid HA7
  replace HB7 := Lib.hid HB7
  have he7 : (e7 != e7) = false := by simp
  have hq7 : (e7 == e7) = true := beq_self_eq_true _
  have HI1 := fun W a => bInt_any s1 A1 n1 c1 l1 W a
  have HI2 := fun W a => eInt_any s1 A1 n1 c1 l1 W a
  generalize intV s1 l1 = iv at HI1 HI2
  generalize intC s1 l1 = ic at HI1 HI2
  replace HI1 := Lib.hid HI1
  replace HI2 := Lib.hid HI2
  have hiv : (iv != iv) = false := by simp
  have hic : (ic != ic) = false := by simp
  have HG1 := fun W a => bneg_any s1 A1 n1 c1 l1 W a
  have HG2 := fun W a => eNeg_any s1 A1 n1 c1 l1 W a
  generalize negZ s1 l1 = z8 at HG1 HG2
  replace HG1 := Lib.hid HG1
  replace HG2 := Lib.hid HG2
  have HC1 := fun W a b => bcompare_any s1 s2 A1 A2 n1 c1 n2 c2 l1 l2 W a b
  have HC2 := fun W a b => ecompare_any s1 s2 A1 A2 n1 c1 n2 c2 l1 l2 W a b
  generalize cmpB s1 l1 s2 l2 = C at HC1 HC2
  replace HC1 := Lib.hid HC1
  replace HC2 := Lib.hid HC2
  have hC : (C == C) = true := beq_self_eq_true _
  have HM1 := fun W a b => bsame_any s1 s2 A1 A2 n1 c1 n2 c2 l1 l2 W a b
  have HM2 := fun W a b => esame_any s1 s2 A1 A2 n1 c1 n2 c2 l1 l2 W a b
  generalize sameB s1 l1 s2 l2 = M at HM1 HM2
  replace HM1 := Lib.hid HM1
  replace HM2 := Lib.hid HM2
  have hM : (M == M) = true := beq_self_eq_true _
  have HX1 := fun W a t => btext_any s1 A1 n1 c1 l1 W a t
  have HX2 := fun W a => etext_any s1 A1 n1 c1 l1 W a
  generalize textB s1 l1 = T at HX1 HX2
  replace HX1 := Lib.hid HX1
  replace HX2 := Lib.hid HX2
  have HR1 := fun W a => bright_any s1 A1 n1 c1 l1 W a
  have HR2 := fun W a => eright_any s1 A1 n1 c1 l1 W a
  generalize rightB s1 l1 = R at HR1 HR2
  replace HR1 := Lib.hid HR1
  replace HR2 := Lib.hid HR2
  have hR : (R == R) = true := beq_self_eq_true _
  clear r1 r2 hs3
  go_enter Tryz.func3, Tryz.ntmps3
  go_wp2_with (first | (first | ((first | (apply K.alloc; rfl; rfl; (first | with_reducible exact big_zero | with_reducible exact frac_zero)) | (apply K.box; rfl; rfl; rfl)); clear K r; (first | (have := b12; clear this; intro W b13 K) | (have := b11; clear this; intro W b12 K) | (have := b10; clear this; intro W b11 K) | (have := b9; clear this; intro W b10 K) | (have := b8; clear this; intro W b9 K) | (have := b7; clear this; intro W b8 K) | (have := b6; clear this; intro W b7 K) | (have := b5; clear this; intro W b6 K) | (have := b4; clear this; intro W b5 K) | (have := b3; clear this; intro W b4 K) | (have := b2; clear this; intro W b3 K) | (have := b1; clear this; intro W b2 K) | (have := b0; clear this; intro W b1 K) | intro W b0 K); have r := K.rawS) | (apply K.storeA; rfl; rfl; rfl; rfl; rfl; (repeat (first | with_reducible exact Upd.head _ | with_reducible apply Upd.tail)); (first | with_reducible exact big_size | with_reducible exact frac_size); rfl; rfl; rfl; clear K r; intro W K; have r := K.rawS)) | (go_at_call 9; (with_reducible refine (HS.out _ K.bel).mono ?_); rintro E0 W' ⟨rfl, hb⟩; replace K := K.keep hb; clear r; have r := K.rawS; clear hb) | (go_at_call 10; (with_reducible refine (HF1.out _).mono ?_); rintro E0 W' ⟨rfl, hb⟩; replace K := K.keep hb; clear r; have r := K.rawS; clear hb) | (go_at_call 10; (with_reducible refine (HF2.out _).mono ?_); rintro E0 W' ⟨rfl, hb⟩; replace K := K.keep hb; clear r; have r := K.rawS; clear hb))
  clear HS HF1 HF2 y3
  refine (HA1.out _ (by first | exact Rd.nil | exact K.rda) (by first | exact Rd.nil | exact K.rda)).mono ?_
  rintro e W' ⟨s3, A3, n3, c3, l3, rfl, hr, hs3, hf, hb⟩
  replace K := K.ret hb hr hf
  clear r hr hf hb
  have r := K.rawS
  go_wp2_with (first | ((first | (apply K.alloc; rfl; rfl; (first | with_reducible exact big_zero | with_reducible exact frac_zero)) | (apply K.box; rfl; rfl; rfl)); clear K r; (first | (have := b12; clear this; intro W b13 K) | (have := b11; clear this; intro W b12 K) | (have := b10; clear this; intro W b11 K) | (have := b9; clear this; intro W b10 K) | (have := b8; clear this; intro W b9 K) | (have := b7; clear this; intro W b8 K) | (have := b6; clear this; intro W b7 K) | (have := b5; clear this; intro W b6 K) | (have := b4; clear this; intro W b5 K) | (have := b3; clear this; intro W b4 K) | (have := b2; clear this; intro W b3 K) | (have := b1; clear this; intro W b2 K) | (have := b0; clear this; intro W b1 K) | intro W b0 K); have r := K.rawS) | (apply K.storeA; rfl; rfl; rfl; rfl; rfl; (repeat (first | with_reducible exact Upd.head _ | with_reducible apply Upd.tail)); (first | with_reducible exact big_size | with_reducible exact frac_size); rfl; rfl; rfl; clear K r; intro W K; have r := K.rawS))
  refine (HB1.out _ (by first | exact Rd.nil | exact K.rda) (by first | exact Rd.nil | exact K.rda)).mono ?_
  rintro e W' ⟨s4, A4, n4, c4, l4, rfl, hr, hs4, hf, hb⟩
  replace K := K.ret hb hr hf
  clear r hr hf hb
  have r := K.rawS
  go_wp2_with (first | ((first | (apply K.alloc; rfl; rfl; (first | with_reducible exact big_zero | with_reducible exact frac_zero)) | (apply K.box; rfl; rfl; rfl)); clear K r; (first | (have := b12; clear this; intro W b13 K) | (have := b11; clear this; intro W b12 K) | (have := b10; clear this; intro W b11 K) | (have := b9; clear this; intro W b10 K) | (have := b8; clear this; intro W b9 K) | (have := b7; clear this; intro W b8 K) | (have := b6; clear this; intro W b7 K) | (have := b5; clear this; intro W b6 K) | (have := b4; clear this; intro W b5 K) | (have := b3; clear this; intro W b4 K) | (have := b2; clear this; intro W b3 K) | (have := b1; clear this; intro W b2 K) | (have := b0; clear this; intro W b1 K) | intro W b0 K); have r := K.rawS) | (apply K.storeA; rfl; rfl; rfl; rfl; rfl; (repeat (first | with_reducible exact Upd.head _ | with_reducible apply Upd.tail)); (first | with_reducible exact big_size | with_reducible exact frac_size); rfl; rfl; rfl; clear K r; intro W K; have r := K.rawS))
  refine (HA2.out _ (by first | exact Rd.nil | exact K.rda) (by first | exact Rd.nil | exact K.rda)).mono ?_
  rintro e W' ⟨s5, A5, n5, c5, l5, rfl, hr, hs5, hf, hb⟩
  replace K := K.ret hb hr hf
  clear r hr hf hb
  have r := K.rawS
  go_wp2_with (first | ((first | (apply K.alloc; rfl; rfl; (first | with_reducible exact big_zero | with_reducible exact frac_zero)) | (apply K.box; rfl; rfl; rfl)); clear K r; (first | (have := b12; clear this; intro W b13 K) | (have := b11; clear this; intro W b12 K) | (have := b10; clear this; intro W b11 K) | (have := b9; clear this; intro W b10 K) | (have := b8; clear this; intro W b9 K) | (have := b7; clear this; intro W b8 K) | (have := b6; clear this; intro W b7 K) | (have := b5; clear this; intro W b6 K) | (have := b4; clear this; intro W b5 K) | (have := b3; clear this; intro W b4 K) | (have := b2; clear this; intro W b3 K) | (have := b1; clear this; intro W b2 K) | (have := b0; clear this; intro W b1 K) | intro W b0 K); have r := K.rawS) | (apply K.storeA; rfl; rfl; rfl; rfl; rfl; (repeat (first | with_reducible exact Upd.head _ | with_reducible apply Upd.tail)); (first | with_reducible exact big_size | with_reducible exact frac_size); rfl; rfl; rfl; clear K r; intro W K; have r := K.rawS))
  refine (HB2.out _ (by first | exact Rd.nil | exact K.rda) (by first | exact Rd.nil | exact K.rda)).mono ?_
  rintro e W' ⟨s6, A6, n6, c6, l6, rfl, hr, hs6, hf, hb⟩
  replace K := K.ret hb hr hf
  clear r hr hf hb
  have r := K.rawS
  go_wp2_with (first | ((first | (apply K.alloc; rfl; rfl; (first | with_reducible exact big_zero | with_reducible exact frac_zero)) | (apply K.box; rfl; rfl; rfl)); clear K r; (first | (have := b12; clear this; intro W b13 K) | (have := b11; clear this; intro W b12 K) | (have := b10; clear this; intro W b11 K) | (have := b9; clear this; intro W b10 K) | (have := b8; clear this; intro W b9 K) | (have := b7; clear this; intro W b8 K) | (have := b6; clear this; intro W b7 K) | (have := b5; clear this; intro W b6 K) | (have := b4; clear this; intro W b5 K) | (have := b3; clear this; intro W b4 K) | (have := b2; clear this; intro W b3 K) | (have := b1; clear this; intro W b2 K) | (have := b0; clear this; intro W b1 K) | intro W b0 K); have r := K.rawS) | (apply K.storeA; rfl; rfl; rfl; rfl; rfl; (repeat (first | with_reducible exact Upd.head _ | with_reducible apply Upd.tail)); (first | with_reducible exact big_size | with_reducible exact frac_size); rfl; rfl; rfl; clear K r; intro W K; have r := K.rawS))
  refine (HA3.out _ (by first | exact Rd.nil | exact K.rda) (by first | exact Rd.nil | exact K.rda)).mono ?_
  rintro e W' ⟨s7, A7, n7, c7, l7, rfl, hr, hs7, hf, hb⟩
  replace K := K.ret hb hr hf
  clear r hr hf hb
  have r := K.rawS
  go_wp2_with (first | ((first | (apply K.alloc; rfl; rfl; (first | with_reducible exact big_zero | with_reducible exact frac_zero)) | (apply K.box; rfl; rfl; rfl)); clear K r; (first | (have := b12; clear this; intro W b13 K) | (have := b11; clear this; intro W b12 K) | (have := b10; clear this; intro W b11 K) | (have := b9; clear this; intro W b10 K) | (have := b8; clear this; intro W b9 K) | (have := b7; clear this; intro W b8 K) | (have := b6; clear this; intro W b7 K) | (have := b5; clear this; intro W b6 K) | (have := b4; clear this; intro W b5 K) | (have := b3; clear this; intro W b4 K) | (have := b2; clear this; intro W b3 K) | (have := b1; clear this; intro W b2 K) | (have := b0; clear this; intro W b1 K) | intro W b0 K); have r := K.rawS) | (apply K.storeA; rfl; rfl; rfl; rfl; rfl; (repeat (first | with_reducible exact Upd.head _ | with_reducible apply Upd.tail)); (first | with_reducible exact big_size | with_reducible exact frac_size); rfl; rfl; rfl; clear K r; intro W K; have r := K.rawS))
  refine (HB3.out _ (by first | exact Rd.nil | exact K.rda) (by first | exact Rd.nil | exact K.rda)).mono ?_
  rintro e W' ⟨s8, A8, n8, c8, l8, rfl, hr, hs8, hf, hb⟩
  replace K := K.ret hb hr hf
  clear r hr hf hb
  have r := K.rawS
  clear HA1 HB1 HA2 HB2 HA3 HB3
  trace "BIG A"
  go_wp2_with (first | ((first | (apply K.alloc; rfl; rfl; (first | with_reducible exact big_zero | with_reducible exact frac_zero)) | (apply K.box; rfl; rfl; rfl)); clear K r; (first | (have := b12; clear this; intro W b13 K) | (have := b11; clear this; intro W b12 K) | (have := b10; clear this; intro W b11 K) | (have := b9; clear this; intro W b10 K) | (have := b8; clear this; intro W b9 K) | (have := b7; clear this; intro W b8 K) | (have := b6; clear this; intro W b7 K) | (have := b5; clear this; intro W b6 K) | (have := b4; clear this; intro W b5 K) | (have := b3; clear this; intro W b4 K) | (have := b2; clear this; intro W b3 K) | (have := b1; clear this; intro W b2 K) | (have := b0; clear this; intro W b1 K) | intro W b0 K); have r := K.rawS) | (apply K.storeA; rfl; rfl; rfl; rfl; rfl; (repeat (first | with_reducible exact Upd.head _ | with_reducible apply Upd.tail)); (first | with_reducible exact big_size | with_reducible exact frac_size); rfl; rfl; rfl; clear K r; intro W K; have r := K.rawS))
  refine (eSameZ _ _ _ _ _ _ _ _ _ _ _ _ (by first | exact Rd.nil | exact K.rda) (by first | exact Rd.nil | exact K.rda) hs3 hs4).mono ?_
  rintro e W' ⟨rfl, hb⟩
  replace K := K.keep hb
  clear r
  have r := K.rawS
  clear hb
  go_wp2_with (first | ((first | (apply K.alloc; rfl; rfl; (first | with_reducible exact big_zero | with_reducible exact frac_zero)) | (apply K.box; rfl; rfl; rfl)); clear K r; (first | (have := b12; clear this; intro W b13 K) | (have := b11; clear this; intro W b12 K) | (have := b10; clear this; intro W b11 K) | (have := b9; clear this; intro W b10 K) | (have := b8; clear this; intro W b9 K) | (have := b7; clear this; intro W b8 K) | (have := b6; clear this; intro W b7 K) | (have := b5; clear this; intro W b6 K) | (have := b4; clear this; intro W b5 K) | (have := b3; clear this; intro W b4 K) | (have := b2; clear this; intro W b3 K) | (have := b1; clear this; intro W b2 K) | (have := b0; clear this; intro W b1 K) | intro W b0 K); have r := K.rawS) | (apply K.storeA; rfl; rfl; rfl; rfl; rfl; (repeat (first | with_reducible exact Upd.head _ | with_reducible apply Upd.tail)); (first | with_reducible exact big_size | with_reducible exact frac_size); rfl; rfl; rfl; clear K r; intro W K; have r := K.rawS))
  refine (eSameZ _ _ _ _ _ _ _ _ _ _ _ _ (by first | exact Rd.nil | exact K.rda) (by first | exact Rd.nil | exact K.rda) hs5 hs6).mono ?_
  rintro e W' ⟨rfl, hb⟩
  replace K := K.keep hb
  clear r
  have r := K.rawS
  clear hb
  go_wp2_with (first | ((first | (apply K.alloc; rfl; rfl; (first | with_reducible exact big_zero | with_reducible exact frac_zero)) | (apply K.box; rfl; rfl; rfl)); clear K r; (first | (have := b12; clear this; intro W b13 K) | (have := b11; clear this; intro W b12 K) | (have := b10; clear this; intro W b11 K) | (have := b9; clear this; intro W b10 K) | (have := b8; clear this; intro W b9 K) | (have := b7; clear this; intro W b8 K) | (have := b6; clear this; intro W b7 K) | (have := b5; clear this; intro W b6 K) | (have := b4; clear this; intro W b5 K) | (have := b3; clear this; intro W b4 K) | (have := b2; clear this; intro W b3 K) | (have := b1; clear this; intro W b2 K) | (have := b0; clear this; intro W b1 K) | intro W b0 K); have r := K.rawS) | (apply K.storeA; rfl; rfl; rfl; rfl; rfl; (repeat (first | with_reducible exact Upd.head _ | with_reducible apply Upd.tail)); (first | with_reducible exact big_size | with_reducible exact frac_size); rfl; rfl; rfl; clear K r; intro W K; have r := K.rawS))
  refine (eSameZ _ _ _ _ _ _ _ _ _ _ _ _ (by first | exact Rd.nil | exact K.rda) (by first | exact Rd.nil | exact K.rda) hs7 hs8).mono ?_
  rintro e W' ⟨rfl, hb⟩
  replace K := K.keep hb
  clear r
  have r := K.rawS
  clear hb
  clear hs3 hs4 hs5 hs6 hs7 hs8
  replace K := K.less (D' := [⟨rdP A2 n2 c2 l2, oldS w⟩, ⟨rdP A1 n1 c1 l1, oldS w⟩]) (by simp only [List.mem_cons, List.not_mem_nil, or_false, forall_eq_or_imp, forall_eq, true_or, or_true, and_self])
  clear r
  have r := K.rawS
  go_wp2_with (first | ((first | (apply K.alloc; rfl; rfl; (first | with_reducible exact big_zero | with_reducible exact frac_zero)) | (apply K.box; rfl; rfl; rfl)); clear K r; (first | (have := b12; clear this; intro W b13 K) | (have := b11; clear this; intro W b12 K) | (have := b10; clear this; intro W b11 K) | (have := b9; clear this; intro W b10 K) | (have := b8; clear this; intro W b9 K) | (have := b7; clear this; intro W b8 K) | (have := b6; clear this; intro W b7 K) | (have := b5; clear this; intro W b6 K) | (have := b4; clear this; intro W b5 K) | (have := b3; clear this; intro W b4 K) | (have := b2; clear this; intro W b3 K) | (have := b1; clear this; intro W b2 K) | (have := b0; clear this; intro W b1 K) | intro W b0 K); have r := K.rawS) | (apply K.storeA; rfl; rfl; rfl; rfl; rfl; (repeat (first | with_reducible exact Upd.head _ | with_reducible apply Upd.tail)); (first | with_reducible exact big_size | with_reducible exact frac_size); rfl; rfl; rfl; clear K r; intro W K; have r := K.rawS))
  refine (HV1.out _ (by first | exact Rd.nil | exact K.rda) (by first | exact Rd.nil | exact K.rda)).mono ?_
  rintro e W' ⟨s9, A9, n9, c9, l9, s10, A10, n10, c10, l10, rfl, ⟨hra, hs9, hfa⟩, ⟨hrb, hs10, hfb⟩, hb⟩
  have hf9 := Lib.hid (hfa.mono K.1.size)
  have hf10 := Lib.hid (hfb.mono K.1.size)
  replace K := K.ret2 hb hra hrb hfa hfb
  clear r
  have r := K.rawS
  clear hra hrb hfa hfb hb
  go_wp2_with (first | ((first | (apply K.alloc; rfl; rfl; (first | with_reducible exact big_zero | with_reducible exact frac_zero)) | (apply K.box; rfl; rfl; rfl)); clear K r; (first | (have := b12; clear this; intro W b13 K) | (have := b11; clear this; intro W b12 K) | (have := b10; clear this; intro W b11 K) | (have := b9; clear this; intro W b10 K) | (have := b8; clear this; intro W b9 K) | (have := b7; clear this; intro W b8 K) | (have := b6; clear this; intro W b7 K) | (have := b5; clear this; intro W b6 K) | (have := b4; clear this; intro W b5 K) | (have := b3; clear this; intro W b4 K) | (have := b2; clear this; intro W b3 K) | (have := b1; clear this; intro W b2 K) | (have := b0; clear this; intro W b1 K) | intro W b0 K); have r := K.rawS) | (apply K.storeA; rfl; rfl; rfl; rfl; rfl; (repeat (first | with_reducible exact Upd.head _ | with_reducible apply Upd.tail)); (first | with_reducible exact big_size | with_reducible exact frac_size); rfl; rfl; rfl; clear K r; intro W K; have r := K.rawS))
  refine (HV2.out _ (by first | exact Rd.nil | exact K.rda) (by first | exact Rd.nil | exact K.rda)).mono ?_
  rintro e W' ⟨s11, A11, n11, c11, l11, s12, A12, n12, c12, l12, rfl, ⟨hra, hs11, hfa⟩, ⟨hrb, hs12, hfb⟩, hb⟩
  have hf11 := Lib.hid (hfa.mono K.1.size)
  have hf12 := Lib.hid (hfb.mono K.1.size)
  replace K := K.ret2 hb hra hrb hfa hfb
  clear r
  have r := K.rawS
  clear hra hrb hfa hfb hb
  clear HV1 HV2 hf9 hf10 hf11 hf12
  go_wp2_with (first | ((first | (apply K.alloc; rfl; rfl; (first | with_reducible exact big_zero | with_reducible exact frac_zero)) | (apply K.box; rfl; rfl; rfl)); clear K r; (first | (have := b12; clear this; intro W b13 K) | (have := b11; clear this; intro W b12 K) | (have := b10; clear this; intro W b11 K) | (have := b9; clear this; intro W b10 K) | (have := b8; clear this; intro W b9 K) | (have := b7; clear this; intro W b8 K) | (have := b6; clear this; intro W b7 K) | (have := b5; clear this; intro W b6 K) | (have := b4; clear this; intro W b5 K) | (have := b3; clear this; intro W b4 K) | (have := b2; clear this; intro W b3 K) | (have := b1; clear this; intro W b2 K) | (have := b0; clear this; intro W b1 K) | intro W b0 K); have r := K.rawS) | (apply K.storeA; rfl; rfl; rfl; rfl; rfl; (repeat (first | with_reducible exact Upd.head _ | with_reducible apply Upd.tail)); (first | with_reducible exact big_size | with_reducible exact frac_size); rfl; rfl; rfl; clear K r; intro W K; have r := K.rawS))
  refine (HI1.out _ (by first | exact Rd.nil | exact K.rda)).mono ?_
  rintro e W' ⟨rfl, hb⟩
  replace K := K.keep hb
  clear r
  have r := K.rawS
  clear hb
  go_wp2_with (first | ((first | (apply K.alloc; rfl; rfl; (first | with_reducible exact big_zero | with_reducible exact frac_zero)) | (apply K.box; rfl; rfl; rfl)); clear K r; (first | (have := b12; clear this; intro W b13 K) | (have := b11; clear this; intro W b12 K) | (have := b10; clear this; intro W b11 K) | (have := b9; clear this; intro W b10 K) | (have := b8; clear this; intro W b9 K) | (have := b7; clear this; intro W b8 K) | (have := b6; clear this; intro W b7 K) | (have := b5; clear this; intro W b6 K) | (have := b4; clear this; intro W b5 K) | (have := b3; clear this; intro W b4 K) | (have := b2; clear this; intro W b3 K) | (have := b1; clear this; intro W b2 K) | (have := b0; clear this; intro W b1 K) | intro W b0 K); have r := K.rawS) | (apply K.storeA; rfl; rfl; rfl; rfl; rfl; (repeat (first | with_reducible exact Upd.head _ | with_reducible apply Upd.tail)); (first | with_reducible exact big_size | with_reducible exact frac_size); rfl; rfl; rfl; clear K r; intro W K; have r := K.rawS))
  refine (HI2.out _ (by first | exact Rd.nil | exact K.rda)).mono ?_
  rintro e W' ⟨rfl, hb⟩
  replace K := K.keep hb
  clear r
  have r := K.rawS
  clear hb
  clear HI1 HI2
  go_wp2_with (first | ((first | (apply K.alloc; rfl; rfl; (first | with_reducible exact big_zero | with_reducible exact frac_zero)) | (apply K.box; rfl; rfl; rfl)); clear K r; (first | (have := b12; clear this; intro W b13 K) | (have := b11; clear this; intro W b12 K) | (have := b10; clear this; intro W b11 K) | (have := b9; clear this; intro W b10 K) | (have := b8; clear this; intro W b9 K) | (have := b7; clear this; intro W b8 K) | (have := b6; clear this; intro W b7 K) | (have := b5; clear this; intro W b6 K) | (have := b4; clear this; intro W b5 K) | (have := b3; clear this; intro W b4 K) | (have := b2; clear this; intro W b3 K) | (have := b1; clear this; intro W b2 K) | (have := b0; clear this; intro W b1 K) | intro W b0 K); have r := K.rawS) | (apply K.storeA; rfl; rfl; rfl; rfl; rfl; (repeat (first | with_reducible exact Upd.head _ | with_reducible apply Upd.tail)); (first | with_reducible exact big_size | with_reducible exact frac_size); rfl; rfl; rfl; clear K r; intro W K; have r := K.rawS))
  refine (HD1.out _).mono ?_
  rintro e W' ⟨s13, A13, n13, c13, l13, rfl, hr, hs13, hf, hb⟩
  replace K := K.ret hb hr hf
  clear r hr hf hb
  have r := K.rawS
  go_wp2_with (first | ((first | (apply K.alloc; rfl; rfl; (first | with_reducible exact big_zero | with_reducible exact frac_zero)) | (apply K.box; rfl; rfl; rfl)); clear K r; (first | (have := b12; clear this; intro W b13 K) | (have := b11; clear this; intro W b12 K) | (have := b10; clear this; intro W b11 K) | (have := b9; clear this; intro W b10 K) | (have := b8; clear this; intro W b9 K) | (have := b7; clear this; intro W b8 K) | (have := b6; clear this; intro W b7 K) | (have := b5; clear this; intro W b6 K) | (have := b4; clear this; intro W b5 K) | (have := b3; clear this; intro W b4 K) | (have := b2; clear this; intro W b3 K) | (have := b1; clear this; intro W b2 K) | (have := b0; clear this; intro W b1 K) | intro W b0 K); have r := K.rawS) | (apply K.storeA; rfl; rfl; rfl; rfl; rfl; (repeat (first | with_reducible exact Upd.head _ | with_reducible apply Upd.tail)); (first | with_reducible exact big_size | with_reducible exact frac_size); rfl; rfl; rfl; clear K r; intro W K; have r := K.rawS))
  refine (HD2.out _).mono ?_
  rintro e W' ⟨s14, A14, n14, c14, l14, rfl, hr, hs14, hf, hb⟩
  replace K := K.ret hb hr hf
  clear r hr hf hb
  have r := K.rawS
  clear HD1 HD2
  trace "BIG B"
  go_wp2_with (first | ((first | (apply K.alloc; rfl; rfl; (first | with_reducible exact big_zero | with_reducible exact frac_zero)) | (apply K.box; rfl; rfl; rfl)); clear K r; (first | (have := b12; clear this; intro W b13 K) | (have := b11; clear this; intro W b12 K) | (have := b10; clear this; intro W b11 K) | (have := b9; clear this; intro W b10 K) | (have := b8; clear this; intro W b9 K) | (have := b7; clear this; intro W b8 K) | (have := b6; clear this; intro W b7 K) | (have := b5; clear this; intro W b6 K) | (have := b4; clear this; intro W b5 K) | (have := b3; clear this; intro W b4 K) | (have := b2; clear this; intro W b3 K) | (have := b1; clear this; intro W b2 K) | (have := b0; clear this; intro W b1 K) | intro W b0 K); have r := K.rawS) | (apply K.storeA; rfl; rfl; rfl; rfl; rfl; (repeat (first | with_reducible exact Upd.head _ | with_reducible apply Upd.tail)); (first | with_reducible exact big_size | with_reducible exact frac_size); rfl; rfl; rfl; clear K r; intro W K; have r := K.rawS))
  refine (eSameZ _ _ _ _ _ _ _ _ _ _ _ _ (by first | exact Rd.nil | exact K.rda) (by first | exact Rd.nil | exact K.rda) hs9 hs11).mono ?_
  rintro e W' ⟨rfl, hb⟩
  replace K := K.keep hb
  clear r
  have r := K.rawS
  clear hb
  go_wp2_with (first | ((first | (apply K.alloc; rfl; rfl; (first | with_reducible exact big_zero | with_reducible exact frac_zero)) | (apply K.box; rfl; rfl; rfl)); clear K r; (first | (have := b12; clear this; intro W b13 K) | (have := b11; clear this; intro W b12 K) | (have := b10; clear this; intro W b11 K) | (have := b9; clear this; intro W b10 K) | (have := b8; clear this; intro W b9 K) | (have := b7; clear this; intro W b8 K) | (have := b6; clear this; intro W b7 K) | (have := b5; clear this; intro W b6 K) | (have := b4; clear this; intro W b5 K) | (have := b3; clear this; intro W b4 K) | (have := b2; clear this; intro W b3 K) | (have := b1; clear this; intro W b2 K) | (have := b0; clear this; intro W b1 K) | intro W b0 K); have r := K.rawS) | (apply K.storeA; rfl; rfl; rfl; rfl; rfl; (repeat (first | with_reducible exact Upd.head _ | with_reducible apply Upd.tail)); (first | with_reducible exact big_size | with_reducible exact frac_size); rfl; rfl; rfl; clear K r; intro W K; have r := K.rawS))
  refine (eSameZ _ _ _ _ _ _ _ _ _ _ _ _ (by first | exact Rd.nil | exact K.rda) (by first | exact Rd.nil | exact K.rda) hs10 hs12).mono ?_
  rintro e W' ⟨rfl, hb⟩
  replace K := K.keep hb
  clear r
  have r := K.rawS
  clear hb
  go_wp2_with (first | ((first | (apply K.alloc; rfl; rfl; (first | with_reducible exact big_zero | with_reducible exact frac_zero)) | (apply K.box; rfl; rfl; rfl)); clear K r; (first | (have := b12; clear this; intro W b13 K) | (have := b11; clear this; intro W b12 K) | (have := b10; clear this; intro W b11 K) | (have := b9; clear this; intro W b10 K) | (have := b8; clear this; intro W b9 K) | (have := b7; clear this; intro W b8 K) | (have := b6; clear this; intro W b7 K) | (have := b5; clear this; intro W b6 K) | (have := b4; clear this; intro W b5 K) | (have := b3; clear this; intro W b4 K) | (have := b2; clear this; intro W b3 K) | (have := b1; clear this; intro W b2 K) | (have := b0; clear this; intro W b1 K) | intro W b0 K); have r := K.rawS) | (apply K.storeA; rfl; rfl; rfl; rfl; rfl; (repeat (first | with_reducible exact Upd.head _ | with_reducible apply Upd.tail)); (first | with_reducible exact big_size | with_reducible exact frac_size); rfl; rfl; rfl; clear K r; intro W K; have r := K.rawS))
  refine (eSameZ _ _ _ _ _ _ _ _ _ _ _ _ (by first | exact Rd.nil | exact K.rda) (by first | exact Rd.nil | exact K.rda) hs13 hs14).mono ?_
  rintro e W' ⟨rfl, hb⟩
  replace K := K.keep hb
  clear r
  have r := K.rawS
  clear hb
  clear hs9 hs10 hs11 hs12 hs13 hs14
  replace K := K.less (D' := [⟨rdP A2 n2 c2 l2, oldS w⟩, ⟨rdP A1 n1 c1 l1, oldS w⟩]) (by simp only [List.mem_cons, List.not_mem_nil, or_false, forall_eq_or_imp, forall_eq, true_or, or_true, and_self])
  clear r
  have r := K.rawS
  go_wp2_with (first | ((first | (apply K.alloc; rfl; rfl; (first | with_reducible exact big_zero | with_reducible exact frac_zero)) | (apply K.box; rfl; rfl; rfl)); clear K r; (first | (have := b12; clear this; intro W b13 K) | (have := b11; clear this; intro W b12 K) | (have := b10; clear this; intro W b11 K) | (have := b9; clear this; intro W b10 K) | (have := b8; clear this; intro W b9 K) | (have := b7; clear this; intro W b8 K) | (have := b6; clear this; intro W b7 K) | (have := b5; clear this; intro W b6 K) | (have := b4; clear this; intro W b5 K) | (have := b3; clear this; intro W b4 K) | (have := b2; clear this; intro W b3 K) | (have := b1; clear this; intro W b2 K) | (have := b0; clear this; intro W b1 K) | intro W b0 K); have r := K.rawS) | (apply K.storeA; rfl; rfl; rfl; rfl; rfl; (repeat (first | with_reducible exact Upd.head _ | with_reducible apply Upd.tail)); (first | with_reducible exact big_size | with_reducible exact frac_size); rfl; rfl; rfl; clear K r; intro W K; have r := K.rawS))
  refine (HW1.out _).mono ?_
  rintro e W' ⟨rfl, hb⟩
  replace K := K.keep hb
  clear r
  have r := K.rawS
  clear hb
  trace "BIG C"
  by_cases k1 : (n1 : Int) ≤ 16
  case neg =>
    rw [decide_eq_false k1]
    clear k1 HW1 HW2 HA7 HB7
    go_upto_region 25 with (first | ((first | (apply K.alloc; rfl; rfl; (first | with_reducible exact big_zero | with_reducible exact frac_zero)) | (apply K.box; rfl; rfl; rfl)); clear K r; (first | (have := b12; clear this; intro W b13 K) | (have := b11; clear this; intro W b12 K) | (have := b10; clear this; intro W b11 K) | (have := b9; clear this; intro W b10 K) | (have := b8; clear this; intro W b9 K) | (have := b7; clear this; intro W b8 K) | (have := b6; clear this; intro W b7 K) | (have := b5; clear this; intro W b6 K) | (have := b4; clear this; intro W b5 K) | (have := b3; clear this; intro W b4 K) | (have := b2; clear this; intro W b3 K) | (have := b1; clear this; intro W b2 K) | (have := b0; clear this; intro W b1 K) | intro W b0 K); have r := K.rawS) | (apply K.storeA; rfl; rfl; rfl; rfl; rfl; (repeat (first | with_reducible exact Upd.head _ | with_reducible apply Upd.tail)); (first | with_reducible exact big_size | with_reducible exact frac_size); rfl; rfl; rfl; clear K r; intro W K; have r := K.rawS))
    obtain ⟨KS, X0, XK, XF, XS⟩ := K.pack2 (fun W => ((W.cell? ⟨b0, 0, none⟩ = some (.int .i64 s1) ∧ W.cell? ⟨b0, 1, none⟩ = some (.slice A1 n1 c1)) ∧ (W.cell? ⟨b1, 0, none⟩ = some (.int .i64 s2) ∧ W.cell? ⟨b1, 1, none⟩ = some (.slice A2 n2 c2)))) (fun W K => by
      have r := K.raw
      simp only [Raw, RawC, and_true, true_and, Nat.zero_add, Nat.reduceAdd] at r
      simp only [r, and_self])
    obtain ⟨ι, f, hne, hfw, hfk, hfc⟩ := cls_st KS _ X0 (fun W h => XK W W.drew h (Below.refl _ _).drew)
    have Q1 := Lib.hid (fun q => (HR1.out (f q) ((XS _ (hfk q)).rd (by repeat (first | with_reducible exact List.mem_cons_self | with_reducible apply List.mem_cons_of_mem)))).mono fun e w'' ⟨he, hb⟩ => (⟨he, hfc _ (XK _ _ (hfk q) hb)⟩ : e = Ending.returned (.bool R) ∧ ∃ s, w'' = f s))
    have Q2 := Lib.hid (fun q => (HR2.out (f q) ((XS _ (hfk q)).rd (by repeat (first | with_reducible exact List.mem_cons_self | with_reducible apply List.mem_cons_of_mem)))).mono fun e w'' ⟨he, hb⟩ => (⟨he, hfc _ (XK _ _ (hfk q) hb)⟩ : e = Ending.returned (.bool R) ∧ ∃ s, w'' = f s))
    have Q3 := Lib.hid (fun q => (HC1.out (f q) ((XS _ (hfk q)).rd (by repeat (first | with_reducible exact List.mem_cons_self | with_reducible apply List.mem_cons_of_mem))) ((XS _ (hfk q)).rd (by repeat (first | with_reducible exact List.mem_cons_self | with_reducible apply List.mem_cons_of_mem)))).mono fun e w'' ⟨he, hb⟩ => (⟨he, hfc _ (XK _ _ (hfk q) hb)⟩ : e = Ending.returned (.int .i64 C) ∧ ∃ s, w'' = f s))
    have Q4 := Lib.hid (fun q => (HC2.out (f q) ((XS _ (hfk q)).rd (by repeat (first | with_reducible exact List.mem_cons_self | with_reducible apply List.mem_cons_of_mem))) ((XS _ (hfk q)).rd (by repeat (first | with_reducible exact List.mem_cons_self | with_reducible apply List.mem_cons_of_mem)))).mono fun e w'' ⟨he, hb⟩ => (⟨he, hfc _ (XK _ _ (hfk q) hb)⟩ : e = Ending.returned (.int .i64 C) ∧ ∃ s, w'' = f s))
    have Q5 := Lib.hid (fun q => (HM1.out (f q) ((XS _ (hfk q)).rd (by repeat (first | with_reducible exact List.mem_cons_self | with_reducible apply List.mem_cons_of_mem))) ((XS _ (hfk q)).rd (by repeat (first | with_reducible exact List.mem_cons_self | with_reducible apply List.mem_cons_of_mem)))).mono fun e w'' ⟨he, hb⟩ => (⟨he, hfc _ (XK _ _ (hfk q) hb)⟩ : e = Ending.returned (.bool M) ∧ ∃ s, w'' = f s))
    have Q6 := Lib.hid (fun q => (HM2.out (f q) ((XS _ (hfk q)).rd (by repeat (first | with_reducible exact List.mem_cons_self | with_reducible apply List.mem_cons_of_mem))) ((XS _ (hfk q)).rd (by repeat (first | with_reducible exact List.mem_cons_self | with_reducible apply List.mem_cons_of_mem)))).mono fun e w'' ⟨he, hb⟩ => (⟨he, hfc _ (XK _ _ (hfk q) hb)⟩ : e = Ending.returned (.bool M) ∧ ∃ s, w'' = f s))
    have Q7 := Lib.hid (fun q => (HX1.out (f q) ((XS _ (hfk q)).rd (by repeat (first | with_reducible exact List.mem_cons_self | with_reducible apply List.mem_cons_of_mem))) (HT.out.on (XS _ (hfk q)).1)).mono fun e w'' ⟨he, hb⟩ => (⟨he, hfc _ (XK _ _ (hfk q) hb)⟩ : e = Ending.returned (.string T) ∧ ∃ s, w'' = f s))
    have Q8 := Lib.hid (fun q => (HX2.out (f q) ((XS _ (hfk q)).rd (by repeat (first | with_reducible exact List.mem_cons_self | with_reducible apply List.mem_cons_of_mem)))).mono fun e w'' ⟨he, hb⟩ => (⟨he, hfc _ (XK _ _ (hfk q) hb)⟩ : e = Ending.returned (.string T) ∧ ∃ s, w'' = f s))
    have g0 := fun n => (XF _ (hfk n)).1.1
    have g1 := fun n => (XF _ (hfk n)).1.2
    have g2 := fun n => (XF _ (hfk n)).2.1
    have g3 := fun n => (XF _ (hfk n)).2.2
    have XSt := Lib.hid (fun n => XS _ (hfk n))
    have Hfw := Lib.hid hfw
    clear XF XK XS K r hfk hfc hfw X0
    refine wp_region_cls (C := fun w' => ∃ n, w' = f n) (by kernel_rfl) (by kernel_rfl) Hfw.out ?_
    repeat (first
      | go_big_quiet_skip
      | (go_big_quiet_want; go_big_quiet_op; first | go_big_quiet_on | go_big_quiet_call (first
        | (go_at_call 26; with_reducible exact Q1.out _)
        | (go_at_call 27; with_reducible exact Q2.out _)
        | (go_at_call 28; with_reducible exact Q3.out _)
        | (go_at_call 29; with_reducible exact Q4.out _)
        | (go_at_call 30; with_reducible exact Q5.out _)
        | (go_at_call 17; with_reducible exact Q6.out _)
        | (go_at_call 31; with_reducible exact Q7.out _)
        | (go_at_call 32; with_reducible exact Q8.out _))))
    refine wpQuiet_nil ?_
    rintro _ ⟨nq, rfl⟩
    have K := XSt.out nq
    clear XSt Hfw Q1 Q2 Q3 Q4 Q5 Q6 Q7 Q8 g0 g1 g2 g3
    have r := K.rawS
    go_upto_region 26 with (first | ((first | (apply K.alloc; rfl; rfl; (first | with_reducible exact big_zero | with_reducible exact frac_zero)) | (apply K.box; rfl; rfl; rfl)); clear K r; (first | (have := b12; clear this; intro W b13 K) | (have := b11; clear this; intro W b12 K) | (have := b10; clear this; intro W b11 K) | (have := b9; clear this; intro W b10 K) | (have := b8; clear this; intro W b9 K) | (have := b7; clear this; intro W b8 K) | (have := b6; clear this; intro W b7 K) | (have := b5; clear this; intro W b6 K) | (have := b4; clear this; intro W b5 K) | (have := b3; clear this; intro W b4 K) | (have := b2; clear this; intro W b3 K) | (have := b1; clear this; intro W b2 K) | (have := b0; clear this; intro W b1 K) | intro W b0 K); have r := K.rawS) | (apply K.storeA; rfl; rfl; rfl; rfl; rfl; (repeat (first | with_reducible exact Upd.head _ | with_reducible apply Upd.tail)); (first | with_reducible exact big_size | with_reducible exact frac_size); rfl; rfl; rfl; clear K r; intro W K; have r := K.rawS))
    obtain ⟨KS, X0, XK, XF, XS⟩ := K.pack2 (fun W => ((W.cell? ⟨b0, 0, none⟩ = some (.int .i64 s1) ∧ W.cell? ⟨b0, 1, none⟩ = some (.slice A1 n1 c1)))) (fun W K => by
      have r := K.raw
      simp only [Raw, RawC, and_true, true_and, Nat.zero_add, Nat.reduceAdd] at r
      simp only [r, and_self])
    have HSx := Lib.hid (fun W (h : KS W) => (show KS W ∧ ((W.cell? ⟨b0, 0, none⟩ = some (.int .i64 s1) ∧ W.cell? ⟨b0, 1, none⟩ = some (.slice A1 n1 c1))) from ⟨h, XF W h⟩))
    have XD := Lib.hid (fun W (h : KS W) => XK W W.drew h (Below.refl _ _).drew)
    have XSt := Lib.hid XS
    have Q1 := Lib.hid (fun W (h : KS W) => (HG1.out W ((XS W h).rd (by repeat (first | with_reducible exact List.mem_cons_self | with_reducible apply List.mem_cons_of_mem)))).mono fun e W' ⟨s5, A5, n5, c5, l5, he, hr, hs, hf, hb⟩ => (⟨s5, A5, n5, c5, l5, he, hr, hs, XK _ _ h hb, hb⟩ : ∃ s5 A5 n5 c5 l5, e = Ending.returned (.agg #[.int .i64 s5, .slice A5 n5 c5]) ∧ RdI W' W'.heap.size A5 n5 c5 l5 ∧ Std s5 l5 z8 ∧ KS W' ∧ Below W.heap.size W W'))
    have Q2 := Lib.hid (fun W (h : KS W) => (HG2.out W ((XS W h).rd (by repeat (first | with_reducible exact List.mem_cons_self | with_reducible apply List.mem_cons_of_mem)))).mono fun e W' ⟨s5, A5, n5, c5, l5, he, hr, hs, hf, hb⟩ => (⟨s5, A5, n5, c5, l5, he, hr, hs, XK _ _ h hb, hb⟩ : ∃ s5 A5 n5 c5 l5, e = Ending.returned (.agg #[.int .i64 s5, .slice A5 n5 c5]) ∧ RdI W' W'.heap.size A5 n5 c5 l5 ∧ Std s5 l5 z8 ∧ KS W' ∧ Below W.heap.size W W'))
    have Q3 := Lib.hid (fun W (h : KS W) => (bOf_any N W HN.out).mono fun e W' ⟨s5, A5, n5, c5, l5, he, hr, hs, hf, hb⟩ => (⟨s5, A5, n5, c5, l5, he, hr, hs, XK _ _ h hb, hb⟩ : ∃ s5 A5 n5 c5 l5, e = Ending.returned (.agg #[.int .i64 s5, .slice A5 n5 c5]) ∧ RdI W' W'.heap.size A5 n5 c5 l5 ∧ Std s5 l5 N ∧ KS W' ∧ Below W.heap.size W W'))
    have Q4 := Lib.hid (fun W (h : KS W) => (eOf_any N W HN.out).mono fun e W' ⟨s5, A5, n5, c5, l5, he, hr, hs, hf, hb⟩ => (⟨s5, A5, n5, c5, l5, he, hr, hs, XK _ _ h hb, hb⟩ : ∃ s5 A5 n5 c5 l5, e = Ending.returned (.agg #[.int .i64 s5, .slice A5 n5 c5]) ∧ RdI W' W'.heap.size A5 n5 c5 l5 ∧ Std s5 l5 N ∧ KS W' ∧ Below W.heap.size W W'))
    have Q5 := Lib.hid (fun z s t A A' n cap n' cap' l m W (r1 : RdI W W.heap.size A n cap l) (r2 : RdI W W.heap.size A' n' cap' m) h1 h2 (h : KS W) => (eSameZ z s t A A' n cap n' cap' l m W r1 r2 h1 h2).mono fun e W' ⟨he, hb⟩ => (⟨he, XK _ _ h hb⟩ : e = Ending.returned (.bool true) ∧ KS W'))
    clear XF XK XS K r HG1 HG2 HR1 HR2 HC1 HC2 HM1 HM2 HX1 HX2
    go_region_held3 (fun W => KS W ∧ ((W.cell? ⟨b0, 0, none⟩ = some (.int .i64 s1) ∧ W.cell? ⟨b0, 1, none⟩ = some (.slice A1 n1 c1))))
      ((refine HSx.out _ ?_; first | assumption | exact XD.out _ X0 | exact And.left (by assumption)))
      (first
        | (go_at_call 33; (with_reducible refine (Q1.out _ (And.left (by assumption))).mono ?_); rintro e w5 ⟨s50, A50, n50, c50, l50, rfl, ra50, hs50, x50, b50⟩)
        | (go_at_call 34; (with_reducible refine (Q2.out _ (And.left (by assumption))).mono ?_); rintro e w6 ⟨s60, A60, n60, c60, l60, rfl, ra60, hs60, x60, b60⟩)
        | (go_at_call 35; (with_reducible refine (Q3.out _ (And.left (by assumption))).mono ?_); rintro e w7 ⟨s70, A70, n70, c70, l70, rfl, ra70, hs70, x70, b70⟩)
        | (go_at_call 36; (with_reducible refine (Q4.out _ (And.left (by assumption))).mono ?_); rintro e w8 ⟨s80, A80, n80, c80, l80, rfl, ra80, hs80, x80, b80⟩)
        | (go_at_call 17; (with_reducible refine (Q5.out _ _ _ _ _ _ _ _ _ _ _ _ ?ra ?rb hs50 hs60 (And.left (by assumption))).mono ?_); (case ra => (first | exact ra50 | exact ra50.up (flat_lasts _) b60)); (case rb => (first | exact ra60 | exact ra60.up (flat_lasts _) b50)); rintro e w9 ⟨rfl, x9⟩; clear ra50 ra60 b50 b60)
        | (go_at_call 17; (with_reducible refine (Q5.out _ _ _ _ _ _ _ _ _ _ _ _ ?ra ?rb hs70 hs80 (And.left (by assumption))).mono ?_); (case ra => (first | exact ra70 | exact ra70.up (flat_lasts _) b80)); (case rb => (first | exact ra80 | exact ra80.up (flat_lasts _) b70)); rintro e w9 ⟨rfl, x99⟩))
    all_goals
      have K := XSt.out _ x99
      go_wp2
      go_ret
      exact ⟨rfl, K.1⟩
  rw [decide_eq_true k1]
  clear k1 HW1
  go_wp2_with (first | ((first | (apply K.alloc; rfl; rfl; (first | with_reducible exact big_zero | with_reducible exact frac_zero)) | (apply K.box; rfl; rfl; rfl)); clear K r; (first | (have := b12; clear this; intro W b13 K) | (have := b11; clear this; intro W b12 K) | (have := b10; clear this; intro W b11 K) | (have := b9; clear this; intro W b10 K) | (have := b8; clear this; intro W b9 K) | (have := b7; clear this; intro W b8 K) | (have := b6; clear this; intro W b7 K) | (have := b5; clear this; intro W b6 K) | (have := b4; clear this; intro W b5 K) | (have := b3; clear this; intro W b4 K) | (have := b2; clear this; intro W b3 K) | (have := b1; clear this; intro W b2 K) | (have := b0; clear this; intro W b1 K) | intro W b0 K); have r := K.rawS) | (apply K.storeA; rfl; rfl; rfl; rfl; rfl; (repeat (first | with_reducible exact Upd.head _ | with_reducible apply Upd.tail)); (first | with_reducible exact big_size | with_reducible exact frac_size); rfl; rfl; rfl; clear K r; intro W K; have r := K.rawS))
  refine (HW2.out _).mono ?_
  rintro e W' ⟨rfl, hb⟩
  replace K := K.keep hb
  clear r
  have r := K.rawS
  clear hb
  by_cases k2 : (n2 : Int) ≤ 16
  case neg =>
    rw [decide_eq_false k2]
    clear k2 HW2 HA7 HB7
    go_upto_region 25 with (first | ((first | (apply K.alloc; rfl; rfl; (first | with_reducible exact big_zero | with_reducible exact frac_zero)) | (apply K.box; rfl; rfl; rfl)); clear K r; (first | (have := b12; clear this; intro W b13 K) | (have := b11; clear this; intro W b12 K) | (have := b10; clear this; intro W b11 K) | (have := b9; clear this; intro W b10 K) | (have := b8; clear this; intro W b9 K) | (have := b7; clear this; intro W b8 K) | (have := b6; clear this; intro W b7 K) | (have := b5; clear this; intro W b6 K) | (have := b4; clear this; intro W b5 K) | (have := b3; clear this; intro W b4 K) | (have := b2; clear this; intro W b3 K) | (have := b1; clear this; intro W b2 K) | (have := b0; clear this; intro W b1 K) | intro W b0 K); have r := K.rawS) | (apply K.storeA; rfl; rfl; rfl; rfl; rfl; (repeat (first | with_reducible exact Upd.head _ | with_reducible apply Upd.tail)); (first | with_reducible exact big_size | with_reducible exact frac_size); rfl; rfl; rfl; clear K r; intro W K; have r := K.rawS))
    obtain ⟨KS, X0, XK, XF, XS⟩ := K.pack2 (fun W => ((W.cell? ⟨b0, 0, none⟩ = some (.int .i64 s1) ∧ W.cell? ⟨b0, 1, none⟩ = some (.slice A1 n1 c1)) ∧ (W.cell? ⟨b1, 0, none⟩ = some (.int .i64 s2) ∧ W.cell? ⟨b1, 1, none⟩ = some (.slice A2 n2 c2)))) (fun W K => by
      have r := K.raw
      simp only [Raw, RawC, and_true, true_and, Nat.zero_add, Nat.reduceAdd] at r
      simp only [r, and_self])
    obtain ⟨ι, f, hne, hfw, hfk, hfc⟩ := cls_st KS _ X0 (fun W h => XK W W.drew h (Below.refl _ _).drew)
    have Q1 := Lib.hid (fun q => (HR1.out (f q) ((XS _ (hfk q)).rd (by repeat (first | with_reducible exact List.mem_cons_self | with_reducible apply List.mem_cons_of_mem)))).mono fun e w'' ⟨he, hb⟩ => (⟨he, hfc _ (XK _ _ (hfk q) hb)⟩ : e = Ending.returned (.bool R) ∧ ∃ s, w'' = f s))
    have Q2 := Lib.hid (fun q => (HR2.out (f q) ((XS _ (hfk q)).rd (by repeat (first | with_reducible exact List.mem_cons_self | with_reducible apply List.mem_cons_of_mem)))).mono fun e w'' ⟨he, hb⟩ => (⟨he, hfc _ (XK _ _ (hfk q) hb)⟩ : e = Ending.returned (.bool R) ∧ ∃ s, w'' = f s))
    have Q3 := Lib.hid (fun q => (HC1.out (f q) ((XS _ (hfk q)).rd (by repeat (first | with_reducible exact List.mem_cons_self | with_reducible apply List.mem_cons_of_mem))) ((XS _ (hfk q)).rd (by repeat (first | with_reducible exact List.mem_cons_self | with_reducible apply List.mem_cons_of_mem)))).mono fun e w'' ⟨he, hb⟩ => (⟨he, hfc _ (XK _ _ (hfk q) hb)⟩ : e = Ending.returned (.int .i64 C) ∧ ∃ s, w'' = f s))
    have Q4 := Lib.hid (fun q => (HC2.out (f q) ((XS _ (hfk q)).rd (by repeat (first | with_reducible exact List.mem_cons_self | with_reducible apply List.mem_cons_of_mem))) ((XS _ (hfk q)).rd (by repeat (first | with_reducible exact List.mem_cons_self | with_reducible apply List.mem_cons_of_mem)))).mono fun e w'' ⟨he, hb⟩ => (⟨he, hfc _ (XK _ _ (hfk q) hb)⟩ : e = Ending.returned (.int .i64 C) ∧ ∃ s, w'' = f s))
    have Q5 := Lib.hid (fun q => (HM1.out (f q) ((XS _ (hfk q)).rd (by repeat (first | with_reducible exact List.mem_cons_self | with_reducible apply List.mem_cons_of_mem))) ((XS _ (hfk q)).rd (by repeat (first | with_reducible exact List.mem_cons_self | with_reducible apply List.mem_cons_of_mem)))).mono fun e w'' ⟨he, hb⟩ => (⟨he, hfc _ (XK _ _ (hfk q) hb)⟩ : e = Ending.returned (.bool M) ∧ ∃ s, w'' = f s))
    have Q6 := Lib.hid (fun q => (HM2.out (f q) ((XS _ (hfk q)).rd (by repeat (first | with_reducible exact List.mem_cons_self | with_reducible apply List.mem_cons_of_mem))) ((XS _ (hfk q)).rd (by repeat (first | with_reducible exact List.mem_cons_self | with_reducible apply List.mem_cons_of_mem)))).mono fun e w'' ⟨he, hb⟩ => (⟨he, hfc _ (XK _ _ (hfk q) hb)⟩ : e = Ending.returned (.bool M) ∧ ∃ s, w'' = f s))
    have Q7 := Lib.hid (fun q => (HX1.out (f q) ((XS _ (hfk q)).rd (by repeat (first | with_reducible exact List.mem_cons_self | with_reducible apply List.mem_cons_of_mem))) (HT.out.on (XS _ (hfk q)).1)).mono fun e w'' ⟨he, hb⟩ => (⟨he, hfc _ (XK _ _ (hfk q) hb)⟩ : e = Ending.returned (.string T) ∧ ∃ s, w'' = f s))
    have Q8 := Lib.hid (fun q => (HX2.out (f q) ((XS _ (hfk q)).rd (by repeat (first | with_reducible exact List.mem_cons_self | with_reducible apply List.mem_cons_of_mem)))).mono fun e w'' ⟨he, hb⟩ => (⟨he, hfc _ (XK _ _ (hfk q) hb)⟩ : e = Ending.returned (.string T) ∧ ∃ s, w'' = f s))
    have g0 := fun n => (XF _ (hfk n)).1.1
    have g1 := fun n => (XF _ (hfk n)).1.2
    have g2 := fun n => (XF _ (hfk n)).2.1
    have g3 := fun n => (XF _ (hfk n)).2.2
    have XSt := Lib.hid (fun n => XS _ (hfk n))
    have Hfw := Lib.hid hfw
    clear XF XK XS K r hfk hfc hfw X0
    refine wp_region_cls (C := fun w' => ∃ n, w' = f n) (by kernel_rfl) (by kernel_rfl) Hfw.out ?_
    repeat (first
      | go_big_quiet_skip
      | (go_big_quiet_want; go_big_quiet_op; first | go_big_quiet_on | go_big_quiet_call (first
        | (go_at_call 26; with_reducible exact Q1.out _)
        | (go_at_call 27; with_reducible exact Q2.out _)
        | (go_at_call 28; with_reducible exact Q3.out _)
        | (go_at_call 29; with_reducible exact Q4.out _)
        | (go_at_call 30; with_reducible exact Q5.out _)
        | (go_at_call 17; with_reducible exact Q6.out _)
        | (go_at_call 31; with_reducible exact Q7.out _)
        | (go_at_call 32; with_reducible exact Q8.out _))))
    refine wpQuiet_nil ?_
    rintro _ ⟨nq, rfl⟩
    have K := XSt.out nq
    clear XSt Hfw Q1 Q2 Q3 Q4 Q5 Q6 Q7 Q8 g0 g1 g2 g3
    have r := K.rawS
    go_upto_region 26 with (first | ((first | (apply K.alloc; rfl; rfl; (first | with_reducible exact big_zero | with_reducible exact frac_zero)) | (apply K.box; rfl; rfl; rfl)); clear K r; (first | (have := b12; clear this; intro W b13 K) | (have := b11; clear this; intro W b12 K) | (have := b10; clear this; intro W b11 K) | (have := b9; clear this; intro W b10 K) | (have := b8; clear this; intro W b9 K) | (have := b7; clear this; intro W b8 K) | (have := b6; clear this; intro W b7 K) | (have := b5; clear this; intro W b6 K) | (have := b4; clear this; intro W b5 K) | (have := b3; clear this; intro W b4 K) | (have := b2; clear this; intro W b3 K) | (have := b1; clear this; intro W b2 K) | (have := b0; clear this; intro W b1 K) | intro W b0 K); have r := K.rawS) | (apply K.storeA; rfl; rfl; rfl; rfl; rfl; (repeat (first | with_reducible exact Upd.head _ | with_reducible apply Upd.tail)); (first | with_reducible exact big_size | with_reducible exact frac_size); rfl; rfl; rfl; clear K r; intro W K; have r := K.rawS))
    obtain ⟨KS, X0, XK, XF, XS⟩ := K.pack2 (fun W => ((W.cell? ⟨b0, 0, none⟩ = some (.int .i64 s1) ∧ W.cell? ⟨b0, 1, none⟩ = some (.slice A1 n1 c1)))) (fun W K => by
      have r := K.raw
      simp only [Raw, RawC, and_true, true_and, Nat.zero_add, Nat.reduceAdd] at r
      simp only [r, and_self])
    have HSx := Lib.hid (fun W (h : KS W) => (show KS W ∧ ((W.cell? ⟨b0, 0, none⟩ = some (.int .i64 s1) ∧ W.cell? ⟨b0, 1, none⟩ = some (.slice A1 n1 c1))) from ⟨h, XF W h⟩))
    have XD := Lib.hid (fun W (h : KS W) => XK W W.drew h (Below.refl _ _).drew)
    have XSt := Lib.hid XS
    have Q1 := Lib.hid (fun W (h : KS W) => (HG1.out W ((XS W h).rd (by repeat (first | with_reducible exact List.mem_cons_self | with_reducible apply List.mem_cons_of_mem)))).mono fun e W' ⟨s5, A5, n5, c5, l5, he, hr, hs, hf, hb⟩ => (⟨s5, A5, n5, c5, l5, he, hr, hs, XK _ _ h hb, hb⟩ : ∃ s5 A5 n5 c5 l5, e = Ending.returned (.agg #[.int .i64 s5, .slice A5 n5 c5]) ∧ RdI W' W'.heap.size A5 n5 c5 l5 ∧ Std s5 l5 z8 ∧ KS W' ∧ Below W.heap.size W W'))
    have Q2 := Lib.hid (fun W (h : KS W) => (HG2.out W ((XS W h).rd (by repeat (first | with_reducible exact List.mem_cons_self | with_reducible apply List.mem_cons_of_mem)))).mono fun e W' ⟨s5, A5, n5, c5, l5, he, hr, hs, hf, hb⟩ => (⟨s5, A5, n5, c5, l5, he, hr, hs, XK _ _ h hb, hb⟩ : ∃ s5 A5 n5 c5 l5, e = Ending.returned (.agg #[.int .i64 s5, .slice A5 n5 c5]) ∧ RdI W' W'.heap.size A5 n5 c5 l5 ∧ Std s5 l5 z8 ∧ KS W' ∧ Below W.heap.size W W'))
    have Q3 := Lib.hid (fun W (h : KS W) => (bOf_any N W HN.out).mono fun e W' ⟨s5, A5, n5, c5, l5, he, hr, hs, hf, hb⟩ => (⟨s5, A5, n5, c5, l5, he, hr, hs, XK _ _ h hb, hb⟩ : ∃ s5 A5 n5 c5 l5, e = Ending.returned (.agg #[.int .i64 s5, .slice A5 n5 c5]) ∧ RdI W' W'.heap.size A5 n5 c5 l5 ∧ Std s5 l5 N ∧ KS W' ∧ Below W.heap.size W W'))
    have Q4 := Lib.hid (fun W (h : KS W) => (eOf_any N W HN.out).mono fun e W' ⟨s5, A5, n5, c5, l5, he, hr, hs, hf, hb⟩ => (⟨s5, A5, n5, c5, l5, he, hr, hs, XK _ _ h hb, hb⟩ : ∃ s5 A5 n5 c5 l5, e = Ending.returned (.agg #[.int .i64 s5, .slice A5 n5 c5]) ∧ RdI W' W'.heap.size A5 n5 c5 l5 ∧ Std s5 l5 N ∧ KS W' ∧ Below W.heap.size W W'))
    have Q5 := Lib.hid (fun z s t A A' n cap n' cap' l m W (r1 : RdI W W.heap.size A n cap l) (r2 : RdI W W.heap.size A' n' cap' m) h1 h2 (h : KS W) => (eSameZ z s t A A' n cap n' cap' l m W r1 r2 h1 h2).mono fun e W' ⟨he, hb⟩ => (⟨he, XK _ _ h hb⟩ : e = Ending.returned (.bool true) ∧ KS W'))
    clear XF XK XS K r HG1 HG2 HR1 HR2 HC1 HC2 HM1 HM2 HX1 HX2
    go_region_held3 (fun W => KS W ∧ ((W.cell? ⟨b0, 0, none⟩ = some (.int .i64 s1) ∧ W.cell? ⟨b0, 1, none⟩ = some (.slice A1 n1 c1))))
      ((refine HSx.out _ ?_; first | assumption | exact XD.out _ X0 | exact And.left (by assumption)))
      (first
        | (go_at_call 33; (with_reducible refine (Q1.out _ (And.left (by assumption))).mono ?_); rintro e w5 ⟨s50, A50, n50, c50, l50, rfl, ra50, hs50, x50, b50⟩)
        | (go_at_call 34; (with_reducible refine (Q2.out _ (And.left (by assumption))).mono ?_); rintro e w6 ⟨s60, A60, n60, c60, l60, rfl, ra60, hs60, x60, b60⟩)
        | (go_at_call 35; (with_reducible refine (Q3.out _ (And.left (by assumption))).mono ?_); rintro e w7 ⟨s70, A70, n70, c70, l70, rfl, ra70, hs70, x70, b70⟩)
        | (go_at_call 36; (with_reducible refine (Q4.out _ (And.left (by assumption))).mono ?_); rintro e w8 ⟨s80, A80, n80, c80, l80, rfl, ra80, hs80, x80, b80⟩)
        | (go_at_call 17; (with_reducible refine (Q5.out _ _ _ _ _ _ _ _ _ _ _ _ ?ra ?rb hs50 hs60 (And.left (by assumption))).mono ?_); (case ra => (first | exact ra50 | exact ra50.up (flat_lasts _) b60)); (case rb => (first | exact ra60 | exact ra60.up (flat_lasts _) b50)); rintro e w9 ⟨rfl, x9⟩; clear ra50 ra60 b50 b60)
        | (go_at_call 17; (with_reducible refine (Q5.out _ _ _ _ _ _ _ _ _ _ _ _ ?ra ?rb hs70 hs80 (And.left (by assumption))).mono ?_); (case ra => (first | exact ra70 | exact ra70.up (flat_lasts _) b80)); (case rb => (first | exact ra80 | exact ra80.up (flat_lasts _) b70)); rintro e w9 ⟨rfl, x99⟩))
    all_goals
      have K := XSt.out _ x99
      go_wp2
      go_ret
      exact ⟨rfl, K.1⟩
  rw [decide_eq_true k2]
  clear k2 HW2
  go_wp2_with (first | ((first | (apply K.alloc; rfl; rfl; (first | with_reducible exact big_zero | with_reducible exact frac_zero)) | (apply K.box; rfl; rfl; rfl)); clear K r; (first | (have := b12; clear this; intro W b13 K) | (have := b11; clear this; intro W b12 K) | (have := b10; clear this; intro W b11 K) | (have := b9; clear this; intro W b10 K) | (have := b8; clear this; intro W b9 K) | (have := b7; clear this; intro W b8 K) | (have := b6; clear this; intro W b7 K) | (have := b5; clear this; intro W b6 K) | (have := b4; clear this; intro W b5 K) | (have := b3; clear this; intro W b4 K) | (have := b2; clear this; intro W b3 K) | (have := b1; clear this; intro W b2 K) | (have := b0; clear this; intro W b1 K) | intro W b0 K); have r := K.rawS) | (apply K.storeA; rfl; rfl; rfl; rfl; rfl; (repeat (first | with_reducible exact Upd.head _ | with_reducible apply Upd.tail)); (first | with_reducible exact big_size | with_reducible exact frac_size); rfl; rfl; rfl; clear K r; intro W K; have r := K.rawS))
  refine (HA7.out _ (by first | exact Rd.nil | exact K.rda) (by first | exact Rd.nil | exact K.rda)).mono ?_
  rintro e W' ⟨s15, A15, n15, c15, l15, rfl, hr, hs15, hf, hb⟩
  replace K := K.ret hb hr hf
  clear r hr hf hb
  have r := K.rawS
  go_wp2_with (first | ((first | (apply K.alloc; rfl; rfl; (first | with_reducible exact big_zero | with_reducible exact frac_zero)) | (apply K.box; rfl; rfl; rfl)); clear K r; (first | (have := b12; clear this; intro W b13 K) | (have := b11; clear this; intro W b12 K) | (have := b10; clear this; intro W b11 K) | (have := b9; clear this; intro W b10 K) | (have := b8; clear this; intro W b9 K) | (have := b7; clear this; intro W b8 K) | (have := b6; clear this; intro W b7 K) | (have := b5; clear this; intro W b6 K) | (have := b4; clear this; intro W b5 K) | (have := b3; clear this; intro W b4 K) | (have := b2; clear this; intro W b3 K) | (have := b1; clear this; intro W b2 K) | (have := b0; clear this; intro W b1 K) | intro W b0 K); have r := K.rawS) | (apply K.storeA; rfl; rfl; rfl; rfl; rfl; (repeat (first | with_reducible exact Upd.head _ | with_reducible apply Upd.tail)); (first | with_reducible exact big_size | with_reducible exact frac_size); rfl; rfl; rfl; clear K r; intro W K; have r := K.rawS))
  refine (HB7.out _ (by first | exact Rd.nil | exact K.rda) (by first | exact Rd.nil | exact K.rda)).mono ?_
  rintro e W' ⟨s16, A16, n16, c16, l16, rfl, hr, hs16, hf, hb⟩
  replace K := K.ret hb hr hf
  clear r hr hf hb
  have r := K.rawS
  clear HA7 HB7
  go_wp2_with (first | ((first | (apply K.alloc; rfl; rfl; (first | with_reducible exact big_zero | with_reducible exact frac_zero)) | (apply K.box; rfl; rfl; rfl)); clear K r; (first | (have := b12; clear this; intro W b13 K) | (have := b11; clear this; intro W b12 K) | (have := b10; clear this; intro W b11 K) | (have := b9; clear this; intro W b10 K) | (have := b8; clear this; intro W b9 K) | (have := b7; clear this; intro W b8 K) | (have := b6; clear this; intro W b7 K) | (have := b5; clear this; intro W b6 K) | (have := b4; clear this; intro W b5 K) | (have := b3; clear this; intro W b4 K) | (have := b2; clear this; intro W b3 K) | (have := b1; clear this; intro W b2 K) | (have := b0; clear this; intro W b1 K) | intro W b0 K); have r := K.rawS) | (apply K.storeA; rfl; rfl; rfl; rfl; rfl; (repeat (first | with_reducible exact Upd.head _ | with_reducible apply Upd.tail)); (first | with_reducible exact big_size | with_reducible exact frac_size); rfl; rfl; rfl; clear K r; intro W K; have r := K.rawS))
  refine (eSameZ _ _ _ _ _ _ _ _ _ _ _ _ (by first | exact Rd.nil | exact K.rda) (by first | exact Rd.nil | exact K.rda) hs15 hs16).mono ?_
  rintro e W' ⟨rfl, hb⟩
  replace K := K.keep hb
  clear r
  have r := K.rawS
  clear hb
  clear hs15 hs16
  replace K := K.less (D' := [⟨rdP A2 n2 c2 l2, oldS w⟩, ⟨rdP A1 n1 c1 l1, oldS w⟩]) (by simp only [List.mem_cons, List.not_mem_nil, or_false, forall_eq_or_imp, forall_eq, true_or, or_true, and_self])
  clear r
  have r := K.rawS
  go_upto_region 25 with (first | ((first | (apply K.alloc; rfl; rfl; (first | with_reducible exact big_zero | with_reducible exact frac_zero)) | (apply K.box; rfl; rfl; rfl)); clear K r; (first | (have := b12; clear this; intro W b13 K) | (have := b11; clear this; intro W b12 K) | (have := b10; clear this; intro W b11 K) | (have := b9; clear this; intro W b10 K) | (have := b8; clear this; intro W b9 K) | (have := b7; clear this; intro W b8 K) | (have := b6; clear this; intro W b7 K) | (have := b5; clear this; intro W b6 K) | (have := b4; clear this; intro W b5 K) | (have := b3; clear this; intro W b4 K) | (have := b2; clear this; intro W b3 K) | (have := b1; clear this; intro W b2 K) | (have := b0; clear this; intro W b1 K) | intro W b0 K); have r := K.rawS) | (apply K.storeA; rfl; rfl; rfl; rfl; rfl; (repeat (first | with_reducible exact Upd.head _ | with_reducible apply Upd.tail)); (first | with_reducible exact big_size | with_reducible exact frac_size); rfl; rfl; rfl; clear K r; intro W K; have r := K.rawS))
  obtain ⟨KS, X0, XK, XF, XS⟩ := K.pack2 (fun W => ((W.cell? ⟨b0, 0, none⟩ = some (.int .i64 s1) ∧ W.cell? ⟨b0, 1, none⟩ = some (.slice A1 n1 c1)) ∧ (W.cell? ⟨b1, 0, none⟩ = some (.int .i64 s2) ∧ W.cell? ⟨b1, 1, none⟩ = some (.slice A2 n2 c2)))) (fun W K => by
    have r := K.raw
    simp only [Raw, RawC, and_true, true_and, Nat.zero_add, Nat.reduceAdd] at r
    simp only [r, and_self])
  obtain ⟨ι, f, hne, hfw, hfk, hfc⟩ := cls_st KS _ X0 (fun W h => XK W W.drew h (Below.refl _ _).drew)
  have Q1 := Lib.hid (fun q => (HR1.out (f q) ((XS _ (hfk q)).rd (by repeat (first | with_reducible exact List.mem_cons_self | with_reducible apply List.mem_cons_of_mem)))).mono fun e w'' ⟨he, hb⟩ => (⟨he, hfc _ (XK _ _ (hfk q) hb)⟩ : e = Ending.returned (.bool R) ∧ ∃ s, w'' = f s))
  have Q2 := Lib.hid (fun q => (HR2.out (f q) ((XS _ (hfk q)).rd (by repeat (first | with_reducible exact List.mem_cons_self | with_reducible apply List.mem_cons_of_mem)))).mono fun e w'' ⟨he, hb⟩ => (⟨he, hfc _ (XK _ _ (hfk q) hb)⟩ : e = Ending.returned (.bool R) ∧ ∃ s, w'' = f s))
  have Q3 := Lib.hid (fun q => (HC1.out (f q) ((XS _ (hfk q)).rd (by repeat (first | with_reducible exact List.mem_cons_self | with_reducible apply List.mem_cons_of_mem))) ((XS _ (hfk q)).rd (by repeat (first | with_reducible exact List.mem_cons_self | with_reducible apply List.mem_cons_of_mem)))).mono fun e w'' ⟨he, hb⟩ => (⟨he, hfc _ (XK _ _ (hfk q) hb)⟩ : e = Ending.returned (.int .i64 C) ∧ ∃ s, w'' = f s))
  have Q4 := Lib.hid (fun q => (HC2.out (f q) ((XS _ (hfk q)).rd (by repeat (first | with_reducible exact List.mem_cons_self | with_reducible apply List.mem_cons_of_mem))) ((XS _ (hfk q)).rd (by repeat (first | with_reducible exact List.mem_cons_self | with_reducible apply List.mem_cons_of_mem)))).mono fun e w'' ⟨he, hb⟩ => (⟨he, hfc _ (XK _ _ (hfk q) hb)⟩ : e = Ending.returned (.int .i64 C) ∧ ∃ s, w'' = f s))
  have Q5 := Lib.hid (fun q => (HM1.out (f q) ((XS _ (hfk q)).rd (by repeat (first | with_reducible exact List.mem_cons_self | with_reducible apply List.mem_cons_of_mem))) ((XS _ (hfk q)).rd (by repeat (first | with_reducible exact List.mem_cons_self | with_reducible apply List.mem_cons_of_mem)))).mono fun e w'' ⟨he, hb⟩ => (⟨he, hfc _ (XK _ _ (hfk q) hb)⟩ : e = Ending.returned (.bool M) ∧ ∃ s, w'' = f s))
  have Q6 := Lib.hid (fun q => (HM2.out (f q) ((XS _ (hfk q)).rd (by repeat (first | with_reducible exact List.mem_cons_self | with_reducible apply List.mem_cons_of_mem))) ((XS _ (hfk q)).rd (by repeat (first | with_reducible exact List.mem_cons_self | with_reducible apply List.mem_cons_of_mem)))).mono fun e w'' ⟨he, hb⟩ => (⟨he, hfc _ (XK _ _ (hfk q) hb)⟩ : e = Ending.returned (.bool M) ∧ ∃ s, w'' = f s))
  have Q7 := Lib.hid (fun q => (HX1.out (f q) ((XS _ (hfk q)).rd (by repeat (first | with_reducible exact List.mem_cons_self | with_reducible apply List.mem_cons_of_mem))) (HT.out.on (XS _ (hfk q)).1)).mono fun e w'' ⟨he, hb⟩ => (⟨he, hfc _ (XK _ _ (hfk q) hb)⟩ : e = Ending.returned (.string T) ∧ ∃ s, w'' = f s))
  have Q8 := Lib.hid (fun q => (HX2.out (f q) ((XS _ (hfk q)).rd (by repeat (first | with_reducible exact List.mem_cons_self | with_reducible apply List.mem_cons_of_mem)))).mono fun e w'' ⟨he, hb⟩ => (⟨he, hfc _ (XK _ _ (hfk q) hb)⟩ : e = Ending.returned (.string T) ∧ ∃ s, w'' = f s))
  have g0 := fun n => (XF _ (hfk n)).1.1
  have g1 := fun n => (XF _ (hfk n)).1.2
  have g2 := fun n => (XF _ (hfk n)).2.1
  have g3 := fun n => (XF _ (hfk n)).2.2
  have XSt := Lib.hid (fun n => XS _ (hfk n))
  have Hfw := Lib.hid hfw
  clear XF XK XS K r hfk hfc hfw X0
  refine wp_region_cls (C := fun w' => ∃ n, w' = f n) (by kernel_rfl) (by kernel_rfl) Hfw.out ?_
  repeat (first
    | go_big_quiet_skip
    | (go_big_quiet_want; go_big_quiet_op; first | go_big_quiet_on | go_big_quiet_call (first
      | (go_at_call 26; with_reducible exact Q1.out _)
      | (go_at_call 27; with_reducible exact Q2.out _)
      | (go_at_call 28; with_reducible exact Q3.out _)
      | (go_at_call 29; with_reducible exact Q4.out _)
      | (go_at_call 30; with_reducible exact Q5.out _)
      | (go_at_call 17; with_reducible exact Q6.out _)
      | (go_at_call 31; with_reducible exact Q7.out _)
      | (go_at_call 32; with_reducible exact Q8.out _))))
  refine wpQuiet_nil ?_
  rintro _ ⟨nq, rfl⟩
  have K := XSt.out nq
  clear XSt Hfw Q1 Q2 Q3 Q4 Q5 Q6 Q7 Q8 g0 g1 g2 g3
  have r := K.rawS
  go_upto_region 26 with (first | ((first | (apply K.alloc; rfl; rfl; (first | with_reducible exact big_zero | with_reducible exact frac_zero)) | (apply K.box; rfl; rfl; rfl)); clear K r; (first | (have := b12; clear this; intro W b13 K) | (have := b11; clear this; intro W b12 K) | (have := b10; clear this; intro W b11 K) | (have := b9; clear this; intro W b10 K) | (have := b8; clear this; intro W b9 K) | (have := b7; clear this; intro W b8 K) | (have := b6; clear this; intro W b7 K) | (have := b5; clear this; intro W b6 K) | (have := b4; clear this; intro W b5 K) | (have := b3; clear this; intro W b4 K) | (have := b2; clear this; intro W b3 K) | (have := b1; clear this; intro W b2 K) | (have := b0; clear this; intro W b1 K) | intro W b0 K); have r := K.rawS) | (apply K.storeA; rfl; rfl; rfl; rfl; rfl; (repeat (first | with_reducible exact Upd.head _ | with_reducible apply Upd.tail)); (first | with_reducible exact big_size | with_reducible exact frac_size); rfl; rfl; rfl; clear K r; intro W K; have r := K.rawS))
  obtain ⟨KS, X0, XK, XF, XS⟩ := K.pack2 (fun W => ((W.cell? ⟨b0, 0, none⟩ = some (.int .i64 s1) ∧ W.cell? ⟨b0, 1, none⟩ = some (.slice A1 n1 c1)))) (fun W K => by
    have r := K.raw
    simp only [Raw, RawC, and_true, true_and, Nat.zero_add, Nat.reduceAdd] at r
    simp only [r, and_self])
  have HSx := Lib.hid (fun W (h : KS W) => (show KS W ∧ ((W.cell? ⟨b0, 0, none⟩ = some (.int .i64 s1) ∧ W.cell? ⟨b0, 1, none⟩ = some (.slice A1 n1 c1))) from ⟨h, XF W h⟩))
  have XD := Lib.hid (fun W (h : KS W) => XK W W.drew h (Below.refl _ _).drew)
  have XSt := Lib.hid XS
  have Q1 := Lib.hid (fun W (h : KS W) => (HG1.out W ((XS W h).rd (by repeat (first | with_reducible exact List.mem_cons_self | with_reducible apply List.mem_cons_of_mem)))).mono fun e W' ⟨s5, A5, n5, c5, l5, he, hr, hs, hf, hb⟩ => (⟨s5, A5, n5, c5, l5, he, hr, hs, XK _ _ h hb, hb⟩ : ∃ s5 A5 n5 c5 l5, e = Ending.returned (.agg #[.int .i64 s5, .slice A5 n5 c5]) ∧ RdI W' W'.heap.size A5 n5 c5 l5 ∧ Std s5 l5 z8 ∧ KS W' ∧ Below W.heap.size W W'))
  have Q2 := Lib.hid (fun W (h : KS W) => (HG2.out W ((XS W h).rd (by repeat (first | with_reducible exact List.mem_cons_self | with_reducible apply List.mem_cons_of_mem)))).mono fun e W' ⟨s5, A5, n5, c5, l5, he, hr, hs, hf, hb⟩ => (⟨s5, A5, n5, c5, l5, he, hr, hs, XK _ _ h hb, hb⟩ : ∃ s5 A5 n5 c5 l5, e = Ending.returned (.agg #[.int .i64 s5, .slice A5 n5 c5]) ∧ RdI W' W'.heap.size A5 n5 c5 l5 ∧ Std s5 l5 z8 ∧ KS W' ∧ Below W.heap.size W W'))
  have Q3 := Lib.hid (fun W (h : KS W) => (bOf_any N W HN.out).mono fun e W' ⟨s5, A5, n5, c5, l5, he, hr, hs, hf, hb⟩ => (⟨s5, A5, n5, c5, l5, he, hr, hs, XK _ _ h hb, hb⟩ : ∃ s5 A5 n5 c5 l5, e = Ending.returned (.agg #[.int .i64 s5, .slice A5 n5 c5]) ∧ RdI W' W'.heap.size A5 n5 c5 l5 ∧ Std s5 l5 N ∧ KS W' ∧ Below W.heap.size W W'))
  have Q4 := Lib.hid (fun W (h : KS W) => (eOf_any N W HN.out).mono fun e W' ⟨s5, A5, n5, c5, l5, he, hr, hs, hf, hb⟩ => (⟨s5, A5, n5, c5, l5, he, hr, hs, XK _ _ h hb, hb⟩ : ∃ s5 A5 n5 c5 l5, e = Ending.returned (.agg #[.int .i64 s5, .slice A5 n5 c5]) ∧ RdI W' W'.heap.size A5 n5 c5 l5 ∧ Std s5 l5 N ∧ KS W' ∧ Below W.heap.size W W'))
  have Q5 := Lib.hid (fun z s t A A' n cap n' cap' l m W (r1 : RdI W W.heap.size A n cap l) (r2 : RdI W W.heap.size A' n' cap' m) h1 h2 (h : KS W) => (eSameZ z s t A A' n cap n' cap' l m W r1 r2 h1 h2).mono fun e W' ⟨he, hb⟩ => (⟨he, XK _ _ h hb⟩ : e = Ending.returned (.bool true) ∧ KS W'))
  clear XF XK XS K r HG1 HG2 HR1 HR2 HC1 HC2 HM1 HM2 HX1 HX2
  go_region_held3 (fun W => KS W ∧ ((W.cell? ⟨b0, 0, none⟩ = some (.int .i64 s1) ∧ W.cell? ⟨b0, 1, none⟩ = some (.slice A1 n1 c1))))
    ((refine HSx.out _ ?_; first | assumption | exact XD.out _ X0 | exact And.left (by assumption)))
    (first
      | (go_at_call 33; (with_reducible refine (Q1.out _ (And.left (by assumption))).mono ?_); rintro e w5 ⟨s50, A50, n50, c50, l50, rfl, ra50, hs50, x50, b50⟩)
      | (go_at_call 34; (with_reducible refine (Q2.out _ (And.left (by assumption))).mono ?_); rintro e w6 ⟨s60, A60, n60, c60, l60, rfl, ra60, hs60, x60, b60⟩)
      | (go_at_call 35; (with_reducible refine (Q3.out _ (And.left (by assumption))).mono ?_); rintro e w7 ⟨s70, A70, n70, c70, l70, rfl, ra70, hs70, x70, b70⟩)
      | (go_at_call 36; (with_reducible refine (Q4.out _ (And.left (by assumption))).mono ?_); rintro e w8 ⟨s80, A80, n80, c80, l80, rfl, ra80, hs80, x80, b80⟩)
      | (go_at_call 17; (with_reducible refine (Q5.out _ _ _ _ _ _ _ _ _ _ _ _ ?ra ?rb hs50 hs60 (And.left (by assumption))).mono ?_); (case ra => (first | exact ra50 | exact ra50.up (flat_lasts _) b60)); (case rb => (first | exact ra60 | exact ra60.up (flat_lasts _) b50)); rintro e w9 ⟨rfl, x9⟩; clear ra50 ra60 b50 b60)
      | (go_at_call 17; (with_reducible refine (Q5.out _ _ _ _ _ _ _ _ _ _ _ _ ?ra ?rb hs70 hs80 (And.left (by assumption))).mono ?_); (case ra => (first | exact ra70 | exact ra70.up (flat_lasts _) b80)); (case rb => (first | exact ra80 | exact ra80.up (flat_lasts _) b70)); rintro e w9 ⟨rfl, x99⟩))
  all_goals
    have K := XSt.out _ x99
    go_wp2
    go_ret
    exact ⟨rfl, K.1⟩
end Go.Proofs.YtkeajohkpmabcaaGreatDoor
