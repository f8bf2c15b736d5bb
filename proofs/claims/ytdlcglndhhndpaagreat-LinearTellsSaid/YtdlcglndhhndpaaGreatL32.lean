/- Laws and walks; conditions stand in each theorem. -/
import Derived.Test.YtdlcglndhhndpaaGreatL22
import Derived.Test.YtdlcglndhhndpaaGreatL31
import Derived.Test.YtdlcglndhhndpaaGreatL07
import Derived.Test.YtdlcglndhhndpaaGreatL30
set_option linter.unusedSimpArgs false
set_option linter.unusedVariables false
set_option maxHeartbeats 4000000
set_option maxRecDepth 100000
namespace Go.Proofs.YtdlcglndhhndpaaGreat
open Go.RowKit
theorem ZL3 {p : Prop} (h : p := by
 first
  | (rw [z1, z2] at HQ
     clear z1 z2 HB V1 V2
     go_enter Tryz.func55, Tryz.ntmps55
     go_wp2_with (first | (refine ZAL ?_; clear K r; intro W b K r) | (refine ZST ?_; clear K r; intro W K r))
     refine (HR1.out _ ZRD ZRD).mono ?_
     rintro e W' ⟨rfl, hb⟩
     replace K := K.keep hb
     clear r
     have r := K.rawS
     clear hb
     go_wp2_with (first | (refine ZAL ?_; clear K r; intro W b K r) | (refine ZST ?_; clear K r; intro W K r))
     refine (HR2.out _ ZRD ZRD).mono ?_
     rintro e W' ⟨rfl, hb⟩
     replace K := K.keep hb
     clear r
     have r := K.rawS
     clear hb
     go_wp2_with (first | (refine ZAL ?_; clear K r; intro W b K r) | (refine ZST ?_; clear K r; intro W K r))
     refine (HM1.out _ ZRD ZRD).mono ?_
     rintro e W' ⟨s5, A5, n5, c5, l5, rfl, hr, hs5, hf, hb⟩
     have hf5 := Lib.hid (hf.mono K.1.size)
     replace K := K.ret hb hr hf
     clear r
     have r := K.rawS
     clear hr hf hb
     go_wp2_with (first | (refine ZAL ?_; clear K r; intro W b K r) | (refine ZST ?_; clear K r; intro W K r))
     refine (HM.out _ ZRD ZRD).mono ?_
     rintro e W' ⟨s6, A6, n6, c6, l6, rfl, hr, hs6, hf, hb⟩
     have hf6 := Lib.hid (hf.mono K.1.size)
     replace K := K.ret hb hr hf
     clear r
     have r := K.rawS
     clear hr hf hb
     go_wp2_with (first | (refine ZAL ?_; clear K r; intro W b K r) | (refine ZST ?_; clear K r; intro W K r))
     refine (HQ.out _ _ _ _ _ _ _ _ _ _ _ ZRD ZRD hs5 hs6).mono ?_
     clear hs5 hs6
     rintro e W' ⟨s7, A7, n7, c7, l7, t7, B7, m7, d7, k7, rfl, ⟨hra, hrb⟩, ho, ⟨hfa, hfb⟩, hb⟩
     have hf7 := Lib.hid (hfa.mono K.1.size)
     have hg7 := Lib.hid (hfb.mono K.1.size)
     replace K := K.retF hb hra hrb hfa hfb
     clear r
     have r := K.rawS
     clear hra hrb hfa hfb hb
     go_wp2_with (first | (refine ZAL ?_; clear K r; intro W b K r) | (refine ZST ?_; clear K r; intro W K r))
     have HE := Lib.hid (⟨s7, A7, n7, c7, l7, t7, B7, m7, d7, k7, rfl, ⟨ZRD, ZRD⟩, ho, ⟨hf7.out, hg7.out⟩, K.1⟩ : FrE w O E (.returned (.tuple #[.agg #[.int .i64 s7, .slice A7 n7 c7, .int .i64 t7, .slice B7 m7 d7], .int .i64 E])) W)
     clear ho
     exact bodyPost_ret (v := .tuple #[.agg #[.int .i64 s7, .slice A7 n7 c7, .int .i64 t7, .slice B7 m7 d7], .int .i64 E]) (by simp [results, Tryz.results55, go_sem, r]) rfl HE.out)
  | fail) : p := h
theorem ZL49 {p : Prop} (h : p := by
 first
  | (rintro e W' ⟨rfl, hb⟩
     replace K := K.keep hb
     clear r
     have r := K.rawS
     clear hb
     go_wp2_with (first | (refine ZAL ?_; clear K r; intro W b K r) | (refine ZST ?_; clear K r; intro W K r))
     exact bodyPost_ret (v := .tuple #[.agg #[.int .i64 0, .slice none 0 0, .int .i64 0, .slice none 0 0], .int .i64 1]) (by simp [results, Tryz.results55, go_sem, r]) rfl (Hno.out _ _ K.1))
  | fail) : p := h
theorem six_ne : ((6 : Int) != 0) = true := rfl
theorem nil_ne : ((0 : Int) != 0) = false := rfl
theorem mad_bad {x y : Int} {z : Rat} : madO true x y = binO true false z ∧ madE true y = binE true false := ⟨rfl, rfl⟩
theorem mad_ok {x y : Int} {z : Rat} (hy : y ≠ 0) (hz : Rat.divInt x y = z) : madO false x y = binO true true z ∧ madE false y = binE true true := by
 refine ⟨?_, ?_⟩
 · unfold madO; rw [if_neg (by simp), newO_yes hy, hz]; exact (if_pos ⟨rfl, rfl⟩).symm
 · unfold madE; rw [if_neg (by simp), newE_yes hy]; rfl
theorem mad_mul (x y : Rat) (b : Bool) (hb : b = ((errZ true (x.num * y.num) != 0) || (errZ true ((x.den : Int) * y.den) != 0))) : madO b (resZ true (x.num * y.num)) (resZ true ((x.den : Int) * y.den)) = binO true (mulK x y) (x * y) ∧ madE b (resZ true ((x.den : Int) * y.den)) = binE true (mulK x y) := by
 unfold mulK
 cases k1 : fits (x.num * y.num)
 · rw [errZ_f k1, six_ne, Bool.true_or] at hb
   rw [hb, Bool.false_and]; exact mad_bad
 cases k2 : fits ((x.den : Int) * y.den)
 · rw [errZ_f k2, six_ne, Bool.or_true] at hb
   rw [hb, Bool.true_and]; exact mad_bad
 rw [errZ_t k1, errZ_t k2, nil_ne] at hb
 rw [hb, resZ_t k1, resZ_t k2]
 exact mad_ok (Int.ne_of_gt (den_mul_pos x y)) (rat_mul x y)
theorem mad_add (x y : Rat) (b : Bool) (hb : b = ((((errZ true (x.num * y.den) != 0) || (errZ true (y.num * x.den) != 0)) || (errZ true ((x.den : Int) * y.den) != 0)) || (errZ true (resZ true (x.num * y.den) + resZ true (y.num * x.den)) != 0))) : madO b (resZ true (resZ true (x.num * y.den) + resZ true (y.num * x.den))) (resZ true ((x.den : Int) * y.den)) = binO true (addK x y) (x + y) ∧ madE b (resZ true ((x.den : Int) * y.den)) = binE true (addK x y) := by
 unfold addK sumK
 cases k1 : fits (x.num * y.den)
 · rw [errZ_f k1, six_ne, Bool.true_or, Bool.true_or, Bool.true_or] at hb
   rw [hb, Bool.false_and, Bool.false_and]; exact mad_bad
 cases k2 : fits (y.num * x.den)
 · rw [errZ_f k2, six_ne, Bool.or_true, Bool.true_or, Bool.true_or] at hb
   rw [hb, Bool.false_and, Bool.and_false, Bool.false_and]; exact mad_bad
 cases k3 : fits ((x.den : Int) * y.den)
 · rw [errZ_f k3, six_ne, Bool.or_true, Bool.true_or] at hb
   rw [hb, Bool.and_false]; exact mad_bad
 rw [resZ_t k1, resZ_t k2] at hb ⊢
 cases k4 : fits (x.num * y.den + y.num * x.den)
 · rw [errZ_f k4, six_ne, Bool.or_true] at hb
   rw [hb, Bool.and_false, Bool.and_false, Bool.false_and]; exact mad_bad
 rw [errZ_t k1, errZ_t k2, errZ_t k3, errZ_t k4, nil_ne] at hb
 rw [hb, resZ_t k4, resZ_t k3]
 exact mad_ok (Int.ne_of_gt (den_mul_pos x y)) (rat_add x y)
theorem gMul_any (s1 t1 s2 t2 : Int) (A1 B1 A2 B2 : Option Addr) (n1 c1 m1 d1 n2 c2 m2 d2 : Nat) (l1 k1 l2 k2 : List Int) (w : World) (r1 : RdI w w.heap.size A1 n1 c1 l1) (q1 : RdI w w.heap.size B1 m1 d1 k1) (r2 : RdI w w.heap.size A2 n2 c2 l2) (q2 : RdI w w.heap.size B2 m2 d2 k2) :
 Calls Tryz.prog 55 #[.agg #[.int .i64 s1, .slice A1 n1 c1, .int .i64 t1, .slice B1 m1 d1], .agg #[.int .i64 s2, .slice A2 n2 c2, .int .i64 t2, .slice B2 m2 d2]] w (FrE w (binO (rightF s1 l1 t1 k1 && rightF s2 l2 t2 k2) (mulK (ratF s1 l1 t1 k1) (ratF s2 l2 t2 k2)) (ratF s1 l1 t1 k1 * ratF s2 l2 t2 k2)) (binE (rightF s1 l1 t1 k1 && rightF s2 l2 t2 k2) (mulK (ratF s1 l1 t1 k1) (ratF s2 l2 t2 k2)))) := by
 have K := ((((St.start w).oldRd r1).oldRd q1).oldRd r2).oldRd q2
 have r := K.raw
 have HR1 := Lib.hid (fun W h g => gRight_any s1 t1 A1 B1 n1 c1 m1 d1 l1 k1 W h g)
 have HR2 := Lib.hid (fun W h g => gRight_any s2 t2 A2 B2 n2 c2 m2 d2 l2 k2 W h g)
 have Hno := Lib.hid (fun W (c : Int) (h : Below w.heap.size w W) => (⟨0, none, 0, 0, [], 0, none, 0, 0, [], rfl, ⟨Rd.nil, Rd.nil⟩, ⟨rfl, rfl, rfl, rfl⟩, ⟨FrA.none, FrA.none⟩, h⟩ : FrE w none c (.returned (.tuple #[.agg #[.int .i64 0, .slice none 0 0, .int .i64 0, .slice none 0 0], .int .i64 c])) W))
 cases h1 : rightF s1 l1 t1 k1
 · rw [h1] at HR1
   rw [Bool.false_and, binO_no, binE_no]
   clear h1
   go_enter Tryz.func55, Tryz.ntmps55
   go_wp2_with (first | (refine ZAL ?_; clear K r; intro W b K r) | (refine ZST ?_; clear K r; intro W K r))
   refine (HR1.out _ ZRD ZRD).mono ?_
   exact ZL49
 cases h2 : rightF s2 l2 t2 k2
 · rw [h1] at HR1
   rw [h2] at HR2
   rw [Bool.true_and, binO_no, binE_no]
   clear h1 h2
   go_enter Tryz.func55, Tryz.ntmps55
   go_wp2_with (first | (refine ZAL ?_; clear K r; intro W b K r) | (refine ZST ?_; clear K r; intro W K r))
   refine (HR1.out _ ZRD ZRD).mono ?_
   rintro e W' ⟨rfl, hb⟩
   replace K := K.keep hb
   clear r
   have r := K.rawS
   clear hb
   go_wp2_with (first | (refine ZAL ?_; clear K r; intro W b K r) | (refine ZST ?_; clear K r; intro W K r))
   refine (HR2.out _ ZRD ZRD).mono ?_
   exact ZL49
 rw [h1] at HR1
 rw [h2] at HR2
 obtain ⟨⟨S1, T1⟩, F1⟩ := rightF_std h1
 obtain ⟨⟨S2, T2⟩, F2⟩ := rightF_std h2
 have a1 := fitsF_num F1
 have a2 := fitsF_den F1
 have a3 := fitsF_num F2
 have a4 := fitsF_den F2
 rw [Bool.true_and]
 generalize ratF s1 l1 t1 k1 = x at *
 generalize ratF s2 l2 t2 k2 = y at *
 have HB := Lib.hid (mad_mul x y)
 have HM1 := Lib.hid (fun W hl hm => uMul x.num y.num s1 A1 n1 c1 l1 s2 A2 n2 c2 l2 W hl hm S1 S2 a1 a3)
 have HM := Lib.hid (fun W hl hm => uMul x.den y.den t1 B1 m1 d1 k1 t2 B2 m2 d2 k2 W hl hm T1 T2 a2 a4)
 have V1 := fits_resZ true (x.num * y.num)
 have V2 := fits_resZ true ((x.den : Int) * y.den)
 generalize errZ true (x.num * y.num) = E1 at *
 generalize resZ true (x.num * y.num) = Z1 at *
 generalize errZ true ((x.den : Int) * y.den) = E2 at *
 generalize resZ true ((x.den : Int) * y.den) = Z2 at *
 generalize binO true (mulK x y) (x * y) = O at *
 generalize binE true (mulK x y) = E at *
 clear S1 S2 T1 T2 F1 F2 a1 a2 a3 a4 h1 h2
 cases hd1 : (E1 != 0) <;> cases hd2 : (E2 != 0)
 · obtain ⟨z1, z2⟩ := HB.out false (by simp [hd1, hd2])
   have HQ := Lib.hid (fun s A n cap l t A' n' cap' m W hl hm e1 e2 => (gmade_any false Z1 Z2 s A n cap l t A' n' cap' m W hl hm e1 e2 V1 V2))
   exact ZL3
 · obtain ⟨z1, z2⟩ := HB.out true (by simp [hd1, hd2])
   have HQ := Lib.hid (fun s A n cap l t A' n' cap' m W hl hm e1 e2 => (gmade_any true Z1 Z2 s A n cap l t A' n' cap' m W hl hm e1 e2 V1 V2))
   exact ZL3
 · obtain ⟨z1, z2⟩ := HB.out true (by simp [hd1, hd2])
   have HQ := Lib.hid (fun s A n cap l t A' n' cap' m W hl hm e1 e2 => (gmade_any true Z1 Z2 s A n cap l t A' n' cap' m W hl hm e1 e2 V1 V2))
   exact ZL3
 · obtain ⟨z1, z2⟩ := HB.out true (by simp [hd1, hd2])
   have HQ := Lib.hid (fun s A n cap l t A' n' cap' m W hl hm e1 e2 => (gmade_any true Z1 Z2 s A n cap l t A' n' cap' m W hl hm e1 e2 V1 V2))
   exact ZL3
theorem ZL1 {p : Prop} (h : p := by
 first
  | (rw [z1, z2] at HQ
     clear z1 z2 HB V3 V4
     go_enter Tryz.func56, Tryz.ntmps56
     go_wp2_with (first | (refine ZAL ?_; clear K r; intro W b K r) | (refine ZST ?_; clear K r; intro W K r))
     refine (HR1.out _ ZRD ZRD).mono ?_
     rintro e W' ⟨rfl, hb⟩
     replace K := K.keep hb
     clear r
     have r := K.rawS
     clear hb
     go_wp2_with (first | (refine ZAL ?_; clear K r; intro W b K r) | (refine ZST ?_; clear K r; intro W K r))
     refine (HR2.out _ ZRD ZRD).mono ?_
     rintro e W' ⟨rfl, hb⟩
     replace K := K.keep hb
     clear r
     have r := K.rawS
     clear hb
     go_wp2_with (first | (refine ZAL ?_; clear K r; intro W b K r) | (refine ZST ?_; clear K r; intro W K r))
     refine (HM1.out _ ZRD ZRD).mono ?_
     rintro e W' ⟨s5, A5, n5, c5, l5, rfl, hr, hs5, hf, hb⟩
     have hf5 := Lib.hid (hf.mono K.1.size)
     replace K := K.ret hb hr hf
     clear r
     have r := K.rawS
     clear hr hf hb
     go_wp2_with (first | (refine ZAL ?_; clear K r; intro W b K r) | (refine ZST ?_; clear K r; intro W K r))
     refine (HM2.out _ ZRD ZRD).mono ?_
     rintro e W' ⟨s6, A6, n6, c6, l6, rfl, hr, hs6, hf, hb⟩
     have hf6 := Lib.hid (hf.mono K.1.size)
     replace K := K.ret hb hr hf
     clear r
     have r := K.rawS
     clear hr hf hb
     go_wp2_with (first | (refine ZAL ?_; clear K r; intro W b K r) | (refine ZST ?_; clear K r; intro W K r))
     refine (HM3.out _ ZRD ZRD).mono ?_
     rintro e W' ⟨s8, A8, n8, c8, l8, rfl, hr, hs8, hf, hb⟩
     have hf8 := Lib.hid (hf.mono K.1.size)
     replace K := K.ret hb hr hf
     clear r
     have r := K.rawS
     clear hr hf hb
     go_wp2_with (first | (refine ZAL ?_; clear K r; intro W b K r) | (refine ZST ?_; clear K r; intro W K r))
     refine (HA.out _ _ _ _ _ _ _ _ _ _ _ ZRD ZRD hs5 hs6).mono ?_
     rintro e W' ⟨s9, A9, n9, c9, l9, rfl, hr, hs9, hf, hb⟩
     have hf9 := Lib.hid (hf.mono K.1.size)
     replace K := K.ret hb hr hf
     clear r
     have r := K.rawS
     clear hr hf hb
     clear hs5 hs6
     go_wp2_with (first | (refine ZAL ?_; clear K r; intro W b K r) | (refine ZST ?_; clear K r; intro W K r))
     refine (HQ.out _ _ _ _ _ _ _ _ _ _ _ ZRD ZRD hs9 hs8).mono ?_
     clear hs8 hs9
     rintro e W' ⟨s7, A7, n7, c7, l7, t7, B7, m7, d7, k7, rfl, ⟨hra, hrb⟩, ho, ⟨hfa, hfb⟩, hb⟩
     have hf7 := Lib.hid (hfa.mono K.1.size)
     have hg7 := Lib.hid (hfb.mono K.1.size)
     replace K := K.retF hb hra hrb hfa hfb
     clear r
     have r := K.rawS
     clear hra hrb hfa hfb hb
     go_wp2_with (first | (refine ZAL ?_; clear K r; intro W b K r) | (refine ZST ?_; clear K r; intro W K r))
     have HE := Lib.hid (⟨s7, A7, n7, c7, l7, t7, B7, m7, d7, k7, rfl, ⟨ZRD, ZRD⟩, ho, ⟨hf7.out, hg7.out⟩, K.1⟩ : FrE w O E (.returned (.tuple #[.agg #[.int .i64 s7, .slice A7 n7 c7, .int .i64 t7, .slice B7 m7 d7], .int .i64 E])) W)
     clear ho
     exact bodyPost_ret (v := .tuple #[.agg #[.int .i64 s7, .slice A7 n7 c7, .int .i64 t7, .slice B7 m7 d7], .int .i64 E]) (by simp [results, Tryz.results56, go_sem, r]) rfl HE.out)
  | fail) : p := h
theorem ZL50 {p : Prop} (h : p := by
 first
  | (rintro e W' ⟨rfl, hb⟩
     replace K := K.keep hb
     clear r
     have r := K.rawS
     clear hb
     go_wp2_with (first | (refine ZAL ?_; clear K r; intro W b K r) | (refine ZST ?_; clear K r; intro W K r))
     exact bodyPost_ret (v := .tuple #[.agg #[.int .i64 0, .slice none 0 0, .int .i64 0, .slice none 0 0], .int .i64 1]) (by simp [results, Tryz.results56, go_sem, r]) rfl (Hno.out _ _ K.1))
  | fail) : p := h
theorem gAdd_any (s1 t1 s2 t2 : Int) (A1 B1 A2 B2 : Option Addr) (n1 c1 m1 d1 n2 c2 m2 d2 : Nat) (l1 k1 l2 k2 : List Int) (w : World) (r1 : RdI w w.heap.size A1 n1 c1 l1) (q1 : RdI w w.heap.size B1 m1 d1 k1) (r2 : RdI w w.heap.size A2 n2 c2 l2) (q2 : RdI w w.heap.size B2 m2 d2 k2) :
 Calls Tryz.prog 56 #[.agg #[.int .i64 s1, .slice A1 n1 c1, .int .i64 t1, .slice B1 m1 d1], .agg #[.int .i64 s2, .slice A2 n2 c2, .int .i64 t2, .slice B2 m2 d2]] w (FrE w (binO (rightF s1 l1 t1 k1 && rightF s2 l2 t2 k2) (addK (ratF s1 l1 t1 k1) (ratF s2 l2 t2 k2)) (ratF s1 l1 t1 k1 + ratF s2 l2 t2 k2)) (binE (rightF s1 l1 t1 k1 && rightF s2 l2 t2 k2) (addK (ratF s1 l1 t1 k1) (ratF s2 l2 t2 k2)))) := by
 have K := ((((St.start w).oldRd r1).oldRd q1).oldRd r2).oldRd q2
 have r := K.raw
 have HR1 := Lib.hid (fun W h g => gRight_any s1 t1 A1 B1 n1 c1 m1 d1 l1 k1 W h g)
 have HR2 := Lib.hid (fun W h g => gRight_any s2 t2 A2 B2 n2 c2 m2 d2 l2 k2 W h g)
 have Hno := Lib.hid (fun W (c : Int) (h : Below w.heap.size w W) => (⟨0, none, 0, 0, [], 0, none, 0, 0, [], rfl, ⟨Rd.nil, Rd.nil⟩, ⟨rfl, rfl, rfl, rfl⟩, ⟨FrA.none, FrA.none⟩, h⟩ : FrE w none c (.returned (.tuple #[.agg #[.int .i64 0, .slice none 0 0, .int .i64 0, .slice none 0 0], .int .i64 c])) W))
 cases h1 : rightF s1 l1 t1 k1
 · rw [h1] at HR1
   rw [Bool.false_and, binO_no, binE_no]
   clear h1
   go_enter Tryz.func56, Tryz.ntmps56
   go_wp2_with (first | (refine ZAL ?_; clear K r; intro W b K r) | (refine ZST ?_; clear K r; intro W K r))
   refine (HR1.out _ ZRD ZRD).mono ?_
   exact ZL50
 cases h2 : rightF s2 l2 t2 k2
 · rw [h1] at HR1
   rw [h2] at HR2
   rw [Bool.true_and, binO_no, binE_no]
   clear h1 h2
   go_enter Tryz.func56, Tryz.ntmps56
   go_wp2_with (first | (refine ZAL ?_; clear K r; intro W b K r) | (refine ZST ?_; clear K r; intro W K r))
   refine (HR1.out _ ZRD ZRD).mono ?_
   rintro e W' ⟨rfl, hb⟩
   replace K := K.keep hb
   clear r
   have r := K.rawS
   clear hb
   go_wp2_with (first | (refine ZAL ?_; clear K r; intro W b K r) | (refine ZST ?_; clear K r; intro W K r))
   refine (HR2.out _ ZRD ZRD).mono ?_
   exact ZL50
 rw [h1] at HR1
 rw [h2] at HR2
 obtain ⟨⟨S1, T1⟩, F1⟩ := rightF_std h1
 obtain ⟨⟨S2, T2⟩, F2⟩ := rightF_std h2
 have a1 := fitsF_num F1
 have a2 := fitsF_den F1
 have a3 := fitsF_num F2
 have a4 := fitsF_den F2
 rw [Bool.true_and]
 generalize ratF s1 l1 t1 k1 = x at *
 generalize ratF s2 l2 t2 k2 = y at *
 have HB := Lib.hid (mad_add x y)
 have HM1 := Lib.hid (fun W hl hm => uMul x.num y.den s1 A1 n1 c1 l1 t2 B2 m2 d2 k2 W hl hm S1 T2 a1 a4)
 have HM2 := Lib.hid (fun W hl hm => uMul y.num x.den s2 A2 n2 c2 l2 t1 B1 m1 d1 k1 W hl hm S2 T1 a3 a2)
 have HM3 := Lib.hid (fun W hl hm => uMul x.den y.den t1 B1 m1 d1 k1 t2 B2 m2 d2 k2 W hl hm T1 T2 a2 a4)
 have V1 := fits_resZ true (x.num * y.den)
 have V2 := fits_resZ true (y.num * x.den)
 have V3 := fits_resZ true ((x.den : Int) * y.den)
 have V4 := fits_resZ true (resZ true (x.num * y.den) + resZ true (y.num * x.den))
 have HA := Lib.hid (fun s A n cap l t A' n' cap' m W hl hm e1 e2 => uAdd (resZ true (x.num * y.den)) (resZ true (y.num * x.den)) s A n cap l t A' n' cap' m W hl hm e1 e2 V1 V2)
 generalize errZ true (resZ true (x.num * y.den) + resZ true (y.num * x.den)) = E4 at *
 generalize resZ true (resZ true (x.num * y.den) + resZ true (y.num * x.den)) = Z4 at *
 generalize errZ true (x.num * y.den) = E1 at *
 generalize resZ true (x.num * y.den) = Z1 at *
 generalize errZ true (y.num * x.den) = E2 at *
 generalize resZ true (y.num * x.den) = Z2 at *
 generalize errZ true ((x.den : Int) * y.den) = E3 at *
 generalize resZ true ((x.den : Int) * y.den) = Z3 at *
 generalize binO true (addK x y) (x + y) = O at *
 generalize binE true (addK x y) = E at *
 clear S1 S2 T1 T2 F1 F2 a1 a2 a3 a4 h1 h2 V1 V2
 have hcase : (E1 != 0) = true ∨ ((E1 != 0) = false ∧ (E2 != 0) = true) ∨ ((E1 != 0) = false ∧ (E2 != 0) = false ∧ (E3 != 0) = true) ∨ ((E1 != 0) = false ∧ (E2 != 0) = false ∧ (E3 != 0) = false ∧ (E4 != 0) = true) ∨ ((E1 != 0) = false ∧ (E2 != 0) = false ∧ (E3 != 0) = false ∧ (E4 != 0) = false) := by
  cases (E1 != 0) <;> cases (E2 != 0) <;> cases (E3 != 0) <;> cases (E4 != 0) <;> simp
 rcases hcase with hd1 | ⟨hd1, hd2⟩ | ⟨hd1, hd2, hd3⟩ | ⟨hd1, hd2, hd3, hd4⟩ | ⟨hd1, hd2, hd3, hd4⟩
 · obtain ⟨z1, z2⟩ := HB.out true (by first | rw [hd1, hd2, hd3, hd4]; rfl | (rw [hd1, hd2, hd3]; simp) | (rw [hd1, hd2]; simp) | (rw [hd1]; simp))
   have HQ := Lib.hid (fun s A n cap l t A' n' cap' m W hl hm e1 e2 => (gmade_any true Z4 Z3 s A n cap l t A' n' cap' m W hl hm e1 e2 V4 V3))
   exact ZL1
 · obtain ⟨z1, z2⟩ := HB.out true (by first | rw [hd1, hd2, hd3, hd4]; rfl | (rw [hd1, hd2, hd3]; simp) | (rw [hd1, hd2]; simp) | (rw [hd1]; simp))
   have HQ := Lib.hid (fun s A n cap l t A' n' cap' m W hl hm e1 e2 => (gmade_any true Z4 Z3 s A n cap l t A' n' cap' m W hl hm e1 e2 V4 V3))
   exact ZL1
 · obtain ⟨z1, z2⟩ := HB.out true (by first | rw [hd1, hd2, hd3, hd4]; rfl | (rw [hd1, hd2, hd3]; simp) | (rw [hd1, hd2]; simp) | (rw [hd1]; simp))
   have HQ := Lib.hid (fun s A n cap l t A' n' cap' m W hl hm e1 e2 => (gmade_any true Z4 Z3 s A n cap l t A' n' cap' m W hl hm e1 e2 V4 V3))
   exact ZL1
 · obtain ⟨z1, z2⟩ := HB.out true (by first | rw [hd1, hd2, hd3, hd4]; rfl | (rw [hd1, hd2, hd3]; simp) | (rw [hd1, hd2]; simp) | (rw [hd1]; simp))
   have HQ := Lib.hid (fun s A n cap l t A' n' cap' m W hl hm e1 e2 => (gmade_any true Z4 Z3 s A n cap l t A' n' cap' m W hl hm e1 e2 V4 V3))
   exact ZL1
 · obtain ⟨z1, z2⟩ := HB.out false (by first | rw [hd1, hd2, hd3, hd4]; rfl | (rw [hd1, hd2, hd3]; simp) | (rw [hd1, hd2]; simp) | (rw [hd1]; simp))
   have HQ := Lib.hid (fun s A n cap l t A' n' cap' m W hl hm e1 e2 => (gmade_any false Z4 Z3 s A n cap l t A' n' cap' m W hl hm e1 e2 V4 V3))
   exact ZL1
section
variable {w0 W : World} {L : List Blk} {D : List Hl}
theorem callMulG {Y Z : Rw} {f q : Rat} (K : St w0 L D W) (hY : isQ Y f) (hZ : isQ Z q) (m1 : (⟨rdP Y.A Y.n Y.c Y.l, rdS Y.A Y.n⟩ : Hl) ∈ D) (m2 : (⟨rdP Y.B Y.m Y.d Y.k, rdS Y.B Y.m⟩ : Hl) ∈ D) (m3 : (⟨rdP Z.A Z.n Z.c Z.l, rdS Z.A Z.n⟩ : Hl) ∈ D) (m4 : (⟨rdP Z.B Z.m Z.d Z.k, rdS Z.B Z.m⟩ : Hl) ∈ D) :
 Calls Tryz.prog 55 #[.agg #[.int .i64 Y.s, .slice Y.A Y.n Y.c, .int .i64 Y.t, .slice Y.B Y.m Y.d], .agg #[.int .i64 Z.s, .slice Z.A Z.n Z.c, .int .i64 Z.t, .slice Z.B Z.m Z.d]] W (FrT w0 L D (MulS f q)) := by
 obtain ⟨o, ho⟩ : ∃ o, o = mulO1 f q := ⟨_, rfl⟩
 obtain ⟨er, her⟩ : ∃ er, er = mulE1 f q := ⟨_, rfl⟩
 have h := gMul_any Y.s Y.t Z.s Z.t Y.A Y.B Z.A Z.B Y.n Y.c Y.m Y.d Z.n Z.c Z.m Z.d Y.l Y.k Z.l Z.k W (K.rd m1) (K.rd m2) (K.rd m3) (K.rd m4)
 rw [hY.1.right hY.2, hZ.1.right hZ.2, hY.1.rat, hZ.1.rat] at h
 have e1 : binO (true && true) (mulK f q) (f * q) = o := by
  rw [ho]
  unfold mulO1 binO
  simp
 have e2 : binE (true && true) (mulK f q) = er := by
  rw [her]
  unfold mulE1 binE
  simp
 rw [e1, e2] at h
 have HS := fun y : Rw => mulS (y := y) ho her
 clear ho her e1 e2
 exact h.mono fun e W' ⟨s31, A31, n31, c31, l31, t31, B31, m31, d31, k31, he, ⟨hra, hrb⟩, hop, ⟨hfa, hfb⟩, hbb⟩ => ⟨⟨s31, A31, n31, c31, l31, t31, B31, m31, d31, k31⟩, er, he, Lib.hid (HS _ hop), K.retF hbb hra hrb hfa hfb⟩
theorem callAddG {Y Z : Rw} {f q : Rat} (K : St w0 L D W) (hY : isQ Y f) (hZ : isQ Z q) (m1 : (⟨rdP Y.A Y.n Y.c Y.l, rdS Y.A Y.n⟩ : Hl) ∈ D) (m2 : (⟨rdP Y.B Y.m Y.d Y.k, rdS Y.B Y.m⟩ : Hl) ∈ D) (m3 : (⟨rdP Z.A Z.n Z.c Z.l, rdS Z.A Z.n⟩ : Hl) ∈ D) (m4 : (⟨rdP Z.B Z.m Z.d Z.k, rdS Z.B Z.m⟩ : Hl) ∈ D) :
 Calls Tryz.prog 56 #[.agg #[.int .i64 Y.s, .slice Y.A Y.n Y.c, .int .i64 Y.t, .slice Y.B Y.m Y.d], .agg #[.int .i64 Z.s, .slice Z.A Z.n Z.c, .int .i64 Z.t, .slice Z.B Z.m Z.d]] W (fun e W' => ∃ y er, e = Ending.returned (.tuple #[.agg #[.int .i64 y.s, .slice y.A y.n y.c, .int .i64 y.t, .slice y.B y.m y.d], .int .i64 er]) ∧ Hid (AddS f q y er ∧ FrA w0.heap.size y.A ∧ FrA w0.heap.size y.B) ∧ St w0 L (⟨rdP y.B y.m y.d y.k, rdS y.B y.m⟩ :: ⟨rdP y.A y.n y.c y.l, rdS y.A y.n⟩ :: D) W') := by
 obtain ⟨o, ho⟩ : ∃ o, o = binO true (addK f q) (f + q) := ⟨_, rfl⟩
 obtain ⟨er, her⟩ : ∃ er, er = binE true (addK f q) := ⟨_, rfl⟩
 have h := gAdd_any Y.s Y.t Z.s Z.t Y.A Y.B Z.A Z.B Y.n Y.c Y.m Y.d Z.n Z.c Z.m Z.d Y.l Y.k Z.l Z.k W (K.rd m1) (K.rd m2) (K.rd m3) (K.rd m4)
 rw [hY.1.right hY.2, hZ.1.right hZ.2, hY.1.rat, hZ.1.rat, Bool.and_true, ← ho, ← her] at h
 have HS := fun y : Rw => addS (y := y) ho her
 clear ho her
 exact h.mono fun e W' ⟨s31, A31, n31, c31, l31, t31, B31, m31, d31, k31, he, ⟨hra, hrb⟩, hop, ⟨hfa, hfb⟩, hbb⟩ => ⟨⟨s31, A31, n31, c31, l31, t31, B31, m31, d31, k31⟩, er, he, Lib.hid ⟨HS _ hop, fun a ha => Nat.le_trans K.1.size (hfa a ha), fun a ha => Nat.le_trans K.1.size (hfb a ha)⟩, K.retF hbb hra hrb hfa hfb⟩
end
end Go.Proofs.YtdlcglndhhndpaaGreat
