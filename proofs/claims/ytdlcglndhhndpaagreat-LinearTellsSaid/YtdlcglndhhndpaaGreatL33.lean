/- Laws and walks; conditions stand in each theorem. -/
import Derived.Test.YtdlcglndhhndpaaGreatL21
import Derived.Test.YtdlcglndhhndpaaGreatL31
import Derived.Test.YtdlcglndhhndpaaGreatL04
import Derived.Test.YtdlcglndhhndpaaGreatL32
import Derived.Test.YtdlcglndhhndpaaGreatL05
set_option linter.unusedSimpArgs false
set_option linter.unusedVariables false
set_option maxHeartbeats 4000000
set_option maxRecDepth 100000
namespace Go.Proofs.YtdlcglndhhndpaaGreat
open Go.RowKit
theorem eSub_any (s t : Int) (A A2 : Option Addr) (n cap n2 cap2 : Nat) (a b : List Int) (w : World) (ha : RdI w w.heap.size A n cap a) (hb : RdI w w.heap.size A2 n2 cap2 b) :
 Calls Tryz.prog 95 #[.agg #[.int .i64 s, .slice A n cap], .agg #[.int .i64 t, .slice A2 n2 cap2]] w (BigE w (resZ (rightB s a && rightB t b) (bval s a - bval t b)) (errZ (rightB s a && rightB t b) (bval s a - bval t b))) := by
 have K := ((St.start w).oldRd ha).oldRd hb
 have r := K.raw
 have HR2 := Lib.hid (fun W hl => eright_any t A2 n2 cap2 b W hl)
 cases h2 : rightB t b
 · rw [h2] at HR2
   rw [Bool.and_false, resZ_false, errZ_false]
   clear h2
   go_enter Tryz.func95, Tryz.ntmps95
   go_wp2_with (first | (refine ZAL ?_; clear K r; intro W b K r) | (refine ZST ?_; clear K r; intro W K r))
   refine (HR2.out _ ZRD).mono ?_
   rintro e W' ⟨rfl, hb⟩
   replace K := K.keep hb
   clear r
   have r := K.rawS
   clear hb
   go_wp2_with (first | (refine ZAL ?_; clear K r; intro W b K r) | (refine ZST ?_; clear K r; intro W K r))
   exact bodyPost_ret (v := .tuple #[.agg #[.int .i64 0, .slice none 0 0], .int .i64 1]) (by simp [results, Tryz.results95, go_sem, r]) rfl ⟨0, none, 0, 0, [], rfl, Rd.nil, Std.zero, FrA.none, K.1⟩
 rw [h2] at HR2
 have F2 := fits_of_right h2
 have S2 := Std.of_right h2
 rw [Bool.and_true, Int.sub_eq_add_neg]
 have HN0 := Lib.hid (fun W hl => eNeg_any t A2 n2 cap2 b W hl)
 have en : negZ t b = -(bval t b) := if_pos h2
 rw [en] at HN0
 have HA0 := Lib.hid (fun s5 A5 n5 c5 l5 W hl hm (h : Std s5 l5 (-(bval t b))) => (show Calls Tryz.prog 111 #[.agg #[.int .i64 s, .slice A n cap], .agg #[.int .i64 s5, .slice A5 n5 c5]] W (BigE W (resZ (rightB s a) (bval s a + -(bval t b))) (errZ (rightB s a) (bval s a + -(bval t b)))) from by
  have h0 := eAdd_any s s5 A A5 n cap n5 c5 a l5 W hl hm
  rw [h.right (by rw [fits_iff] at F2 ⊢; rw [Int.natAbs_neg]; exact F2), h.val, Bool.and_true] at h0
  exact h0))
 generalize resZ (rightB s a) (bval s a + -(bval t b)) = O at *
 generalize errZ (rightB s a) (bval s a + -(bval t b)) = E at *
 generalize -(bval t b) = yn at *
 clear S2 F2 h2 en ha hb
 go_enter Tryz.func95, Tryz.ntmps95
 go_wp2_with (first | (refine ZAL ?_; clear K r; intro W b K r) | (refine ZST ?_; clear K r; intro W K r))
 refine (HR2.out _ ZRD).mono ?_
 rintro e W' ⟨rfl, hb⟩
 replace K := K.keep hb
 clear r
 have r := K.rawS
 clear hb
 go_upto_region 3 with (first | (refine ZAL ?_; clear K r; intro W b K r) | (refine ZST ?_; clear K r; intro W K r))
 obtain ⟨RR, HR0⟩ := K.hide 48
 go_cut [7, 6] from 12 to 18 (fun e p wx => ∃ g s8 A8 n8 c8 l8, e = .int .i64 E ∧ p = .pointer (some ⟨g, 0, none⟩) ∧ Std s8 l8 (O) ∧ FrA w.heap.size A8 ∧ RR g #[.int .i64 s8, .slice A8 n8 c8] A8 n8 c8 l8 wx)
 case first =>
  obtain ⟨g1, hg1, KA⟩ := K.newEx #[.int .i64 0, .slice none 0 0] 48
  have rA := KA.raw
  have Kd := K.drew
  have KAd := KA.drew
  simp only [Raw, RawC, and_true, true_and, Nat.zero_add, Nat.reduceAdd] at rA
  go_region_with (first
   | (go_at_call 124; (with_reducible refine (HN0.out _ ?qn).mono ?_); (try case qn => (first | with_reducible exact Kd.rd ZMB | with_reducible exact KAd.rd ZMB)); skip; rintro e W ⟨s30, A30, n30, c30, l30, rfl, hr, hs30, hf, hb⟩; (first | with_reducible replace K := Kd.ret hb hr hf | with_reducible replace K := KAd.ret hb hr hf); clear r rA KA hr hf hb; have r := K.raw; obtain ⟨g2, hg2, KA⟩ := K.newEx #[.int .i64 0, .slice none 0 0] 48; have rA := KA.raw; simp only [Raw, RawC, and_true, true_and, Nat.zero_add, Nat.reduceAdd] at r rA)
   | (go_at_call 111; (with_reducible refine (HA0.out _ _ _ _ _ _ ?qa ?qb hs30).mono ?_); (case qa => (first | with_reducible exact K.rd ZMB | with_reducible exact KA.rd ZMB)); (case qb => (first | with_reducible exact K.rd ZMB | with_reducible exact KA.rd ZMB)); skip; rintro e W ⟨s31, A31, n31, c31, l31, rfl, hr, hs31, hf, hb⟩; have hf31 : FrA w.heap.size A31 := (by first | with_reducible exact hf.mono K.bel.size | with_reducible exact hf.mono KA.bel.size); (first | with_reducible replace K := K.ret hb hr hf | with_reducible replace K := KA.ret hb hr hf); clear r rA KA hr hf hb; have r := K.raw; have z := K.rawz; simp only [Raw, RawC, RawZ, and_true, true_and, Nat.zero_add, Nat.reduceAdd] at r z))
  all_goals
   replace hs31 : Std s31 l31 (O) := hs31
   go_wp2_with fail
   go_meet
   first
    | with_reducible exact ⟨_, s31, A31, n31, c31, l31, rfl, rfl, hs31, hf31, (HR0 _ _ _ _ _ _ _).2 (K.new #[.int .i64 s31, .slice A31 n31 c31] 48).skip2⟩
    | with_reducible exact ⟨_, s31, A31, n31, c31, l31, rfl, rfl, hs31, hf31, (HR0 _ _ _ _ _ _ _).2 (K.set2 (u := .int .i64 s31) (v := .slice A31 n31 c31) ZUP).skip2⟩
    | exact ⟨_, s31, A31, n31, c31, l31, rfl, rfl, hs31, hf31, (HR0 _ _ _ _ _ _ _).2 (K.new #[.int .i64 s31, .slice A31 n31 c31] 48).skip2⟩
    | exact ⟨_, s31, A31, n31, c31, l31, rfl, rfl, hs31, hf31, (HR0 _ _ _ _ _ _ _).2 (K.set2 (u := .int .i64 s31) (v := .slice A31 n31 c31) ZUP).skip2⟩
 case rest =>
 obtain ⟨gb6, s6, A6, n6, c6, l6, rfl, rfl, hs6, hf6, hk⟩ := hcut
 replace K := (HR0 _ _ _ _ _ _ _).1 hk
 clear r hk HR0
 have r := K.rawS
 go_wp2_with (first | (refine ZAL ?_; clear K r; intro W b K r) | (refine ZST ?_; clear K r; intro W K r))
 have HE := Lib.hid (⟨s6, A6, n6, c6, l6, rfl, ZRD, hs6, hf6, K.1⟩ : BigE w O E (.returned (.tuple #[.agg #[.int .i64 s6, .slice A6 n6 c6], .int .i64 E])) W)
 clear hs6 hf6
 exact bodyPost_ret (v := .tuple #[.agg #[.int .i64 s6, .slice A6 n6 c6], .int .i64 E]) (by simp [results, Tryz.results95, go_sem, r]) rfl HE.out
theorem ZL0 {p : Prop} (h : p := by
 first
  | (rw [z1, z2] at HQ
     clear z1 z2 HB V3 V4
     go_enter Tryz.func43, Tryz.ntmps43
     go_wp2_with (first | (refine ZAL ?_; clear K r; intro W b K r) | (refine ZST ?_; clear K r; intro W K r))
     refine (HR1.out _ ZRD ZRD).mono ?_
     rintro e W' ⟨rfl, hb⟩
     replace K := K.keep hb
     clear r
     have r := K.rawS
     clear hb
     go_wp2_with (first | (refine ZAL ?_; clear K r; intro W b K r) | (refine ZST ?_; clear K r; intro W K r))
     refine (HR2.out _ ZRD ZRD).mono ?_
     rintro e W' ⟨rfl, hb⟩
     replace K := K.keep hb
     clear r
     have r := K.rawS
     clear hb
     go_wp2_with (first | (refine ZAL ?_; clear K r; intro W b K r) | (refine ZST ?_; clear K r; intro W K r))
     refine (HM1.out _ ZRD ZRD).mono ?_
     rintro e W' ⟨s5, A5, n5, c5, l5, rfl, hr, hs5, hf, hb⟩
     have hf5 := Lib.hid (hf.mono K.1.size)
     replace K := K.ret hb hr hf
     clear r
     have r := K.rawS
     clear hr hf hb
     go_wp2_with (first | (refine ZAL ?_; clear K r; intro W b K r) | (refine ZST ?_; clear K r; intro W K r))
     refine (HM2.out _ ZRD ZRD).mono ?_
     rintro e W' ⟨s6, A6, n6, c6, l6, rfl, hr, hs6, hf, hb⟩
     have hf6 := Lib.hid (hf.mono K.1.size)
     replace K := K.ret hb hr hf
     clear r
     have r := K.rawS
     clear hr hf hb
     go_wp2_with (first | (refine ZAL ?_; clear K r; intro W b K r) | (refine ZST ?_; clear K r; intro W K r))
     refine (HM3.out _ ZRD ZRD).mono ?_
     rintro e W' ⟨s8, A8, n8, c8, l8, rfl, hr, hs8, hf, hb⟩
     have hf8 := Lib.hid (hf.mono K.1.size)
     replace K := K.ret hb hr hf
     clear r
     have r := K.rawS
     clear hr hf hb
     go_wp2_with (first | (refine ZAL ?_; clear K r; intro W b K r) | (refine ZST ?_; clear K r; intro W K r))
     refine (HA.out _ _ _ _ _ _ _ _ _ _ _ ZRD ZRD hs5 hs6).mono ?_
     rintro e W' ⟨s9, A9, n9, c9, l9, rfl, hr, hs9, hf, hb⟩
     have hf9 := Lib.hid (hf.mono K.1.size)
     replace K := K.ret hb hr hf
     clear r
     have r := K.rawS
     clear hr hf hb
     clear hs5 hs6
     go_wp2_with (first | (refine ZAL ?_; clear K r; intro W b K r) | (refine ZST ?_; clear K r; intro W K r))
     refine (HQ.out _ _ _ _ _ _ _ _ _ _ _ ZRD ZRD hs9 hs8).mono ?_
     clear hs8 hs9
     rintro e W' ⟨s7, A7, n7, c7, l7, t7, B7, m7, d7, k7, rfl, ⟨hra, hrb⟩, ho, ⟨hfa, hfb⟩, hb⟩
     have hf7 := Lib.hid (hfa.mono K.1.size)
     have hg7 := Lib.hid (hfb.mono K.1.size)
     replace K := K.retF hb hra hrb hfa hfb
     clear r
     have r := K.rawS
     clear hra hrb hfa hfb hb
     go_wp2_with (first | (refine ZAL ?_; clear K r; intro W b K r) | (refine ZST ?_; clear K r; intro W K r))
     have HE := Lib.hid (⟨s7, A7, n7, c7, l7, t7, B7, m7, d7, k7, rfl, ⟨ZRD, ZRD⟩, ho, ⟨hf7.out, hg7.out⟩, K.1⟩ : FrE w O E (.returned (.tuple #[.agg #[.int .i64 s7, .slice A7 n7 c7, .int .i64 t7, .slice B7 m7 d7], .int .i64 E])) W)
     clear ho
     exact bodyPost_ret (v := .tuple #[.agg #[.int .i64 s7, .slice A7 n7 c7, .int .i64 t7, .slice B7 m7 d7], .int .i64 E]) (by simp [results, Tryz.results43, go_sem, r]) rfl HE.out)
  | fail) : p := h
theorem ZL46 {p : Prop} (h : p := by
 first
  | (rintro e W' ⟨rfl, hb⟩
     replace K := K.keep hb
     clear r
     have r := K.rawS
     clear hb
     go_wp2_with (first | (refine ZAL ?_; clear K r; intro W b K r) | (refine ZST ?_; clear K r; intro W K r))
     exact bodyPost_ret (v := .tuple #[.agg #[.int .i64 0, .slice none 0 0, .int .i64 0, .slice none 0 0], .int .i64 1]) (by simp [results, Tryz.results43, go_sem, r]) rfl (Hno.out _ _ K.1))
  | fail) : p := h
theorem ZL2 {p : Prop} (h : p := by
 first
  | (rw [z1, z2] at HQ
     clear z1 z2 HB V1 V2
     go_enter Tryz.func129, Tryz.ntmps129
     go_wp2_with (first | (refine ZAL ?_; clear K r; intro W b K r) | (refine ZST ?_; clear K r; intro W K r))
     refine (HR1.out _ ZRD ZRD).mono ?_
     rintro e W' ⟨rfl, hb⟩
     replace K := K.keep hb
     clear r
     have r := K.rawS
     clear hb
     go_wp2_with (first | (refine ZAL ?_; clear K r; intro W b K r) | (refine ZST ?_; clear K r; intro W K r))
     refine (HR2.out _ ZRD ZRD).mono ?_
     rintro e W' ⟨rfl, hb⟩
     replace K := K.keep hb
     clear r
     have r := K.rawS
     clear hb
     go_wp2_with (first | (refine ZAL ?_; clear K r; intro W b K r) | (refine ZST ?_; clear K r; intro W K r))
     refine (HM1.out _ ZRD ZRD).mono ?_
     rintro e W' ⟨s5, A5, n5, c5, l5, rfl, hr, hs5, hf, hb⟩
     have hf5 := Lib.hid (hf.mono K.1.size)
     replace K := K.ret hb hr hf
     clear r
     have r := K.rawS
     clear hr hf hb
     go_wp2_with (first | (refine ZAL ?_; clear K r; intro W b K r) | (refine ZST ?_; clear K r; intro W K r))
     refine (HM.out _ ZRD ZRD).mono ?_
     rintro e W' ⟨s6, A6, n6, c6, l6, rfl, hr, hs6, hf, hb⟩
     have hf6 := Lib.hid (hf.mono K.1.size)
     replace K := K.ret hb hr hf
     clear r
     have r := K.rawS
     clear hr hf hb
     go_wp2_with (first | (refine ZAL ?_; clear K r; intro W b K r) | (refine ZST ?_; clear K r; intro W K r))
     refine (HQ.out _ _ _ _ _ _ _ _ _ _ _ ZRD ZRD hs5 hs6).mono ?_
     clear hs5 hs6
     rintro e W' ⟨s7, A7, n7, c7, l7, t7, B7, m7, d7, k7, rfl, ⟨hra, hrb⟩, ho, ⟨hfa, hfb⟩, hb⟩
     have hf7 := Lib.hid (hfa.mono K.1.size)
     have hg7 := Lib.hid (hfb.mono K.1.size)
     replace K := K.retF hb hra hrb hfa hfb
     clear r
     have r := K.rawS
     clear hra hrb hfa hfb hb
     go_wp2_with (first | (refine ZAL ?_; clear K r; intro W b K r) | (refine ZST ?_; clear K r; intro W K r))
     have HE := Lib.hid (⟨s7, A7, n7, c7, l7, t7, B7, m7, d7, k7, rfl, ⟨ZRD, ZRD⟩, ho, ⟨hf7.out, hg7.out⟩, K.1⟩ : FrE w O E (.returned (.tuple #[.agg #[.int .i64 s7, .slice A7 n7 c7, .int .i64 t7, .slice B7 m7 d7], .int .i64 E])) W)
     clear ho
     exact bodyPost_ret (v := .tuple #[.agg #[.int .i64 s7, .slice A7 n7 c7, .int .i64 t7, .slice B7 m7 d7], .int .i64 E]) (by simp [results, Tryz.results129, go_sem, r]) rfl HE.out)
  | fail) : p := h
theorem ZL45 {p : Prop} (h : p := by
 first
  | (rintro e W' ⟨rfl, hb⟩
     replace K := K.keep hb
     clear r
     have r := K.rawS
     clear hb
     go_wp2_with (first | (refine ZAL ?_; clear K r; intro W b K r) | (refine ZST ?_; clear K r; intro W K r))
     exact bodyPost_ret (v := .tuple #[.agg #[.int .i64 0, .slice none 0 0, .int .i64 0, .slice none 0 0], .int .i64 1]) (by simp [results, Tryz.results129, go_sem, r]) rfl (Hno.out _ _ K.1))
  | fail) : p := h
theorem uSub (x y : Int) (s : Int) (A : Option Addr) (n cap : Nat) (l : List Int) (t : Int) (A' : Option Addr) (n' cap' : Nat) (m : List Int) (W : World) (hl : RdI W W.heap.size A n cap l) (hm : RdI W W.heap.size A' n' cap' m) (h1 : Std s l x) (h2 : Std t m y) (f1 : fits x = true) (f2 : fits y = true) : Calls Tryz.prog 95 #[.agg #[.int .i64 s, .slice A n cap], .agg #[.int .i64 t, .slice A' n' cap']] W (BigE W (resZ true (x - y)) (errZ true (x - y))) := by
 have h := eSub_any s t A A' n cap n' cap' l m W hl hm
 exact ZL89
theorem resZ_neg (z : Int) : resZ true (-z) = - resZ true z := by
 cases h : fits z
 · have h' : fits (-z) = false := by
    cases h2 : fits (-z)
    · rfl
    · have := fits_neg h2
      rw [Int.neg_neg, h] at this
      cases this
   rw [resZ_f h', resZ_f h]; rfl
 · rw [resZ_t h, resZ_t (fits_neg h)]
theorem errZ_neg (z : Int) : errZ true (-z) = errZ true z := by
 cases h : fits z
 · have h' : fits (-z) = false := by
    cases h2 : fits (-z)
    · rfl
    · have := fits_neg h2
      rw [Int.neg_neg, h] at this
      cases this
   rw [errZ_f h, errZ_f h']
 · rw [errZ_t h, errZ_t (fits_neg h)]
theorem mad_sub (x y : Rat) (b : Bool) (hb : b = ((((errZ true (x.num * y.den) != 0) || (errZ true (y.num * x.den) != 0)) || (errZ true ((x.den : Int) * y.den) != 0)) || (errZ true (resZ true (x.num * y.den) - resZ true (y.num * x.den)) != 0))) : madO b (resZ true (resZ true (x.num * y.den) - resZ true (y.num * x.den))) (resZ true ((x.den : Int) * y.den)) = binO true (addK x (-y)) (x - y) ∧ madE b (resZ true ((x.den : Int) * y.den)) = binE true (addK x (-y)) := by
 have h := mad_add x (-y) b
 rw [Rat.neg_num, Rat.neg_den, Int.neg_mul, errZ_neg, resZ_neg, ← Int.sub_eq_add_neg, ← Rat.sub_eq_add_neg] at h
 exact h hb
theorem mad_two {a b : Int} {z : Rat} (hb : b ≠ 0) (hz : Rat.divInt a b = z) (c : Bool) (hc : c = ((errZ true a != 0) || (errZ true b != 0))) : madO c (resZ true a) (resZ true b) = binO true (fits a && fits b) z ∧ madE c (resZ true b) = binE true (fits a && fits b) := by
 cases k1 : fits a
 · rw [errZ_f k1, six_ne, Bool.true_or] at hc
   rw [hc, Bool.false_and]; exact mad_bad
 cases k2 : fits b
 · rw [errZ_f k2, six_ne, Bool.or_true] at hc
   rw [hc, Bool.true_and]; exact mad_bad
 rw [errZ_t k1, errZ_t k2, nil_ne] at hc
 rw [hc, resZ_t k1, resZ_t k2]
 exact mad_ok hb hz
theorem gSub_any (s1 t1 s2 t2 : Int) (A1 B1 A2 B2 : Option Addr) (n1 c1 m1 d1 n2 c2 m2 d2 : Nat) (l1 k1 l2 k2 : List Int) (w : World) (r1 : RdI w w.heap.size A1 n1 c1 l1) (q1 : RdI w w.heap.size B1 m1 d1 k1) (r2 : RdI w w.heap.size A2 n2 c2 l2) (q2 : RdI w w.heap.size B2 m2 d2 k2) :
 Calls Tryz.prog 43 #[.agg #[.int .i64 s1, .slice A1 n1 c1, .int .i64 t1, .slice B1 m1 d1], .agg #[.int .i64 s2, .slice A2 n2 c2, .int .i64 t2, .slice B2 m2 d2]] w (FrE w (binO (rightF s1 l1 t1 k1 && rightF s2 l2 t2 k2) (addK (ratF s1 l1 t1 k1) (-ratF s2 l2 t2 k2)) (ratF s1 l1 t1 k1 - ratF s2 l2 t2 k2)) (binE (rightF s1 l1 t1 k1 && rightF s2 l2 t2 k2) (addK (ratF s1 l1 t1 k1) (-ratF s2 l2 t2 k2)))) := by
 have K := ((((St.start w).oldRd r1).oldRd q1).oldRd r2).oldRd q2
 have r := K.raw
 have HR1 := Lib.hid (fun W h g => gRight_any s1 t1 A1 B1 n1 c1 m1 d1 l1 k1 W h g)
 have HR2 := Lib.hid (fun W h g => gRight_any s2 t2 A2 B2 n2 c2 m2 d2 l2 k2 W h g)
 have Hno := Lib.hid (fun W (c : Int) (h : Below w.heap.size w W) => (⟨0, none, 0, 0, [], 0, none, 0, 0, [], rfl, ⟨Rd.nil, Rd.nil⟩, ⟨rfl, rfl, rfl, rfl⟩, ⟨FrA.none, FrA.none⟩, h⟩ : FrE w none c (.returned (.tuple #[.agg #[.int .i64 0, .slice none 0 0, .int .i64 0, .slice none 0 0], .int .i64 c])) W))
 cases h1 : rightF s1 l1 t1 k1
 · rw [h1] at HR1
   rw [Bool.false_and, binO_no, binE_no]
   clear h1
   go_enter Tryz.func43, Tryz.ntmps43
   go_wp2_with (first | (refine ZAL ?_; clear K r; intro W b K r) | (refine ZST ?_; clear K r; intro W K r))
   refine (HR1.out _ ZRD ZRD).mono ?_
   exact ZL46
 cases h2 : rightF s2 l2 t2 k2
 · rw [h1] at HR1
   rw [h2] at HR2
   rw [Bool.true_and, binO_no, binE_no]
   clear h1 h2
   go_enter Tryz.func43, Tryz.ntmps43
   go_wp2_with (first | (refine ZAL ?_; clear K r; intro W b K r) | (refine ZST ?_; clear K r; intro W K r))
   refine (HR1.out _ ZRD ZRD).mono ?_
   rintro e W' ⟨rfl, hb⟩
   replace K := K.keep hb
   clear r
   have r := K.rawS
   clear hb
   go_wp2_with (first | (refine ZAL ?_; clear K r; intro W b K r) | (refine ZST ?_; clear K r; intro W K r))
   refine (HR2.out _ ZRD ZRD).mono ?_
   exact ZL46
 rw [h1] at HR1
 rw [h2] at HR2
 obtain ⟨⟨S1, T1⟩, F1⟩ := rightF_std h1
 obtain ⟨⟨S2, T2⟩, F2⟩ := rightF_std h2
 have a1 := fitsF_num F1
 have a2 := fitsF_den F1
 have a3 := fitsF_num F2
 have a4 := fitsF_den F2
 rw [Bool.true_and]
 generalize ratF s1 l1 t1 k1 = x at *
 generalize ratF s2 l2 t2 k2 = y at *
 have HB := Lib.hid (mad_sub x y)
 have HM1 := Lib.hid (fun W hl hm => uMul x.num y.den s1 A1 n1 c1 l1 t2 B2 m2 d2 k2 W hl hm S1 T2 a1 a4)
 have HM2 := Lib.hid (fun W hl hm => uMul y.num x.den s2 A2 n2 c2 l2 t1 B1 m1 d1 k1 W hl hm S2 T1 a3 a2)
 have HM3 := Lib.hid (fun W hl hm => uMul x.den y.den t1 B1 m1 d1 k1 t2 B2 m2 d2 k2 W hl hm T1 T2 a2 a4)
 have V1 := fits_resZ true (x.num * y.den)
 have V2 := fits_resZ true (y.num * x.den)
 have V3 := fits_resZ true ((x.den : Int) * y.den)
 have V4 := fits_resZ true (resZ true (x.num * y.den) - resZ true (y.num * x.den))
 have HA := Lib.hid (fun s A n cap l t A' n' cap' m W hl hm e1 e2 => uSub (resZ true (x.num * y.den)) (resZ true (y.num * x.den)) s A n cap l t A' n' cap' m W hl hm e1 e2 V1 V2)
 generalize errZ true (resZ true (x.num * y.den) - resZ true (y.num * x.den)) = E4 at *
 generalize resZ true (resZ true (x.num * y.den) - resZ true (y.num * x.den)) = Z4 at *
 generalize errZ true (x.num * y.den) = E1 at *
 generalize resZ true (x.num * y.den) = Z1 at *
 generalize errZ true (y.num * x.den) = E2 at *
 generalize resZ true (y.num * x.den) = Z2 at *
 generalize errZ true ((x.den : Int) * y.den) = E3 at *
 generalize resZ true ((x.den : Int) * y.den) = Z3 at *
 generalize binO true (addK x (-y)) (x - y) = O at *
 generalize binE true (addK x (-y)) = E at *
 clear S1 S2 T1 T2 F1 F2 a1 a2 a3 a4 h1 h2 V1 V2
 have hcase : (E1 != 0) = true ∨ ((E1 != 0) = false ∧ (E2 != 0) = true) ∨ ((E1 != 0) = false ∧ (E2 != 0) = false ∧ (E3 != 0) = true) ∨ ((E1 != 0) = false ∧ (E2 != 0) = false ∧ (E3 != 0) = false ∧ (E4 != 0) = true) ∨ ((E1 != 0) = false ∧ (E2 != 0) = false ∧ (E3 != 0) = false ∧ (E4 != 0) = false) := by
  cases (E1 != 0) <;> cases (E2 != 0) <;> cases (E3 != 0) <;> cases (E4 != 0) <;> simp
 rcases hcase with hd1 | ⟨hd1, hd2⟩ | ⟨hd1, hd2, hd3⟩ | ⟨hd1, hd2, hd3, hd4⟩ | ⟨hd1, hd2, hd3, hd4⟩
 · obtain ⟨z1, z2⟩ := HB.out true (by first | rw [hd1, hd2, hd3, hd4]; rfl | (rw [hd1, hd2, hd3]; simp) | (rw [hd1, hd2]; simp) | (rw [hd1]; simp))
   have HQ := Lib.hid (fun s A n cap l t A' n' cap' m W hl hm e1 e2 => (gmade_any true Z4 Z3 s A n cap l t A' n' cap' m W hl hm e1 e2 V4 V3))
   exact ZL0
 · obtain ⟨z1, z2⟩ := HB.out true (by first | rw [hd1, hd2, hd3, hd4]; rfl | (rw [hd1, hd2, hd3]; simp) | (rw [hd1, hd2]; simp) | (rw [hd1]; simp))
   have HQ := Lib.hid (fun s A n cap l t A' n' cap' m W hl hm e1 e2 => (gmade_any true Z4 Z3 s A n cap l t A' n' cap' m W hl hm e1 e2 V4 V3))
   exact ZL0
 · obtain ⟨z1, z2⟩ := HB.out true (by first | rw [hd1, hd2, hd3, hd4]; rfl | (rw [hd1, hd2, hd3]; simp) | (rw [hd1, hd2]; simp) | (rw [hd1]; simp))
   have HQ := Lib.hid (fun s A n cap l t A' n' cap' m W hl hm e1 e2 => (gmade_any true Z4 Z3 s A n cap l t A' n' cap' m W hl hm e1 e2 V4 V3))
   exact ZL0
 · obtain ⟨z1, z2⟩ := HB.out true (by first | rw [hd1, hd2, hd3, hd4]; rfl | (rw [hd1, hd2, hd3]; simp) | (rw [hd1, hd2]; simp) | (rw [hd1]; simp))
   have HQ := Lib.hid (fun s A n cap l t A' n' cap' m W hl hm e1 e2 => (gmade_any true Z4 Z3 s A n cap l t A' n' cap' m W hl hm e1 e2 V4 V3))
   exact ZL0
 · obtain ⟨z1, z2⟩ := HB.out false (by first | rw [hd1, hd2, hd3, hd4]; rfl | (rw [hd1, hd2, hd3]; simp) | (rw [hd1, hd2]; simp) | (rw [hd1]; simp))
   have HQ := Lib.hid (fun s A n cap l t A' n' cap' m W hl hm e1 e2 => (gmade_any false Z4 Z3 s A n cap l t A' n' cap' m W hl hm e1 e2 V4 V3))
   exact ZL0
theorem gDiv_any (s1 t1 s2 t2 : Int) (A1 B1 A2 B2 : Option Addr) (n1 c1 m1 d1 n2 c2 m2 d2 : Nat) (l1 k1 l2 k2 : List Int) (w : World) (r1 : RdI w w.heap.size A1 n1 c1 l1) (q1 : RdI w w.heap.size B1 m1 d1 k1) (r2 : RdI w w.heap.size A2 n2 c2 l2) (q2 : RdI w w.heap.size B2 m2 d2 k2) :
 Calls Tryz.prog 129 #[.agg #[.int .i64 s1, .slice A1 n1 c1, .int .i64 t1, .slice B1 m1 d1], .agg #[.int .i64 s2, .slice A2 n2 c2, .int .i64 t2, .slice B2 m2 d2]] w (FrE w (divO (rightF s1 l1 t1 k1 && rightF s2 l2 t2 k2) (ratF s1 l1 t1 k1) (ratF s2 l2 t2 k2)) (divE (rightF s1 l1 t1 k1 && rightF s2 l2 t2 k2) (ratF s1 l1 t1 k1) (ratF s2 l2 t2 k2))) := by
 have K := ((((St.start w).oldRd r1).oldRd q1).oldRd r2).oldRd q2
 have r := K.raw
 have HR1 := Lib.hid (fun W h g => gRight_any s1 t1 A1 B1 n1 c1 m1 d1 l1 k1 W h g)
 have HR2 := Lib.hid (fun W h g => gRight_any s2 t2 A2 B2 n2 c2 m2 d2 l2 k2 W h g)
 have Hno := Lib.hid (fun W (c : Int) (h : Below w.heap.size w W) => (⟨0, none, 0, 0, [], 0, none, 0, 0, [], rfl, ⟨Rd.nil, Rd.nil⟩, ⟨rfl, rfl, rfl, rfl⟩, ⟨FrA.none, FrA.none⟩, h⟩ : FrE w none c (.returned (.tuple #[.agg #[.int .i64 0, .slice none 0 0, .int .i64 0, .slice none 0 0], .int .i64 c])) W))
 cases h1 : rightF s1 l1 t1 k1
 · rw [h1] at HR1
   rw [Bool.false_and, divO_no, divE_no]
   clear h1
   go_enter Tryz.func129, Tryz.ntmps129
   go_wp2_with (first | (refine ZAL ?_; clear K r; intro W b K r) | (refine ZST ?_; clear K r; intro W K r))
   refine (HR1.out _ ZRD ZRD).mono ?_
   exact ZL45
 cases h2 : rightF s2 l2 t2 k2
 · rw [h1] at HR1
   rw [h2] at HR2
   rw [Bool.true_and, divO_no, divE_no]
   clear h1 h2
   go_enter Tryz.func129, Tryz.ntmps129
   go_wp2_with (first | (refine ZAL ?_; clear K r; intro W b K r) | (refine ZST ?_; clear K r; intro W K r))
   refine (HR1.out _ ZRD ZRD).mono ?_
   rintro e W' ⟨rfl, hb⟩
   replace K := K.keep hb
   clear r
   have r := K.rawS
   clear hb
   go_wp2_with (first | (refine ZAL ?_; clear K r; intro W b K r) | (refine ZST ?_; clear K r; intro W K r))
   refine (HR2.out _ ZRD ZRD).mono ?_
   exact ZL45
 rw [h1] at HR1
 rw [h2] at HR2
 obtain ⟨⟨S1, T1⟩, F1⟩ := rightF_std h1
 obtain ⟨⟨S2, T2⟩, F2⟩ := rightF_std h2
 have a1 := fitsF_num F1
 have a2 := fitsF_den F1
 have a3 := fitsF_num F2
 have a4 := fitsF_den F2
 rw [Bool.true_and]
 generalize ratF s1 l1 t1 k1 = x at *
 generalize ratF s2 l2 t2 k2 = y at *
 by_cases hy : y = 0
 · have hd : (s2 == 0) = true := by rw [S2.1, hy]; rfl
   have e1 : divO true x y = none := if_pos hy
   have e2 : divE true x y = 15 := if_pos ⟨rfl, hy⟩
   rw [e1, e2]
   clear e1 e2 S1 S2 T1 T2 F1 F2 a1 a2 a3 a4 h1 h2 hy
   go_enter Tryz.func129, Tryz.ntmps129
   go_wp2_with (first | (refine ZAL ?_; clear K r; intro W b K r) | (refine ZST ?_; clear K r; intro W K r))
   refine (HR1.out _ ZRD ZRD).mono ?_
   rintro e W' ⟨rfl, hb⟩
   replace K := K.keep hb
   clear r
   have r := K.rawS
   clear hb
   go_wp2_with (first | (refine ZAL ?_; clear K r; intro W b K r) | (refine ZST ?_; clear K r; intro W K r))
   refine (HR2.out _ ZRD ZRD).mono ?_
   rintro e W' ⟨rfl, hb⟩
   replace K := K.keep hb
   clear r
   have r := K.rawS
   clear hb
   go_wp2_with (first | (refine ZAL ?_; clear K r; intro W b K r) | (refine ZST ?_; clear K r; intro W K r))
   exact bodyPost_ret (v := .tuple #[.agg #[.int .i64 0, .slice none 0 0, .int .i64 0, .slice none 0 0], .int .i64 15]) (by simp [results, Tryz.results129, go_sem, r]) rfl (Hno.out _ _ K.1)
 have hyn : y.num ≠ 0 := fun e => hy (rat_zero.2 e)
 have hd : (s2 == 0) = false := by
  rcases S2.signs with ⟨-, -, h⟩ | ⟨-, h, -⟩ | ⟨-, h, -⟩
  · exact absurd h hyn
  · simp [h]
  · simp [h]
 have e1 : divO true x y = binO true (divK x y) (x / y) := if_neg hy
 have e2 : divE true x y = binE true (divK x y) := if_neg (fun h => hy h.2)
 rw [e1, e2]
 have hb0 : (x.den : Int) * y.num ≠ 0 := Int.mul_ne_zero (Int.ne_of_gt (den_pos x)) hyn
 have HB := Lib.hid (mad_two (a := x.num * y.den) hb0 (rat_div x y))
 have HM1 := Lib.hid (fun W hl hm => uMul x.num y.den s1 A1 n1 c1 l1 t2 B2 m2 d2 k2 W hl hm S1 T2 a1 a4)
 have HM := Lib.hid (fun W hl hm => uMul x.den y.num t1 B1 m1 d1 k1 s2 A2 n2 c2 l2 W hl hm T1 S2 a2 a3)
 have V1 := fits_resZ true (x.num * y.den)
 have V2 := fits_resZ true ((x.den : Int) * y.num)
 have hK : divK x y = (fits (x.num * y.den) && fits ((x.den : Int) * y.num)) := rfl
 rw [← hK] at HB
 generalize errZ true (x.num * y.den) = E1 at *
 generalize resZ true (x.num * y.den) = Z1 at *
 generalize errZ true ((x.den : Int) * y.num) = E2 at *
 generalize resZ true ((x.den : Int) * y.num) = Z2 at *
 generalize binO true (divK x y) (x / y) = O at *
 generalize binE true (divK x y) = E at *
 clear e1 e2 hK hb0 S1 S2 T1 T2 F1 F2 a1 a2 a3 a4 h1 h2 hy hyn
 cases hd1 : (E1 != 0) <;> cases hd2 : (E2 != 0)
 · obtain ⟨z1, z2⟩ := HB.out false (by simp [hd1, hd2])
   have HQ := Lib.hid (fun s A n cap l t A' n' cap' m W hl hm e1 e2 => (gmade_any false Z1 Z2 s A n cap l t A' n' cap' m W hl hm e1 e2 V1 V2))
   exact ZL2
 · obtain ⟨z1, z2⟩ := HB.out true (by simp [hd1, hd2])
   have HQ := Lib.hid (fun s A n cap l t A' n' cap' m W hl hm e1 e2 => (gmade_any true Z1 Z2 s A n cap l t A' n' cap' m W hl hm e1 e2 V1 V2))
   exact ZL2
 · obtain ⟨z1, z2⟩ := HB.out true (by simp [hd1, hd2])
   have HQ := Lib.hid (fun s A n cap l t A' n' cap' m W hl hm e1 e2 => (gmade_any true Z1 Z2 s A n cap l t A' n' cap' m W hl hm e1 e2 V1 V2))
   exact ZL2
 · obtain ⟨z1, z2⟩ := HB.out true (by simp [hd1, hd2])
   have HQ := Lib.hid (fun s A n cap l t A' n' cap' m W hl hm e1 e2 => (gmade_any true Z1 Z2 s A n cap l t A' n' cap' m W hl hm e1 e2 V1 V2))
   exact ZL2
end Go.Proofs.YtdlcglndhhndpaaGreat
