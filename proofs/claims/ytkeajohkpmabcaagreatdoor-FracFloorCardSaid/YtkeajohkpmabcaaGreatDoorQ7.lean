
/- Walk over the law FracFloor. Conditions stand in the theorem. -/
import Derived.Test.YtkeajohkpmabcaaGreatDoorQ5
import Derived.Test.YtkeajohkpmabcaaGreatDoorU
import Derived.Test.YtkeajohkpmabcaaGreatDoorU
import Derived.Maps.RangeWalk
namespace Go.Proofs.YtkeajohkpmabcaaGreatDoor
open Go.RowKit
set_option linter.unusedVariables false
set_option linter.unusedSimpArgs false

theorem St.skip3 {w W : World} {L : List Blk} {D : List Hl} {x y u : Hl} (K : St w L (x :: y :: u :: D) W) : St w L (x :: y :: D) W :=
  K.less fun z hz => by
    simp only [List.mem_cons] at hz ⊢
    rcases hz with h | h | h
    · exact Or.inl h
    · exact Or.inr (Or.inl h)
    · exact Or.inr (Or.inr (Or.inr h))
theorem fq_floor (x : Rat) : fq x.num x.den = x.floor := by
  rw [(fr_pos (den_pos x)).1, Rat.floor_def]
theorem floor_bd {x : Rat} {k : Nat} (h : ht x k) : (x.floor.natAbs : Int) < pw k := by
  rw [Rat.floor_def]
  have h1 := h.1
  have h2 := den_pos x
  have h3 : (x.num / (x.den : Int)).natAbs ≤ x.num.natAbs := by
    have e := Int.mul_ediv_add_emod x.num (x.den : Int)
    have m1 := Int.emod_nonneg x.num (show (x.den : Int) ≠ 0 by omega)
    have m2 := Int.emod_lt_of_pos x.num h2
    generalize x.num / (x.den : Int) = q at *
    generalize x.num % (x.den : Int) = r at *
    rcases Int.le_total 0 q with hq | hq
    · have := Int.mul_le_mul_of_nonneg_right (show (1 : Int) ≤ x.den by omega) hq
      omega
    · by_cases hq0 : q = 0
      · subst hq0; simp
      · have := Int.mul_le_mul_of_nonneg_left (show (1 : Int) ≤ x.den by omega) (show (0 : Int) ≤ -q by omega)
        have hm : (-q) * (x.den : Int) = -((x.den : Int) * q) := by rw [Int.neg_mul, Int.mul_comm]
        have h5 : (-q - 1) * (x.den : Int) = -((x.den : Int) * q) - x.den := by rw [Int.sub_mul, hm, Int.one_mul]
        have h6 := Int.mul_le_mul_of_nonneg_left (show (1 : Int) ≤ x.den by omega) (show (0 : Int) ≤ -q - 1 by omega)
        omega
  omega
theorem ht_int {a : Int} {k : Nat} (h : (a.natAbs : Int) < pw k) (hk : 1 ≤ k) : ht (Rat.divInt a 1) k :=
  divInt_ht (by omega) h (by have := pw_le hk; have h1 : pw 1 = 1048576 := by simp [pw]
                             omega)
theorem stdF_neg {s1 t1 s : Int} {l1 k1 l : List Int} {x : Rat} (h : StdF s1 l1 t1 k1 x) (hs : Std s l (-x.num)) : StdF s l t1 k1 (-x) :=
  ⟨by rw [Rat.neg_num]; exact hs, by rw [Rat.neg_den]; exact h.2⟩
theorem divInt_floor1 (n : Int) : fq (Rat.divInt n 1).num (Rat.divInt n 1).den = n := by
  rw [fq_floor, divInt_1, Rat.floor_intCast]
theorem of_fits {n : Int} (h : -9223372036854775808 ≤ n ∧ n ≤ 9223372036854775807) : fitsF (Rat.divInt n 1) = true :=
  divInt_fits (by omega) (fits_i64 (by omega)) (fits_i64 (by decide))
set_option maxRecDepth 1000000 in
set_option maxHeartbeats 16000000 in
theorem fracFloor_walk (s1 t1 : Int) (A1 B1 : Option Addr) (n1 c1 m1 d1 : Nat) (l1 k1 : List Int) (N : Int) (w : World) (r1 : RdI w w.heap.size A1 n1 c1 l1) (q1 : RdI w w.heap.size B1 m1 d1 k1) (hN : -9223372036854775808 ≤ N ∧ N ≤ 9223372036854775807) (htab : TabM w) :
    Calls Tryz.prog 8 #[.agg #[.int .i64 s1, .slice A1 n1 c1, .int .i64 t1, .slice B1 m1 d1], .int .i64 N] w fun e w' => e = .returned (.bool true) ∧ Below w.heap.size w w' := by
  have K := ((St.start w).oldRd r1).oldRd q1
  have r := K.raw
  have HS := Lib.hid (fun W (h : Below w.heap.size w W) => small5_any W (htab.on h))
  have HF1 := Lib.hid (fun W => gfew_any s1 t1 A1 B1 n1 c1 m1 d1 30 W)
  have HR1 := Lib.hid (fun W a b => fRight_any s1 t1 A1 B1 n1 c1 m1 d1 l1 k1 W a b)
  cases x1 : fewF n1 m1 30
  · rw [x1] at HF1
    clear x1
    clear r1 q1
    go_enter Tryz.func8, Tryz.ntmps8
    go_wp2_with (first | (first | ((first | (apply K.alloc; rfl; rfl; (first | with_reducible exact big_zero | with_reducible exact frac_zero)) | (apply K.box; rfl; rfl; rfl)); clear K r; (first | ((fail_if_success revert b0); intro W b0 K) | ((fail_if_success revert b1); intro W b1 K) | ((fail_if_success revert b2); intro W b2 K) | ((fail_if_success revert b3); intro W b3 K) | ((fail_if_success revert b4); intro W b4 K) | ((fail_if_success revert b5); intro W b5 K) | ((fail_if_success revert b6); intro W b6 K) | ((fail_if_success revert b7); intro W b7 K) | ((fail_if_success revert b8); intro W b8 K) | ((fail_if_success revert b9); intro W b9 K) | ((fail_if_success revert b10); intro W b10 K) | ((fail_if_success revert b11); intro W b11 K) | ((fail_if_success revert b12); intro W b12 K) | ((fail_if_success revert b13); intro W b13 K) | ((fail_if_success revert b14); intro W b14 K) | ((fail_if_success revert b15); intro W b15 K)); have r := K.rawS) | (apply K.storeA; rfl; rfl; rfl; rfl; rfl; (repeat (first | with_reducible exact Upd.head _ | with_reducible apply Upd.tail)); (first | with_reducible exact big_size | with_reducible exact frac_size); rfl; rfl; rfl; clear K r; intro W K; have r := K.rawS)) | (go_at_call 37; (with_reducible refine (HS.out _ K.bel).mono ?_); rintro e W' ⟨rfl, hb⟩; replace K := K.keep hb; clear r; have r := K.rawS; clear hb) | (go_at_call 38; (with_reducible refine (HF1.out _).mono ?_); rintro e W' ⟨rfl, hb⟩; replace K := K.keep hb; clear r; have r := K.rawS; clear hb) | (go_at_call 54; (with_reducible refine (HR1.out _ ?qr ?qs).mono ?_); (case qr => exact (by first | exact Rd.nil | exact K.rda)); (case qs => exact (by first | exact Rd.nil | exact K.rda)); rintro e W' ⟨rfl, hb⟩; replace K := K.keep hb; clear r; have r := K.rawS; clear hb))
    go_ret
    exact ⟨rfl, K.1⟩
  rw [x1] at HF1
  cases y1 : rightF s1 l1 t1 k1
  · rw [y1] at HR1
    clear x1 y1
    clear r1 q1
    go_enter Tryz.func8, Tryz.ntmps8
    go_wp2_with (first | (first | ((first | (apply K.alloc; rfl; rfl; (first | with_reducible exact big_zero | with_reducible exact frac_zero)) | (apply K.box; rfl; rfl; rfl)); clear K r; (first | ((fail_if_success revert b0); intro W b0 K) | ((fail_if_success revert b1); intro W b1 K) | ((fail_if_success revert b2); intro W b2 K) | ((fail_if_success revert b3); intro W b3 K) | ((fail_if_success revert b4); intro W b4 K) | ((fail_if_success revert b5); intro W b5 K) | ((fail_if_success revert b6); intro W b6 K) | ((fail_if_success revert b7); intro W b7 K) | ((fail_if_success revert b8); intro W b8 K) | ((fail_if_success revert b9); intro W b9 K) | ((fail_if_success revert b10); intro W b10 K) | ((fail_if_success revert b11); intro W b11 K) | ((fail_if_success revert b12); intro W b12 K) | ((fail_if_success revert b13); intro W b13 K) | ((fail_if_success revert b14); intro W b14 K) | ((fail_if_success revert b15); intro W b15 K)); have r := K.rawS) | (apply K.storeA; rfl; rfl; rfl; rfl; rfl; (repeat (first | with_reducible exact Upd.head _ | with_reducible apply Upd.tail)); (first | with_reducible exact big_size | with_reducible exact frac_size); rfl; rfl; rfl; clear K r; intro W K; have r := K.rawS)) | (go_at_call 37; (with_reducible refine (HS.out _ K.bel).mono ?_); rintro e W' ⟨rfl, hb⟩; replace K := K.keep hb; clear r; have r := K.rawS; clear hb) | (go_at_call 38; (with_reducible refine (HF1.out _).mono ?_); rintro e W' ⟨rfl, hb⟩; replace K := K.keep hb; clear r; have r := K.rawS; clear hb) | (go_at_call 54; (with_reducible refine (HR1.out _ ?qr ?qs).mono ?_); (case qr => exact (by first | exact Rd.nil | exact K.rda)); (case qs => exact (by first | exact Rd.nil | exact K.rda)); rintro e W' ⟨rfl, hb⟩; replace K := K.keep hb; clear r; have r := K.rawS; clear hb))
    go_ret
    exact ⟨rfl, K.1⟩
  rw [y1] at HR1
  obtain ⟨u1, v1⟩ := fewF_le x1
  have hs1 := (rightF_std y1).1
  have g1 : ht (ratF s1 l1 t1 k1) 30 := few_ht r1 q1 y1 (by omega) (by omega)
  generalize ratF s1 l1 t1 k1 = x at *
  clear x1 y1 u1 v1 r1 q1
  have HN := Lib.hid hN
  have F1 := ht_fits g1 (by omega)
  have HFi := Lib.hid (fun s1 t1 A1 B1 n1 c1 m1 d1 l1 k1 W r1 q1 h1 => nFloor (Rat.divInt N 1) s1 t1 A1 B1 n1 c1 m1 d1 l1 k1 W r1 q1 h1 (of_fits hN))
  rw [divInt_floor1] at HFi
  have HFl := Lib.hid (fun s1 t1 A1 B1 n1 c1 m1 d1 l1 k1 W r1 q1 h1 => nFloor x s1 t1 A1 B1 n1 c1 m1 d1 l1 k1 W r1 q1 h1 F1)
  rw [fq_floor] at HFl
  have HFn := Lib.hid (fun s1 t1 A1 B1 n1 c1 m1 d1 l1 k1 W r1 q1 h1 => nFloor (-x) s1 t1 A1 B1 n1 c1 m1 d1 l1 k1 W r1 q1 h1 (ht_fits (ht_neg g1) (by omega)))
  rw [fq_floor] at HFn
  have hfb := floor_bd g1
  have e1 := Lib.hid (show cmpQ (Rat.divInt x.floor 1) x ≤ 0 from by rw [cmpQ_le, divInt_1]; exact Rat.floor_le x)
  have e2 := Lib.hid (show 0 < cmpQ (Rat.divInt (x.floor + 1) 1) x from by
    have h1 := Rat.lt_floor_add_one x
    have h2 : ¬ cmpQ (Rat.divInt (x.floor + 1) 1) x ≤ 0 := by rw [cmpQ_le, divInt_1, Rat.intCast_add]; grind
    omega)
  have e3 := Lib.hid (fun h : Rat.divInt x.floor 1 = x => floor_neg1 (by rw [← divInt_1]; exact h))
  have e4 := Lib.hid (fun h : Rat.divInt x.floor 1 ≠ x => floor_neg2 (by rw [← divInt_1]; exact h))
  generalize x.floor = a at *
  generalize (-x).floor = c at *
  have hp1 : pw 30 ≤ pw 31 := pw_le (by omega)
  have hb1 : ((a + 1).natAbs : Int) < pw 31 := pw_add_lt hfb (y := 1) (k := 1) (by simp [pw]) (by omega) (by omega)
  have fa := fits_lt hfb (by omega)
  have fb := fits_lt hb1 (by omega)
  have fo : fits 1 = true := fits_i64 (by decide)
  have g9 : ht (Rat.divInt a 1) 31 := ht_int (by omega) (by omega)
  have g11 : ht (Rat.divInt (a + 1) 1) 31 := ht_int hb1 (by omega)
  generalize hX : Rat.divInt a 1 = X at *
  generalize hY : Rat.divInt (a + 1) 1 = Y at *
  have HX := Lib.hid hX
  have HY := Lib.hid hY
  clear hX hY hp1 hb1 hfb hN htab
  obtain ⟨M1, hM1⟩ : ∃ M, cmpQ X x = M := ⟨_, rfl⟩
  obtain ⟨M2, hM2⟩ : ∃ M, cmpQ Y x = M := ⟨_, rfl⟩
  have k1' := e1.out
  rw [hM1] at k1'
  have k2' := e2.out
  rw [hM2] at k2'
  have k1'' : decide (0 < M1) = false := decide_eq_false (by omega)
  have k2'' : decide (M2 ≤ 0) = false := decide_eq_false (by omega)
  have EM1 := Lib.hid hM1
  have EM2 := Lib.hid hM2
  clear hM1 hM2 e1 e2
  go_enter Tryz.func8, Tryz.ntmps8
  go_wp2_with (first | (first | ((first | (apply K.alloc; rfl; rfl; (first | with_reducible exact big_zero | with_reducible exact frac_zero)) | (apply K.box; rfl; rfl; rfl)); clear K r; (first | ((fail_if_success revert b0); intro W b0 K) | ((fail_if_success revert b1); intro W b1 K) | ((fail_if_success revert b2); intro W b2 K) | ((fail_if_success revert b3); intro W b3 K) | ((fail_if_success revert b4); intro W b4 K) | ((fail_if_success revert b5); intro W b5 K) | ((fail_if_success revert b6); intro W b6 K) | ((fail_if_success revert b7); intro W b7 K) | ((fail_if_success revert b8); intro W b8 K) | ((fail_if_success revert b9); intro W b9 K) | ((fail_if_success revert b10); intro W b10 K) | ((fail_if_success revert b11); intro W b11 K) | ((fail_if_success revert b12); intro W b12 K) | ((fail_if_success revert b13); intro W b13 K) | ((fail_if_success revert b14); intro W b14 K) | ((fail_if_success revert b15); intro W b15 K)); have r := K.rawS) | (apply K.storeA; rfl; rfl; rfl; rfl; rfl; (repeat (first | with_reducible exact Upd.head _ | with_reducible apply Upd.tail)); (first | with_reducible exact big_size | with_reducible exact frac_size); rfl; rfl; rfl; clear K r; intro W K; have r := K.rawS)) | (go_at_call 37; (with_reducible refine (HS.out _ K.bel).mono ?_); rintro e W' ⟨rfl, hb⟩; replace K := K.keep hb; clear r; have r := K.rawS; clear hb) | (go_at_call 38; (with_reducible refine (HF1.out _).mono ?_); rintro e W' ⟨rfl, hb⟩; replace K := K.keep hb; clear r; have r := K.rawS; clear hb) | (go_at_call 54; (with_reducible refine (HR1.out _ ?qr ?qs).mono ?_); (case qr => exact (by first | exact Rd.nil | exact K.rda)); (case qs => exact (by first | exact Rd.nil | exact K.rda)); rintro e W' ⟨rfl, hb⟩; replace K := K.keep hb; clear r; have r := K.rawS; clear hb))
  clear HS HF1 HR1
  refine (HFl.out _ _ _ _ _ _ _ _ _ _ _ (by first | exact Rd.nil | exact K.rda) (by first | exact Rd.nil | exact K.rda) hs1).mono ?_
  rintro e W' ⟨s6, A6, n6, c6, l6, rfl, hr, hs6, hf, hb⟩
  replace K := K.ret hb hr hf
  clear r hr hf hb HFl
  have r := K.rawS
  go_wp2_with (first | ((first | (apply K.alloc; rfl; rfl; (first | with_reducible exact big_zero | with_reducible exact frac_zero)) | (apply K.box; rfl; rfl; rfl)); clear K r; (first | ((fail_if_success revert b0); intro W b0 K) | ((fail_if_success revert b1); intro W b1 K) | ((fail_if_success revert b2); intro W b2 K) | ((fail_if_success revert b3); intro W b3 K) | ((fail_if_success revert b4); intro W b4 K) | ((fail_if_success revert b5); intro W b5 K) | ((fail_if_success revert b6); intro W b6 K) | ((fail_if_success revert b7); intro W b7 K) | ((fail_if_success revert b8); intro W b8 K) | ((fail_if_success revert b9); intro W b9 K) | ((fail_if_success revert b10); intro W b10 K) | ((fail_if_success revert b11); intro W b11 K) | ((fail_if_success revert b12); intro W b12 K) | ((fail_if_success revert b13); intro W b13 K) | ((fail_if_success revert b14); intro W b14 K) | ((fail_if_success revert b15); intro W b15 K)); have r := K.rawS) | (apply K.storeA; rfl; rfl; rfl; rfl; rfl; (repeat (first | with_reducible exact Upd.head _ | with_reducible apply Upd.tail)); (first | with_reducible exact big_size | with_reducible exact frac_size); rfl; rfl; rfl; clear K r; intro W K; have r := K.rawS))
  go_frame
  go_upto_region 5 with (first | ((first | (apply K.alloc; rfl; rfl; (first | with_reducible exact big_zero | with_reducible exact frac_zero)) | (apply K.box; rfl; rfl; rfl)); clear K r; (first | ((fail_if_success revert b0); intro W b0 K) | ((fail_if_success revert b1); intro W b1 K) | ((fail_if_success revert b2); intro W b2 K) | ((fail_if_success revert b3); intro W b3 K) | ((fail_if_success revert b4); intro W b4 K) | ((fail_if_success revert b5); intro W b5 K) | ((fail_if_success revert b6); intro W b6 K) | ((fail_if_success revert b7); intro W b7 K) | ((fail_if_success revert b8); intro W b8 K) | ((fail_if_success revert b9); intro W b9 K) | ((fail_if_success revert b10); intro W b10 K) | ((fail_if_success revert b11); intro W b11 K) | ((fail_if_success revert b12); intro W b12 K) | ((fail_if_success revert b13); intro W b13 K) | ((fail_if_success revert b14); intro W b14 K) | ((fail_if_success revert b15); intro W b15 K)); have r := K.rawS) | (apply K.storeA; rfl; rfl; rfl; rfl; rfl; (repeat (first | with_reducible exact Upd.head _ | with_reducible apply Upd.tail)); (first | with_reducible exact big_size | with_reducible exact frac_size); rfl; rfl; rfl; clear K r; intro W K; have r := K.rawS))
  obtain ⟨RR, HR0⟩ := K.hide 24
  go_cut [8, 7] from 28 to 33 (fun e p wx => ∃ g s8 A8 n8 c8 l8, e = .int .i64 0 ∧ p = .pointer (some ⟨g, 0, none⟩) ∧ Std s8 l8 (a + 1) ∧ RR g #[.int .i64 s8, .slice A8 n8 c8] A8 n8 c8 l8 wx)
  case first =>
    obtain ⟨g1, hg1, KA⟩ := K.newEx #[.int .i64 0, .slice none 0 0] 24
    have rA := KA.raw
    have Kd := K.drew
    have KAd := KA.drew
    simp only [Raw, RawC, and_true, true_and, Nat.zero_add, Nat.reduceAdd] at rA
    go_region_with (first
      | (go_at_call 35; (with_reducible refine (bOf_any 1 _ ?qz).mono ?_); (case qz => decide); rintro e W ⟨s30, A30, n30, c30, l30, rfl, hr, hs30, hf, hb⟩; (first | with_reducible replace K := Kd.ret hb hr hf | with_reducible replace K := KAd.ret hb hr hf); clear r rA KA hr hf hb; have r := K.raw; obtain ⟨g2, hg2, KA⟩ := K.newEx #[.int .i64 0, .slice none 0 0] 24; have rA := KA.raw; simp only [Raw, RawC, and_true, true_and, Nat.zero_add, Nat.reduceAdd] at r rA)
      | (go_at_call 11; (with_reducible refine (nAddT a 1 _ _ _ _ _ _ _ _ _ _ _ ?qa ?qb hs6 hs30 fa fo fb).mono ?_); (case qa => (first | with_reducible exact K.rd (by repeat (first | with_reducible exact List.mem_cons_self | with_reducible apply List.mem_cons_of_mem)) | with_reducible exact KA.rd (by repeat (first | with_reducible exact List.mem_cons_self | with_reducible apply List.mem_cons_of_mem)))); (case qb => (first | with_reducible exact K.rd (by repeat (first | with_reducible exact List.mem_cons_self | with_reducible apply List.mem_cons_of_mem)) | with_reducible exact KA.rd (by repeat (first | with_reducible exact List.mem_cons_self | with_reducible apply List.mem_cons_of_mem)))); skip; rintro e W ⟨s31, A31, n31, c31, l31, rfl, hr, hs31, hf, hb⟩; (first | with_reducible replace K := K.ret hb hr hf | with_reducible replace K := KA.ret hb hr hf); clear r rA KA hr hf hb; have r := K.raw; have z := K.rawz; simp only [Raw, RawC, RawZ, and_true, true_and, Nat.zero_add, Nat.reduceAdd] at r z))
    all_goals
      replace hs31 : Std s31 l31 (a + 1) := hs31
      go_wp2_with fail
      go_meet
      first
        | with_reducible exact ⟨_, s31, A31, n31, c31, l31, rfl, rfl, hs31, (HR0 _ _ _ _ _ _ _).2 (K.new #[.int .i64 s31, .slice A31 n31 c31] 24).skip2⟩
        | with_reducible exact ⟨_, s31, A31, n31, c31, l31, rfl, rfl, hs31, (HR0 _ _ _ _ _ _ _).2 (K.set2 (u := .int .i64 s31) (v := .slice A31 n31 c31) (by repeat (first | with_reducible exact Upd.head _ | with_reducible apply Upd.tail))).skip2⟩
        | exact ⟨_, s31, A31, n31, c31, l31, rfl, rfl, hs31, (HR0 _ _ _ _ _ _ _).2 (K.new #[.int .i64 s31, .slice A31 n31 c31] 24).skip2⟩
        | exact ⟨_, s31, A31, n31, c31, l31, rfl, rfl, hs31, (HR0 _ _ _ _ _ _ _).2 (K.set2 (u := .int .i64 s31) (v := .slice A31 n31 c31) (by repeat (first | with_reducible exact Upd.head _ | with_reducible apply Upd.tail))).skip2⟩
  case rest =>
  obtain ⟨gb7, s7, A7, n7, c7, l7, rfl, rfl, hs7, hk⟩ := hcut
  replace K := (HR0 _ _ _ _ _ _ _).1 hk
  clear r hk HR0
  have r := K.rawS
  go_upto_region 6 with (first | ((first | (apply K.alloc; rfl; rfl; (first | with_reducible exact big_zero | with_reducible exact frac_zero)) | (apply K.box; rfl; rfl; rfl)); clear K r; (first | ((fail_if_success revert b0); intro W b0 K) | ((fail_if_success revert b1); intro W b1 K) | ((fail_if_success revert b2); intro W b2 K) | ((fail_if_success revert b3); intro W b3 K) | ((fail_if_success revert b4); intro W b4 K) | ((fail_if_success revert b5); intro W b5 K) | ((fail_if_success revert b6); intro W b6 K) | ((fail_if_success revert b7); intro W b7 K) | ((fail_if_success revert b8); intro W b8 K) | ((fail_if_success revert b9); intro W b9 K) | ((fail_if_success revert b10); intro W b10 K) | ((fail_if_success revert b11); intro W b11 K) | ((fail_if_success revert b12); intro W b12 K) | ((fail_if_success revert b13); intro W b13 K) | ((fail_if_success revert b14); intro W b14 K) | ((fail_if_success revert b15); intro W b15 K)); have r := K.rawS) | (apply K.storeA; rfl; rfl; rfl; rfl; rfl; (repeat (first | with_reducible exact Upd.head _ | with_reducible apply Upd.tail)); (first | with_reducible exact big_size | with_reducible exact frac_size); rfl; rfl; rfl; clear K r; intro W K; have r := K.rawS))
  obtain ⟨RR, HR0⟩ := K.hideF 43
  go_cut [10, 9] from 34 to 39 (fun e p wx => ∃ g s8 A8 n8 c8 l8 t8 B8 m8 d8 k8, e = .int .i64 0 ∧ p = .pointer (some ⟨g, 0, none⟩) ∧ StdF s8 l8 t8 k8 (Rat.divInt a 1) ∧ RR g #[.int .i64 s8, .slice A8 n8 c8, .int .i64 t8, .slice B8 m8 d8] A8 n8 c8 l8 B8 m8 d8 k8 wx)
  case first =>
    obtain ⟨gz1, hgz1, KA⟩ := K.newX #[.int .i64 0, .slice none 0 0, .int .i64 0, .slice none 0 0] 43
    have rA := KA.raw
    have Kd := K.drew
    have KAd := KA.drew
    simp only [Raw, RawC, RawZ, and_true, true_and, Nat.zero_add, Nat.reduceAdd] at rA
    go_region_with (first
      | (go_at_call 35; (with_reducible refine (bOf_any 1 _ ?qz).mono ?_); (case qz => decide); rintro e W ⟨s30, A30, n30, c30, l30, rfl, hr, hs30, hf, hb⟩; (first | with_reducible replace K := Kd.ret hb hr hf | with_reducible replace K := KAd.ret hb hr hf); clear r rA KA hr hf hb; have r := K.raw; obtain ⟨gz2, hgz2, KA⟩ := K.newX #[.int .i64 0, .slice none 0 0, .int .i64 0, .slice none 0 0] 43; have rA := KA.raw; simp only [Raw, RawC, RawZ, and_true, true_and, Nat.zero_add, Nat.reduceAdd] at r rA)
      | (go_at_call 52; (with_reducible refine (nNewT a 1 _ _ _ _ _ _ _ _ _ _ _ ?qa ?qb hs6 hs30 fa fo (by decide)).mono ?_); (case qa => (first | with_reducible exact K.rd (by repeat (first | with_reducible exact List.mem_cons_self | with_reducible apply List.mem_cons_of_mem)) | with_reducible exact KA.rd (by repeat (first | with_reducible exact List.mem_cons_self | with_reducible apply List.mem_cons_of_mem)))); (case qb => (first | with_reducible exact K.rd (by repeat (first | with_reducible exact List.mem_cons_self | with_reducible apply List.mem_cons_of_mem)) | with_reducible exact KA.rd (by repeat (first | with_reducible exact List.mem_cons_self | with_reducible apply List.mem_cons_of_mem)))); rintro e W ⟨s31, A31, n31, c31, l31, t31, B31, m31, d31, k31, rfl, ⟨hra, hrb⟩, hs31, ⟨hfa, hfb⟩, hb⟩; replace hs31 : StdF s31 l31 t31 k31 (Rat.divInt a 1) := hs31; (first | with_reducible replace K := K.retF hb hra hrb hfa hfb | with_reducible replace K := KA.retF hb hra hrb hfa hfb); clear r rA KA hra hrb hfa hfb hb; have r := K.raw; have z := K.rawz; simp only [Raw, RawC, RawZ, and_true, true_and, Nat.zero_add, Nat.reduceAdd] at r z))
    all_goals
      go_wp2_with fail
      go_meet
      first
        | with_reducible exact ⟨_, s31, A31, n31, c31, l31, t31, B31, m31, d31, k31, rfl, rfl, hs31, (HR0 _ _ _ _ _ _ _ _ _ _ _).2 (K.new #[.int .i64 s31, .slice A31 n31 c31, .int .i64 t31, .slice B31 m31 d31] 43).skip3⟩
        | with_reducible exact ⟨_, s31, A31, n31, c31, l31, t31, B31, m31, d31, k31, rfl, rfl, hs31, (HR0 _ _ _ _ _ _ _ _ _ _ _).2 (K.set4 (u0 := .int .i64 s31) (u1 := .slice A31 n31 c31) (u2 := .int .i64 t31) (u3 := .slice B31 m31 d31) (by repeat (first | with_reducible exact Upd.head _ | with_reducible apply Upd.tail))).skip3⟩
        | exact ⟨_, s31, A31, n31, c31, l31, t31, B31, m31, d31, k31, rfl, rfl, hs31, (HR0 _ _ _ _ _ _ _ _ _ _ _).2 (K.new #[.int .i64 s31, .slice A31 n31 c31, .int .i64 t31, .slice B31 m31 d31] 43).skip3⟩
        | exact ⟨_, s31, A31, n31, c31, l31, t31, B31, m31, d31, k31, rfl, rfl, hs31, (HR0 _ _ _ _ _ _ _ _ _ _ _).2 (K.set4 (u0 := .int .i64 s31) (u1 := .slice A31 n31 c31) (u2 := .int .i64 t31) (u3 := .slice B31 m31 d31) (by repeat (first | with_reducible exact Upd.head _ | with_reducible apply Upd.tail))).skip3⟩
  case rest =>
  obtain ⟨gb9, s9, A9, n9, c9, l9, t9, B9, m9, d9, k9, rfl, rfl, hs9, hk⟩ := hcut
  replace K := (HR0 _ _ _ _ _ _ _ _ _ _ _).1 hk
  clear r hk HR0
  have r := K.rawS
  rw [HX.out] at hs9
  go_upto_region 7 with (first | ((first | (apply K.alloc; rfl; rfl; (first | with_reducible exact big_zero | with_reducible exact frac_zero)) | (apply K.box; rfl; rfl; rfl)); clear K r; (first | ((fail_if_success revert b0); intro W b0 K) | ((fail_if_success revert b1); intro W b1 K) | ((fail_if_success revert b2); intro W b2 K) | ((fail_if_success revert b3); intro W b3 K) | ((fail_if_success revert b4); intro W b4 K) | ((fail_if_success revert b5); intro W b5 K) | ((fail_if_success revert b6); intro W b6 K) | ((fail_if_success revert b7); intro W b7 K) | ((fail_if_success revert b8); intro W b8 K) | ((fail_if_success revert b9); intro W b9 K) | ((fail_if_success revert b10); intro W b10 K) | ((fail_if_success revert b11); intro W b11 K) | ((fail_if_success revert b12); intro W b12 K) | ((fail_if_success revert b13); intro W b13 K) | ((fail_if_success revert b14); intro W b14 K) | ((fail_if_success revert b15); intro W b15 K)); have r := K.rawS) | (apply K.storeA; rfl; rfl; rfl; rfl; rfl; (repeat (first | with_reducible exact Upd.head _ | with_reducible apply Upd.tail)); (first | with_reducible exact big_size | with_reducible exact frac_size); rfl; rfl; rfl; clear K r; intro W K; have r := K.rawS))
  obtain ⟨RR, HR0⟩ := K.hideF 43
  go_cut [12, 11] from 40 to 45 (fun e p wx => ∃ g s8 A8 n8 c8 l8 t8 B8 m8 d8 k8, e = .int .i64 0 ∧ p = .pointer (some ⟨g, 0, none⟩) ∧ StdF s8 l8 t8 k8 (Rat.divInt (a + 1) 1) ∧ RR g #[.int .i64 s8, .slice A8 n8 c8, .int .i64 t8, .slice B8 m8 d8] A8 n8 c8 l8 B8 m8 d8 k8 wx)
  case first =>
    obtain ⟨gz1, hgz1, KA⟩ := K.newX #[.int .i64 0, .slice none 0 0, .int .i64 0, .slice none 0 0] 43
    have rA := KA.raw
    have Kd := K.drew
    have KAd := KA.drew
    simp only [Raw, RawC, RawZ, and_true, true_and, Nat.zero_add, Nat.reduceAdd] at rA
    go_region_with (first
      | (go_at_call 35; (with_reducible refine (bOf_any 1 _ ?qz).mono ?_); (case qz => decide); rintro e W ⟨s30, A30, n30, c30, l30, rfl, hr, hs30, hf, hb⟩; (first | with_reducible replace K := Kd.ret hb hr hf | with_reducible replace K := KAd.ret hb hr hf); clear r rA KA hr hf hb; have r := K.raw; obtain ⟨gz2, hgz2, KA⟩ := K.newX #[.int .i64 0, .slice none 0 0, .int .i64 0, .slice none 0 0] 43; have rA := KA.raw; simp only [Raw, RawC, RawZ, and_true, true_and, Nat.zero_add, Nat.reduceAdd] at r rA)
      | (go_at_call 52; (with_reducible refine (nNewT (a + 1) 1 _ _ _ _ _ _ _ _ _ _ _ ?qa ?qb hs7 hs30 fb fo (by decide)).mono ?_); (case qa => (first | with_reducible exact K.rd (by repeat (first | with_reducible exact List.mem_cons_self | with_reducible apply List.mem_cons_of_mem)) | with_reducible exact KA.rd (by repeat (first | with_reducible exact List.mem_cons_self | with_reducible apply List.mem_cons_of_mem)))); (case qb => (first | with_reducible exact K.rd (by repeat (first | with_reducible exact List.mem_cons_self | with_reducible apply List.mem_cons_of_mem)) | with_reducible exact KA.rd (by repeat (first | with_reducible exact List.mem_cons_self | with_reducible apply List.mem_cons_of_mem)))); rintro e W ⟨s31, A31, n31, c31, l31, t31, B31, m31, d31, k31, rfl, ⟨hra, hrb⟩, hs31, ⟨hfa, hfb⟩, hb⟩; replace hs31 : StdF s31 l31 t31 k31 (Rat.divInt (a + 1) 1) := hs31; (first | with_reducible replace K := K.retF hb hra hrb hfa hfb | with_reducible replace K := KA.retF hb hra hrb hfa hfb); clear r rA KA hra hrb hfa hfb hb; have r := K.raw; have z := K.rawz; simp only [Raw, RawC, RawZ, and_true, true_and, Nat.zero_add, Nat.reduceAdd] at r z))
    all_goals
      go_wp2_with fail
      go_meet
      first
        | with_reducible exact ⟨_, s31, A31, n31, c31, l31, t31, B31, m31, d31, k31, rfl, rfl, hs31, (HR0 _ _ _ _ _ _ _ _ _ _ _).2 (K.new #[.int .i64 s31, .slice A31 n31 c31, .int .i64 t31, .slice B31 m31 d31] 43).skip3⟩
        | with_reducible exact ⟨_, s31, A31, n31, c31, l31, t31, B31, m31, d31, k31, rfl, rfl, hs31, (HR0 _ _ _ _ _ _ _ _ _ _ _).2 (K.set4 (u0 := .int .i64 s31) (u1 := .slice A31 n31 c31) (u2 := .int .i64 t31) (u3 := .slice B31 m31 d31) (by repeat (first | with_reducible exact Upd.head _ | with_reducible apply Upd.tail))).skip3⟩
        | exact ⟨_, s31, A31, n31, c31, l31, t31, B31, m31, d31, k31, rfl, rfl, hs31, (HR0 _ _ _ _ _ _ _ _ _ _ _).2 (K.new #[.int .i64 s31, .slice A31 n31 c31, .int .i64 t31, .slice B31 m31 d31] 43).skip3⟩
        | exact ⟨_, s31, A31, n31, c31, l31, t31, B31, m31, d31, k31, rfl, rfl, hs31, (HR0 _ _ _ _ _ _ _ _ _ _ _).2 (K.set4 (u0 := .int .i64 s31) (u1 := .slice A31 n31 c31) (u2 := .int .i64 t31) (u3 := .slice B31 m31 d31) (by repeat (first | with_reducible exact Upd.head _ | with_reducible apply Upd.tail))).skip3⟩
  case rest =>
  obtain ⟨gb11, s11, A11, n11, c11, l11, t11, B11, m11, d11, k11, rfl, rfl, hs11, hk⟩ := hcut
  replace K := (HR0 _ _ _ _ _ _ _ _ _ _ _).1 hk
  clear r hk HR0
  have r := K.rawS
  rw [HY.out] at hs11
  go_wp2_with (first | ((first | (apply K.alloc; rfl; rfl; (first | with_reducible exact big_zero | with_reducible exact frac_zero)) | (apply K.box; rfl; rfl; rfl)); clear K r; (first | ((fail_if_success revert b0); intro W b0 K) | ((fail_if_success revert b1); intro W b1 K) | ((fail_if_success revert b2); intro W b2 K) | ((fail_if_success revert b3); intro W b3 K) | ((fail_if_success revert b4); intro W b4 K) | ((fail_if_success revert b5); intro W b5 K) | ((fail_if_success revert b6); intro W b6 K) | ((fail_if_success revert b7); intro W b7 K) | ((fail_if_success revert b8); intro W b8 K) | ((fail_if_success revert b9); intro W b9 K) | ((fail_if_success revert b10); intro W b10 K) | ((fail_if_success revert b11); intro W b11 K) | ((fail_if_success revert b12); intro W b12 K) | ((fail_if_success revert b13); intro W b13 K) | ((fail_if_success revert b14); intro W b14 K) | ((fail_if_success revert b15); intro W b15 K)); have r := K.rawS) | (apply K.storeA; rfl; rfl; rfl; rfl; rfl; (repeat (first | with_reducible exact Upd.head _ | with_reducible apply Upd.tail)); (first | with_reducible exact big_size | with_reducible exact frac_size); rfl; rfl; rfl; clear K r; intro W K; have r := K.rawS))
  refine (cCmp _ _ _ _ _ _ _ _ _ _ _ _ _ _ _ _ _ _ _ _ _ _ _ (by first | exact Rd.nil | exact K.rda) (by first | exact Rd.nil | exact K.rda) (by first | exact Rd.nil | exact K.rda) (by first | exact Rd.nil | exact K.rda) hs9 hs1 g9 g1 (M1) EM1.out (by omega) (by omega)).mono ?_
  rintro e W' ⟨rfl, hb⟩
  replace K := K.keep hb
  clear r
  have r := K.rawS
  clear hb
  go_wp2_with (first | ((first | (apply K.alloc; rfl; rfl; (first | with_reducible exact big_zero | with_reducible exact frac_zero)) | (apply K.box; rfl; rfl; rfl)); clear K r; (first | ((fail_if_success revert b0); intro W b0 K) | ((fail_if_success revert b1); intro W b1 K) | ((fail_if_success revert b2); intro W b2 K) | ((fail_if_success revert b3); intro W b3 K) | ((fail_if_success revert b4); intro W b4 K) | ((fail_if_success revert b5); intro W b5 K) | ((fail_if_success revert b6); intro W b6 K) | ((fail_if_success revert b7); intro W b7 K) | ((fail_if_success revert b8); intro W b8 K) | ((fail_if_success revert b9); intro W b9 K) | ((fail_if_success revert b10); intro W b10 K) | ((fail_if_success revert b11); intro W b11 K) | ((fail_if_success revert b12); intro W b12 K) | ((fail_if_success revert b13); intro W b13 K) | ((fail_if_success revert b14); intro W b14 K) | ((fail_if_success revert b15); intro W b15 K)); have r := K.rawS) | (apply K.storeA; rfl; rfl; rfl; rfl; rfl; (repeat (first | with_reducible exact Upd.head _ | with_reducible apply Upd.tail)); (first | with_reducible exact big_size | with_reducible exact frac_size); rfl; rfl; rfl; clear K r; intro W K; have r := K.rawS))
  refine (cCmp _ _ _ _ _ _ _ _ _ _ _ _ _ _ _ _ _ _ _ _ _ _ _ (by first | exact Rd.nil | exact K.rda) (by first | exact Rd.nil | exact K.rda) (by first | exact Rd.nil | exact K.rda) (by first | exact Rd.nil | exact K.rda) hs11 hs1 g11 g1 (M2) EM2.out (by omega) (by omega)).mono ?_
  rintro e W' ⟨rfl, hb⟩
  replace K := K.keep hb
  clear r
  have r := K.rawS
  clear hb
  go_wp2_with (first | ((first | (apply K.alloc; rfl; rfl; (first | with_reducible exact big_zero | with_reducible exact frac_zero)) | (apply K.box; rfl; rfl; rfl)); clear K r; (first | ((fail_if_success revert b0); intro W b0 K) | ((fail_if_success revert b1); intro W b1 K) | ((fail_if_success revert b2); intro W b2 K) | ((fail_if_success revert b3); intro W b3 K) | ((fail_if_success revert b4); intro W b4 K) | ((fail_if_success revert b5); intro W b5 K) | ((fail_if_success revert b6); intro W b6 K) | ((fail_if_success revert b7); intro W b7 K) | ((fail_if_success revert b8); intro W b8 K) | ((fail_if_success revert b9); intro W b9 K) | ((fail_if_success revert b10); intro W b10 K) | ((fail_if_success revert b11); intro W b11 K) | ((fail_if_success revert b12); intro W b12 K) | ((fail_if_success revert b13); intro W b13 K) | ((fail_if_success revert b14); intro W b14 K) | ((fail_if_success revert b15); intro W b15 K)); have r := K.rawS) | (apply K.storeA; rfl; rfl; rfl; rfl; rfl; (repeat (first | with_reducible exact Upd.head _ | with_reducible apply Upd.tail)); (first | with_reducible exact big_size | with_reducible exact frac_size); rfl; rfl; rfl; clear K r; intro W K; have r := K.rawS))
  have h11 : Std s1 l1 x.num := hs1.1
  go_upto_region 10 with (first | ((first | (apply K.alloc; rfl; rfl; (first | with_reducible exact big_zero | with_reducible exact frac_zero)) | (apply K.box; rfl; rfl; rfl)); clear K r; (first | ((fail_if_success revert b0); intro W b0 K) | ((fail_if_success revert b1); intro W b1 K) | ((fail_if_success revert b2); intro W b2 K) | ((fail_if_success revert b3); intro W b3 K) | ((fail_if_success revert b4); intro W b4 K) | ((fail_if_success revert b5); intro W b5 K) | ((fail_if_success revert b6); intro W b6 K) | ((fail_if_success revert b7); intro W b7 K) | ((fail_if_success revert b8); intro W b8 K) | ((fail_if_success revert b9); intro W b9 K) | ((fail_if_success revert b10); intro W b10 K) | ((fail_if_success revert b11); intro W b11 K) | ((fail_if_success revert b12); intro W b12 K) | ((fail_if_success revert b13); intro W b13 K) | ((fail_if_success revert b14); intro W b14 K) | ((fail_if_success revert b15); intro W b15 K)); have r := K.rawS) | (apply K.storeA; rfl; rfl; rfl; rfl; rfl; (repeat (first | with_reducible exact Upd.head _ | with_reducible apply Upd.tail)); (first | with_reducible exact big_size | with_reducible exact frac_size); rfl; rfl; rfl; clear K r; intro W K; have r := K.rawS))
  obtain ⟨RR, HR0⟩ := K.hide 24
  go_cut [13] from 68 to 74 (fun p wx => ∃ g s8 A8 n8 c8 l8, p = .pointer (some ⟨g, 0, none⟩) ∧ Std s8 l8 (c) ∧ RR g #[.int .i64 s8, .slice A8 n8 c8] A8 n8 c8 l8 wx)
  case first =>
    obtain ⟨g1, hg1, KA⟩ := K.newEx #[.int .i64 0, .slice none 0 0] 24
    have rA := KA.raw
    have Kd := K.drew
    have KAd := KA.drew
    simp only [Raw, RawC, RawZ, and_true, true_and, Nat.zero_add, Nat.reduceAdd] at rA
    go_region_with (first
      | (go_at_call 33; (with_reducible refine (nNeg x.num _ _ _ _ _ _ ?qn h11 (fitsF_num F1)).mono ?_); (try case qn => (first | with_reducible exact Kd.rd (by repeat (first | with_reducible exact List.mem_cons_self | with_reducible apply List.mem_cons_of_mem)) | with_reducible exact KAd.rd (by repeat (first | with_reducible exact List.mem_cons_self | with_reducible apply List.mem_cons_of_mem)))); skip; rintro e W ⟨s30, A30, n30, c30, l30, rfl, hr, hs30, hf, hb⟩; (first | with_reducible replace K := Kd.ret hb hr hf | with_reducible replace K := KAd.ret hb hr hf); clear r rA KA hr hf hb; have r := K.raw; obtain ⟨g2, hg2, KA⟩ := K.newEx #[.int .i64 0, .slice none 0 0] 24; have rA := KA.raw; simp only [Raw, RawC, RawZ, and_true, true_and, Nat.zero_add, Nat.reduceAdd] at r rA)
      | (go_at_call 61; (with_reducible refine (HFn.out _ _ _ _ _ _ _ _ _ _ _ ?qa ?qb (stdF_neg hs1 hs30)).mono ?_); (case qa => (first | with_reducible exact K.rd (by repeat (first | with_reducible exact List.mem_cons_self | with_reducible apply List.mem_cons_of_mem)) | with_reducible exact KA.rd (by repeat (first | with_reducible exact List.mem_cons_self | with_reducible apply List.mem_cons_of_mem)))); (case qb => (first | with_reducible exact K.rd (by repeat (first | with_reducible exact List.mem_cons_self | with_reducible apply List.mem_cons_of_mem)) | with_reducible exact KA.rd (by repeat (first | with_reducible exact List.mem_cons_self | with_reducible apply List.mem_cons_of_mem)))); skip; rintro e W ⟨s31, A31, n31, c31, l31, rfl, hr, hs31, hf, hb⟩; (first | with_reducible replace K := K.ret hb hr hf | with_reducible replace K := KA.ret hb hr hf); clear r rA KA hr hf hb; have r := K.raw; have z := K.rawz; simp only [Raw, RawC, RawZ, and_true, true_and, Nat.zero_add, Nat.reduceAdd] at r z))
    all_goals
      replace hs31 : Std s31 l31 (c) := hs31
      go_wp2_with fail
      go_meet
      first
        | with_reducible exact ⟨_, s31, A31, n31, c31, l31, rfl, hs31, (HR0 _ _ _ _ _ _ _).2 (K.new #[.int .i64 s31, .slice A31 n31 c31] 24).skip2⟩
        | with_reducible exact ⟨_, s31, A31, n31, c31, l31, rfl, hs31, (HR0 _ _ _ _ _ _ _).2 (K.set2 (u := .int .i64 s31) (v := .slice A31 n31 c31) (by repeat (first | with_reducible exact Upd.head _ | with_reducible apply Upd.tail))).skip2⟩
        | exact ⟨_, s31, A31, n31, c31, l31, rfl, hs31, (HR0 _ _ _ _ _ _ _).2 (K.new #[.int .i64 s31, .slice A31 n31 c31] 24).skip2⟩
        | exact ⟨_, s31, A31, n31, c31, l31, rfl, hs31, (HR0 _ _ _ _ _ _ _).2 (K.set2 (u := .int .i64 s31) (v := .slice A31 n31 c31) (by repeat (first | with_reducible exact Upd.head _ | with_reducible apply Upd.tail))).skip2⟩
  case rest =>
  obtain ⟨gb13, s13, A13, n13, c13, l13, rfl, hs13, hk⟩ := hcut
  replace K := (HR0 _ _ _ _ _ _ _).1 hk
  clear r hk HR0
  have r := K.rawS
  go_wp2_with (first | ((first | (apply K.alloc; rfl; rfl; (first | with_reducible exact big_zero | with_reducible exact frac_zero)) | (apply K.box; rfl; rfl; rfl)); clear K r; (first | ((fail_if_success revert b0); intro W b0 K) | ((fail_if_success revert b1); intro W b1 K) | ((fail_if_success revert b2); intro W b2 K) | ((fail_if_success revert b3); intro W b3 K) | ((fail_if_success revert b4); intro W b4 K) | ((fail_if_success revert b5); intro W b5 K) | ((fail_if_success revert b6); intro W b6 K) | ((fail_if_success revert b7); intro W b7 K) | ((fail_if_success revert b8); intro W b8 K) | ((fail_if_success revert b9); intro W b9 K) | ((fail_if_success revert b10); intro W b10 K) | ((fail_if_success revert b11); intro W b11 K) | ((fail_if_success revert b12); intro W b12 K) | ((fail_if_success revert b13); intro W b13 K) | ((fail_if_success revert b14); intro W b14 K) | ((fail_if_success revert b15); intro W b15 K)); have r := K.rawS) | (apply K.storeA; rfl; rfl; rfl; rfl; rfl; (repeat (first | with_reducible exact Upd.head _ | with_reducible apply Upd.tail)); (first | with_reducible exact big_size | with_reducible exact frac_size); rfl; rfl; rfl; clear K r; intro W K; have r := K.rawS))
  refine (nSameF _ _ _ _ _ _ _ _ _ _ _ _ _ _ _ _ _ _ _ _ _ _ _ (by first | exact Rd.nil | exact K.rda) (by first | exact Rd.nil | exact K.rda) (by first | exact Rd.nil | exact K.rda) (by first | exact Rd.nil | exact K.rda) hs9 hs1).mono ?_
  rintro e W' ⟨he, hb⟩
  by_cases hw : X = x
  · rw [decide_eq_true hw] at he
    subst he
    have E3 := Lib.hid (e3.out hw)
    clear hw e3 e4
    replace K := K.keep hb
    clear r
    have r := K.rawS
    clear hb
    go_wp2_with (first | ((first | (apply K.alloc; rfl; rfl; (first | with_reducible exact big_zero | with_reducible exact frac_zero)) | (apply K.box; rfl; rfl; rfl)); clear K r; (first | ((fail_if_success revert b0); intro W b0 K) | ((fail_if_success revert b1); intro W b1 K) | ((fail_if_success revert b2); intro W b2 K) | ((fail_if_success revert b3); intro W b3 K) | ((fail_if_success revert b4); intro W b4 K) | ((fail_if_success revert b5); intro W b5 K) | ((fail_if_success revert b6); intro W b6 K) | ((fail_if_success revert b7); intro W b7 K) | ((fail_if_success revert b8); intro W b8 K) | ((fail_if_success revert b9); intro W b9 K) | ((fail_if_success revert b10); intro W b10 K) | ((fail_if_success revert b11); intro W b11 K) | ((fail_if_success revert b12); intro W b12 K) | ((fail_if_success revert b13); intro W b13 K) | ((fail_if_success revert b14); intro W b14 K) | ((fail_if_success revert b15); intro W b15 K)); have r := K.rawS) | (apply K.storeA; rfl; rfl; rfl; rfl; rfl; (repeat (first | with_reducible exact Upd.head _ | with_reducible apply Upd.tail)); (first | with_reducible exact big_size | with_reducible exact frac_size); rfl; rfl; rfl; clear K r; intro W K; have r := K.rawS))
    refine (nNeg (a + 1) _ _ _ _ _ _ (by first | exact Rd.nil | exact K.rda) hs7 fb).mono ?_
    rintro e W' ⟨s15, A15, n15, c15, l15, rfl, hr, hs15, hf, hb⟩
    replace K := K.ret hb hr hf
    clear r hr hf hb
    have r := K.rawS
    go_wp2_with (first | ((first | (apply K.alloc; rfl; rfl; (first | with_reducible exact big_zero | with_reducible exact frac_zero)) | (apply K.box; rfl; rfl; rfl)); clear K r; (first | ((fail_if_success revert b0); intro W b0 K) | ((fail_if_success revert b1); intro W b1 K) | ((fail_if_success revert b2); intro W b2 K) | ((fail_if_success revert b3); intro W b3 K) | ((fail_if_success revert b4); intro W b4 K) | ((fail_if_success revert b5); intro W b5 K) | ((fail_if_success revert b6); intro W b6 K) | ((fail_if_success revert b7); intro W b7 K) | ((fail_if_success revert b8); intro W b8 K) | ((fail_if_success revert b9); intro W b9 K) | ((fail_if_success revert b10); intro W b10 K) | ((fail_if_success revert b11); intro W b11 K) | ((fail_if_success revert b12); intro W b12 K) | ((fail_if_success revert b13); intro W b13 K) | ((fail_if_success revert b14); intro W b14 K) | ((fail_if_success revert b15); intro W b15 K)); have r := K.rawS) | (apply K.storeA; rfl; rfl; rfl; rfl; rfl; (repeat (first | with_reducible exact Upd.head _ | with_reducible apply Upd.tail)); (first | with_reducible exact big_size | with_reducible exact frac_size); rfl; rfl; rfl; clear K r; intro W K; have r := K.rawS))
    refine (nNeg (a) _ _ _ _ _ _ (by first | exact Rd.nil | exact K.rda) hs6 fa).mono ?_
    rintro e W' ⟨s16, A16, n16, c16, l16, rfl, hr, hs16, hf, hb⟩
    replace K := K.ret hb hr hf
    clear r hr hf hb
    have r := K.rawS
    go_wp2_with (first | ((first | (apply K.alloc; rfl; rfl; (first | with_reducible exact big_zero | with_reducible exact frac_zero)) | (apply K.box; rfl; rfl; rfl)); clear K r; (first | ((fail_if_success revert b0); intro W b0 K) | ((fail_if_success revert b1); intro W b1 K) | ((fail_if_success revert b2); intro W b2 K) | ((fail_if_success revert b3); intro W b3 K) | ((fail_if_success revert b4); intro W b4 K) | ((fail_if_success revert b5); intro W b5 K) | ((fail_if_success revert b6); intro W b6 K) | ((fail_if_success revert b7); intro W b7 K) | ((fail_if_success revert b8); intro W b8 K) | ((fail_if_success revert b9); intro W b9 K) | ((fail_if_success revert b10); intro W b10 K) | ((fail_if_success revert b11); intro W b11 K) | ((fail_if_success revert b12); intro W b12 K) | ((fail_if_success revert b13); intro W b13 K) | ((fail_if_success revert b14); intro W b14 K) | ((fail_if_success revert b15); intro W b15 K)); have r := K.rawS) | (apply K.storeA; rfl; rfl; rfl; rfl; rfl; (repeat (first | with_reducible exact Upd.head _ | with_reducible apply Upd.tail)); (first | with_reducible exact big_size | with_reducible exact frac_size); rfl; rfl; rfl; clear K r; intro W K; have r := K.rawS))
    refine (nSameB c (-a) _ _ _ _ _ _ _ _ _ _ _ (by first | exact Rd.nil | exact K.rda) (by first | exact Rd.nil | exact K.rda) hs13 hs16).mono ?_
    rintro e W' ⟨he, hb⟩
    rw [decide_eq_true E3.out] at he
    subst he
    replace K := K.keep hb
    clear r
    have r := K.rawS
    clear hb
    go_wp2_with (first | ((first | (apply K.alloc; rfl; rfl; (first | with_reducible exact big_zero | with_reducible exact frac_zero)) | (apply K.box; rfl; rfl; rfl)); clear K r; (first | ((fail_if_success revert b0); intro W b0 K) | ((fail_if_success revert b1); intro W b1 K) | ((fail_if_success revert b2); intro W b2 K) | ((fail_if_success revert b3); intro W b3 K) | ((fail_if_success revert b4); intro W b4 K) | ((fail_if_success revert b5); intro W b5 K) | ((fail_if_success revert b6); intro W b6 K) | ((fail_if_success revert b7); intro W b7 K) | ((fail_if_success revert b8); intro W b8 K) | ((fail_if_success revert b9); intro W b9 K) | ((fail_if_success revert b10); intro W b10 K) | ((fail_if_success revert b11); intro W b11 K) | ((fail_if_success revert b12); intro W b12 K) | ((fail_if_success revert b13); intro W b13 K) | ((fail_if_success revert b14); intro W b14 K) | ((fail_if_success revert b15); intro W b15 K)); have r := K.rawS) | (apply K.storeA; rfl; rfl; rfl; rfl; rfl; (repeat (first | with_reducible exact Upd.head _ | with_reducible apply Upd.tail)); (first | with_reducible exact big_size | with_reducible exact frac_size); rfl; rfl; rfl; clear K r; intro W K; have r := K.rawS))
    refine (lof_any N 1 _ HN.out (by decide) (by decide)).mono ?_
    rintro e W' ⟨s17, A17, n17, c17, l17, t17, B17, m17, d17, k17, rfl, ⟨hra, hrb⟩, hs17, ⟨hfa, hfb⟩, hb⟩
    replace K := K.retF hb hra hrb hfa hfb
    clear r
    have r := K.rawS
    clear hra hrb hfa hfb hb
    go_wp2_with (first | ((first | (apply K.alloc; rfl; rfl; (first | with_reducible exact big_zero | with_reducible exact frac_zero)) | (apply K.box; rfl; rfl; rfl)); clear K r; (first | ((fail_if_success revert b0); intro W b0 K) | ((fail_if_success revert b1); intro W b1 K) | ((fail_if_success revert b2); intro W b2 K) | ((fail_if_success revert b3); intro W b3 K) | ((fail_if_success revert b4); intro W b4 K) | ((fail_if_success revert b5); intro W b5 K) | ((fail_if_success revert b6); intro W b6 K) | ((fail_if_success revert b7); intro W b7 K) | ((fail_if_success revert b8); intro W b8 K) | ((fail_if_success revert b9); intro W b9 K) | ((fail_if_success revert b10); intro W b10 K) | ((fail_if_success revert b11); intro W b11 K) | ((fail_if_success revert b12); intro W b12 K) | ((fail_if_success revert b13); intro W b13 K) | ((fail_if_success revert b14); intro W b14 K) | ((fail_if_success revert b15); intro W b15 K)); have r := K.rawS) | (apply K.storeA; rfl; rfl; rfl; rfl; rfl; (repeat (first | with_reducible exact Upd.head _ | with_reducible apply Upd.tail)); (first | with_reducible exact big_size | with_reducible exact frac_size); rfl; rfl; rfl; clear K r; intro W K; have r := K.rawS))
    refine (HFi.out _ _ _ _ _ _ _ _ _ _ _ (by first | exact Rd.nil | exact K.rda) (by first | exact Rd.nil | exact K.rda) hs17).mono ?_
    rintro e W' ⟨s18, A18, n18, c18, l18, rfl, hr, hs18, hf, hb⟩
    replace K := K.ret hb hr hf
    clear r hr hf hb
    have r := K.rawS
    go_wp2_with (first | ((first | (apply K.alloc; rfl; rfl; (first | with_reducible exact big_zero | with_reducible exact frac_zero)) | (apply K.box; rfl; rfl; rfl)); clear K r; (first | ((fail_if_success revert b0); intro W b0 K) | ((fail_if_success revert b1); intro W b1 K) | ((fail_if_success revert b2); intro W b2 K) | ((fail_if_success revert b3); intro W b3 K) | ((fail_if_success revert b4); intro W b4 K) | ((fail_if_success revert b5); intro W b5 K) | ((fail_if_success revert b6); intro W b6 K) | ((fail_if_success revert b7); intro W b7 K) | ((fail_if_success revert b8); intro W b8 K) | ((fail_if_success revert b9); intro W b9 K) | ((fail_if_success revert b10); intro W b10 K) | ((fail_if_success revert b11); intro W b11 K) | ((fail_if_success revert b12); intro W b12 K) | ((fail_if_success revert b13); intro W b13 K) | ((fail_if_success revert b14); intro W b14 K) | ((fail_if_success revert b15); intro W b15 K)); have r := K.rawS) | (apply K.storeA; rfl; rfl; rfl; rfl; rfl; (repeat (first | with_reducible exact Upd.head _ | with_reducible apply Upd.tail)); (first | with_reducible exact big_size | with_reducible exact frac_size); rfl; rfl; rfl; clear K r; intro W K; have r := K.rawS))
    refine (bOf_any N _ HN.out).mono ?_
    rintro e W' ⟨s19, A19, n19, c19, l19, rfl, hr, hs19, hf, hb⟩
    replace K := K.ret hb hr hf
    clear r hr hf hb
    have r := K.rawS
    go_wp2_with (first | ((first | (apply K.alloc; rfl; rfl; (first | with_reducible exact big_zero | with_reducible exact frac_zero)) | (apply K.box; rfl; rfl; rfl)); clear K r; (first | ((fail_if_success revert b0); intro W b0 K) | ((fail_if_success revert b1); intro W b1 K) | ((fail_if_success revert b2); intro W b2 K) | ((fail_if_success revert b3); intro W b3 K) | ((fail_if_success revert b4); intro W b4 K) | ((fail_if_success revert b5); intro W b5 K) | ((fail_if_success revert b6); intro W b6 K) | ((fail_if_success revert b7); intro W b7 K) | ((fail_if_success revert b8); intro W b8 K) | ((fail_if_success revert b9); intro W b9 K) | ((fail_if_success revert b10); intro W b10 K) | ((fail_if_success revert b11); intro W b11 K) | ((fail_if_success revert b12); intro W b12 K) | ((fail_if_success revert b13); intro W b13 K) | ((fail_if_success revert b14); intro W b14 K) | ((fail_if_success revert b15); intro W b15 K)); have r := K.rawS) | (apply K.storeA; rfl; rfl; rfl; rfl; rfl; (repeat (first | with_reducible exact Upd.head _ | with_reducible apply Upd.tail)); (first | with_reducible exact big_size | with_reducible exact frac_size); rfl; rfl; rfl; clear K r; intro W K; have r := K.rawS))
    refine (nSameB N N _ _ _ _ _ _ _ _ _ _ _ (by first | exact Rd.nil | exact K.rda) (by first | exact Rd.nil | exact K.rda) hs18 hs19).mono ?_
    rintro e W' ⟨he, hb⟩
    rw [decide_eq_true rfl] at he
    subst he
    replace K := K.keep hb
    clear r
    have r := K.rawS
    clear hb
    go_wp2_with (first | ((first | (apply K.alloc; rfl; rfl; (first | with_reducible exact big_zero | with_reducible exact frac_zero)) | (apply K.box; rfl; rfl; rfl)); clear K r; (first | ((fail_if_success revert b0); intro W b0 K) | ((fail_if_success revert b1); intro W b1 K) | ((fail_if_success revert b2); intro W b2 K) | ((fail_if_success revert b3); intro W b3 K) | ((fail_if_success revert b4); intro W b4 K) | ((fail_if_success revert b5); intro W b5 K) | ((fail_if_success revert b6); intro W b6 K) | ((fail_if_success revert b7); intro W b7 K) | ((fail_if_success revert b8); intro W b8 K) | ((fail_if_success revert b9); intro W b9 K) | ((fail_if_success revert b10); intro W b10 K) | ((fail_if_success revert b11); intro W b11 K) | ((fail_if_success revert b12); intro W b12 K) | ((fail_if_success revert b13); intro W b13 K) | ((fail_if_success revert b14); intro W b14 K) | ((fail_if_success revert b15); intro W b15 K)); have r := K.rawS) | (apply K.storeA; rfl; rfl; rfl; rfl; rfl; (repeat (first | with_reducible exact Upd.head _ | with_reducible apply Upd.tail)); (first | with_reducible exact big_size | with_reducible exact frac_size); rfl; rfl; rfl; clear K r; intro W K; have r := K.rawS))
    go_ret
    exact ⟨rfl, K.1⟩
  · rw [decide_eq_false hw] at he
    subst he
    have E4 := Lib.hid (e4.out hw)
    clear hw e3 e4
    replace K := K.keep hb
    clear r
    have r := K.rawS
    clear hb
    go_wp2_with (first | ((first | (apply K.alloc; rfl; rfl; (first | with_reducible exact big_zero | with_reducible exact frac_zero)) | (apply K.box; rfl; rfl; rfl)); clear K r; (first | ((fail_if_success revert b0); intro W b0 K) | ((fail_if_success revert b1); intro W b1 K) | ((fail_if_success revert b2); intro W b2 K) | ((fail_if_success revert b3); intro W b3 K) | ((fail_if_success revert b4); intro W b4 K) | ((fail_if_success revert b5); intro W b5 K) | ((fail_if_success revert b6); intro W b6 K) | ((fail_if_success revert b7); intro W b7 K) | ((fail_if_success revert b8); intro W b8 K) | ((fail_if_success revert b9); intro W b9 K) | ((fail_if_success revert b10); intro W b10 K) | ((fail_if_success revert b11); intro W b11 K) | ((fail_if_success revert b12); intro W b12 K) | ((fail_if_success revert b13); intro W b13 K) | ((fail_if_success revert b14); intro W b14 K) | ((fail_if_success revert b15); intro W b15 K)); have r := K.rawS) | (apply K.storeA; rfl; rfl; rfl; rfl; rfl; (repeat (first | with_reducible exact Upd.head _ | with_reducible apply Upd.tail)); (first | with_reducible exact big_size | with_reducible exact frac_size); rfl; rfl; rfl; clear K r; intro W K; have r := K.rawS))
    refine (nNeg (a + 1) _ _ _ _ _ _ (by first | exact Rd.nil | exact K.rda) hs7 fb).mono ?_
    rintro e W' ⟨s15, A15, n15, c15, l15, rfl, hr, hs15, hf, hb⟩
    replace K := K.ret hb hr hf
    clear r hr hf hb
    have r := K.rawS
    go_wp2_with (first | ((first | (apply K.alloc; rfl; rfl; (first | with_reducible exact big_zero | with_reducible exact frac_zero)) | (apply K.box; rfl; rfl; rfl)); clear K r; (first | ((fail_if_success revert b0); intro W b0 K) | ((fail_if_success revert b1); intro W b1 K) | ((fail_if_success revert b2); intro W b2 K) | ((fail_if_success revert b3); intro W b3 K) | ((fail_if_success revert b4); intro W b4 K) | ((fail_if_success revert b5); intro W b5 K) | ((fail_if_success revert b6); intro W b6 K) | ((fail_if_success revert b7); intro W b7 K) | ((fail_if_success revert b8); intro W b8 K) | ((fail_if_success revert b9); intro W b9 K) | ((fail_if_success revert b10); intro W b10 K) | ((fail_if_success revert b11); intro W b11 K) | ((fail_if_success revert b12); intro W b12 K) | ((fail_if_success revert b13); intro W b13 K) | ((fail_if_success revert b14); intro W b14 K) | ((fail_if_success revert b15); intro W b15 K)); have r := K.rawS) | (apply K.storeA; rfl; rfl; rfl; rfl; rfl; (repeat (first | with_reducible exact Upd.head _ | with_reducible apply Upd.tail)); (first | with_reducible exact big_size | with_reducible exact frac_size); rfl; rfl; rfl; clear K r; intro W K; have r := K.rawS))
    refine (nSameB c (-(a + 1)) _ _ _ _ _ _ _ _ _ _ _ (by first | exact Rd.nil | exact K.rda) (by first | exact Rd.nil | exact K.rda) hs13 hs15).mono ?_
    rintro e W' ⟨he, hb⟩
    rw [decide_eq_true E4.out] at he
    subst he
    replace K := K.keep hb
    clear r
    have r := K.rawS
    clear hb
    go_wp2_with (first | ((first | (apply K.alloc; rfl; rfl; (first | with_reducible exact big_zero | with_reducible exact frac_zero)) | (apply K.box; rfl; rfl; rfl)); clear K r; (first | ((fail_if_success revert b0); intro W b0 K) | ((fail_if_success revert b1); intro W b1 K) | ((fail_if_success revert b2); intro W b2 K) | ((fail_if_success revert b3); intro W b3 K) | ((fail_if_success revert b4); intro W b4 K) | ((fail_if_success revert b5); intro W b5 K) | ((fail_if_success revert b6); intro W b6 K) | ((fail_if_success revert b7); intro W b7 K) | ((fail_if_success revert b8); intro W b8 K) | ((fail_if_success revert b9); intro W b9 K) | ((fail_if_success revert b10); intro W b10 K) | ((fail_if_success revert b11); intro W b11 K) | ((fail_if_success revert b12); intro W b12 K) | ((fail_if_success revert b13); intro W b13 K) | ((fail_if_success revert b14); intro W b14 K) | ((fail_if_success revert b15); intro W b15 K)); have r := K.rawS) | (apply K.storeA; rfl; rfl; rfl; rfl; rfl; (repeat (first | with_reducible exact Upd.head _ | with_reducible apply Upd.tail)); (first | with_reducible exact big_size | with_reducible exact frac_size); rfl; rfl; rfl; clear K r; intro W K; have r := K.rawS))
    refine (lof_any N 1 _ HN.out (by decide) (by decide)).mono ?_
    rintro e W' ⟨s17, A17, n17, c17, l17, t17, B17, m17, d17, k17, rfl, ⟨hra, hrb⟩, hs17, ⟨hfa, hfb⟩, hb⟩
    replace K := K.retF hb hra hrb hfa hfb
    clear r
    have r := K.rawS
    clear hra hrb hfa hfb hb
    go_wp2_with (first | ((first | (apply K.alloc; rfl; rfl; (first | with_reducible exact big_zero | with_reducible exact frac_zero)) | (apply K.box; rfl; rfl; rfl)); clear K r; (first | ((fail_if_success revert b0); intro W b0 K) | ((fail_if_success revert b1); intro W b1 K) | ((fail_if_success revert b2); intro W b2 K) | ((fail_if_success revert b3); intro W b3 K) | ((fail_if_success revert b4); intro W b4 K) | ((fail_if_success revert b5); intro W b5 K) | ((fail_if_success revert b6); intro W b6 K) | ((fail_if_success revert b7); intro W b7 K) | ((fail_if_success revert b8); intro W b8 K) | ((fail_if_success revert b9); intro W b9 K) | ((fail_if_success revert b10); intro W b10 K) | ((fail_if_success revert b11); intro W b11 K) | ((fail_if_success revert b12); intro W b12 K) | ((fail_if_success revert b13); intro W b13 K) | ((fail_if_success revert b14); intro W b14 K) | ((fail_if_success revert b15); intro W b15 K)); have r := K.rawS) | (apply K.storeA; rfl; rfl; rfl; rfl; rfl; (repeat (first | with_reducible exact Upd.head _ | with_reducible apply Upd.tail)); (first | with_reducible exact big_size | with_reducible exact frac_size); rfl; rfl; rfl; clear K r; intro W K; have r := K.rawS))
    refine (HFi.out _ _ _ _ _ _ _ _ _ _ _ (by first | exact Rd.nil | exact K.rda) (by first | exact Rd.nil | exact K.rda) hs17).mono ?_
    rintro e W' ⟨s18, A18, n18, c18, l18, rfl, hr, hs18, hf, hb⟩
    replace K := K.ret hb hr hf
    clear r hr hf hb
    have r := K.rawS
    go_wp2_with (first | ((first | (apply K.alloc; rfl; rfl; (first | with_reducible exact big_zero | with_reducible exact frac_zero)) | (apply K.box; rfl; rfl; rfl)); clear K r; (first | ((fail_if_success revert b0); intro W b0 K) | ((fail_if_success revert b1); intro W b1 K) | ((fail_if_success revert b2); intro W b2 K) | ((fail_if_success revert b3); intro W b3 K) | ((fail_if_success revert b4); intro W b4 K) | ((fail_if_success revert b5); intro W b5 K) | ((fail_if_success revert b6); intro W b6 K) | ((fail_if_success revert b7); intro W b7 K) | ((fail_if_success revert b8); intro W b8 K) | ((fail_if_success revert b9); intro W b9 K) | ((fail_if_success revert b10); intro W b10 K) | ((fail_if_success revert b11); intro W b11 K) | ((fail_if_success revert b12); intro W b12 K) | ((fail_if_success revert b13); intro W b13 K) | ((fail_if_success revert b14); intro W b14 K) | ((fail_if_success revert b15); intro W b15 K)); have r := K.rawS) | (apply K.storeA; rfl; rfl; rfl; rfl; rfl; (repeat (first | with_reducible exact Upd.head _ | with_reducible apply Upd.tail)); (first | with_reducible exact big_size | with_reducible exact frac_size); rfl; rfl; rfl; clear K r; intro W K; have r := K.rawS))
    refine (bOf_any N _ HN.out).mono ?_
    rintro e W' ⟨s19, A19, n19, c19, l19, rfl, hr, hs19, hf, hb⟩
    replace K := K.ret hb hr hf
    clear r hr hf hb
    have r := K.rawS
    go_wp2_with (first | ((first | (apply K.alloc; rfl; rfl; (first | with_reducible exact big_zero | with_reducible exact frac_zero)) | (apply K.box; rfl; rfl; rfl)); clear K r; (first | ((fail_if_success revert b0); intro W b0 K) | ((fail_if_success revert b1); intro W b1 K) | ((fail_if_success revert b2); intro W b2 K) | ((fail_if_success revert b3); intro W b3 K) | ((fail_if_success revert b4); intro W b4 K) | ((fail_if_success revert b5); intro W b5 K) | ((fail_if_success revert b6); intro W b6 K) | ((fail_if_success revert b7); intro W b7 K) | ((fail_if_success revert b8); intro W b8 K) | ((fail_if_success revert b9); intro W b9 K) | ((fail_if_success revert b10); intro W b10 K) | ((fail_if_success revert b11); intro W b11 K) | ((fail_if_success revert b12); intro W b12 K) | ((fail_if_success revert b13); intro W b13 K) | ((fail_if_success revert b14); intro W b14 K) | ((fail_if_success revert b15); intro W b15 K)); have r := K.rawS) | (apply K.storeA; rfl; rfl; rfl; rfl; rfl; (repeat (first | with_reducible exact Upd.head _ | with_reducible apply Upd.tail)); (first | with_reducible exact big_size | with_reducible exact frac_size); rfl; rfl; rfl; clear K r; intro W K; have r := K.rawS))
    refine (nSameB N N _ _ _ _ _ _ _ _ _ _ _ (by first | exact Rd.nil | exact K.rda) (by first | exact Rd.nil | exact K.rda) hs18 hs19).mono ?_
    rintro e W' ⟨he, hb⟩
    rw [decide_eq_true rfl] at he
    subst he
    replace K := K.keep hb
    clear r
    have r := K.rawS
    clear hb
    go_wp2_with (first | ((first | (apply K.alloc; rfl; rfl; (first | with_reducible exact big_zero | with_reducible exact frac_zero)) | (apply K.box; rfl; rfl; rfl)); clear K r; (first | ((fail_if_success revert b0); intro W b0 K) | ((fail_if_success revert b1); intro W b1 K) | ((fail_if_success revert b2); intro W b2 K) | ((fail_if_success revert b3); intro W b3 K) | ((fail_if_success revert b4); intro W b4 K) | ((fail_if_success revert b5); intro W b5 K) | ((fail_if_success revert b6); intro W b6 K) | ((fail_if_success revert b7); intro W b7 K) | ((fail_if_success revert b8); intro W b8 K) | ((fail_if_success revert b9); intro W b9 K) | ((fail_if_success revert b10); intro W b10 K) | ((fail_if_success revert b11); intro W b11 K) | ((fail_if_success revert b12); intro W b12 K) | ((fail_if_success revert b13); intro W b13 K) | ((fail_if_success revert b14); intro W b14 K) | ((fail_if_success revert b15); intro W b15 K)); have r := K.rawS) | (apply K.storeA; rfl; rfl; rfl; rfl; rfl; (repeat (first | with_reducible exact Upd.head _ | with_reducible apply Upd.tail)); (first | with_reducible exact big_size | with_reducible exact frac_size); rfl; rfl; rfl; clear K r; intro W K; have r := K.rawS))
    go_ret
    exact ⟨rfl, K.1⟩
end Go.Proofs.YtkeajohkpmabcaaGreatDoor
