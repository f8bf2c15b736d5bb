/- Walk over the statement BallotOne. Conditions stand in the theorem. -/
import Derived.Test.YtfidjhhpcjmioaaBr
namespace Go.Proofs.Ytfidjhhpcjmioaa
open Go.RowKit Alg
set_option linter.unusedVariables false

set_option maxRecDepth 100000 in
set_option maxHeartbeats 8000000 in
theorem ballotOne_walk (A : Option Addr) (n cap : Nat) (l : List Vt) (t k at' : Int) (w : World)
    (rl : RdV w w.heap.size A n cap l) (hvl : ∀ x ∈ l, I64 x.1 ∧ I64 x.2.2) (h1 : 0 ≤ t ∧ t ≤ 255) (h2 : 0 ≤ k ∧ k ≤ 255) (h4 : 0 ≤ at' ∧ at' ≤ 255) :
    Calls Try.prog 8 #[.slice A n cap, .int .u8 t, .int .u8 k, .int .u8 at'] w fun e w' => e = .returned (.bool true) ∧ Below w.heap.size w w' := by
  obtain ⟨i0, hi0, hz0, hz1, hz2⟩ := info_parts card_info
  obtain ⟨j0, hj0, jz0, jz1, jz2⟩ := info_parts vote_info
  have hcaps := rl.caps
  by_cases h20 : 20 < n
  · have hd : decide ((20 : Int) < (n : Int)) = true := by simp; omega
    go_enter Try.func8, Try.ntmps8
    go_wp2_with (go_at_call 23; refine (bsmall_any _).mono ?_; rintro e w1 ⟨rfl, hb1⟩)
    go_ret
    exact ⟨rfl, hb1⟩
  have hd20 : decide ((20 : Int) < (n : Int)) = false := by simp; omega
  by_cases hn0 : n = 0
  · have hd : ((n : Int) == 0) = true := by simp [hn0]
    have Hn0 := Lib.hid hn0; clear hn0
    go_enter Try.func8, Try.ntmps8
    go_wp2_with (go_at_call 23; refine (bsmall_any _).mono ?_; rintro e w1 ⟨rfl, hb1⟩)
    go_ret
    exact ⟨rfl, hb1⟩
  have hdn0 : ((n : Int) == 0) = false := by simpa using hn0
  obtain ⟨b3, off3, rfl, hbA, -⟩ := rl.2.2.2 (by omega)
  have Hdiff := Lib.hid (fun w => different_any (some ⟨b3, off3, none⟩) n cap l w)
  cases hdf : diffN l n
  · have Hdf := Lib.hid hdf; clear hdf
    go_enter Try.func8, Try.ntmps8
    go_wp2_with (first
      | (go_at_call 23; refine (bsmall_any _).mono ?_; rintro e w1 ⟨rfl, hb1⟩)
      | (go_at_call 34; refine (Hdiff.out _ (rl.up (flat_lasts _) hb1)).mono ?_; rw [Hdf.out]; rintro e w2 ⟨rfl, hb2⟩))
    go_ret
    exact ⟨rfl, hb1.trans (hb2.mono hb1.size)⟩
  have Hdf := Lib.hid hdf
  obtain ⟨hmem, hdis⟩ := diffN_facts hdf
  obtain ⟨T, hT⟩ : ∃ T : Nat, (T : Int) = 1 + t % 20 := ⟨(1 + t % 20).toNat, by omega⟩
  have hr1 := Int.emod_nonneg k (show 1 + t % 20 ≠ 0 by omega)
  have hr2 := Int.emod_lt_of_pos k (show 0 < 1 + t % 20 by omega)
  obtain ⟨K, hK⟩ : ∃ K : Nat, (K : Int) = 1 + k % (1 + t % 20) := ⟨(1 + k % (1 + t % 20)).toNat, by omega⟩
  have hT1 : 1 ≤ T := by omega
  have hT2 : T ≤ 20 := by omega
  have hK1 : 1 ≤ K := by omega
  have hK2 : K ≤ T := by omega
  have hscene := fun w => scene_any t k w h1 h2
  rw [← hT] at hscene hK
  rw [← hK] at hscene
  obtain ⟨I, hI⟩ : ∃ I : Nat, at' % (n : Int) = (I : Int) := ⟨(at' % (n : Int)).toNat, by have := Int.emod_nonneg at' (show (n : Int) ≠ 0 by omega); omega⟩
  have hIn : I < n := by have := Int.emod_lt_of_pos at' (show (0 : Int) < n by omega); omega
  have htm : at'.tmod (n : Int) = (I : Int) := by rw [Int.tmod_eq_emod_of_nonneg h4.1]; exact hI
  obtain ⟨at1, at2⟩ := h4
  have hlen := rl.len
  obtain ⟨y, hY⟩ : ∃ y, y = (vAt l I).2.1 := ⟨_, rfl⟩
  have hmem' : ∀ i, i < n → memF (vAt (turnV l n I (!y)) i).1 = true := fun i hi => by rw [turnV_fst _ hi]; exact hmem i hi
  have hdis' : ∀ i j, i < j → j < n → (vAt (turnV l n I (!y)) i).1 ≠ (vAt (turnV l n I (!y)) j).1 := fun i j hij hj => by rw [turnV_fst _ hj, turnV_fst _ (show i < n by omega)]; exact hdis i j hij hj
  have hchk := cards_check (t := T) (k := K) (n := n) (V := vAt l) hT1 hT2 (by omega) hmem hdis
  have hchk' := cards_check (t := T) (k := K) (n := n) (V := vAt (turnV l n I (!y))) hT1 hT2 (by omega) hmem' hdis'
  have hchk2 := cards_check (t := T) (k := K) (n := n - 1) (V := fun j => vAt l (skip I j)) hT1 hT2 (by omega) (fun i hi => hmem _ (skip_lt (by omega))) (fun i j hij hj => hdis _ _ (skip_mono hij) (skip_lt (by omega)))
  have hchk3 : checkF (ofF (n + 1) (fun j => if j < n then cardOf T K (vAt l j) else cardOf T K (vAt (turnV l n I (!y)) I))) T = 5 := by
    have hat : ∀ j, j < n → cdAt (ofF (n + 1) (fun j => if j < n then cardOf T K (vAt l j) else cardOf T K (vAt (turnV l n I (!y)) I))) j = cardOf T K (vAt l j) := fun j hj => (cdAt_eq (ofF_get (by omega))).trans (if_pos hj)
    have hatn : cdAt (ofF (n + 1) (fun j => if j < n then cardOf T K (vAt l j) else cardOf T K (vAt (turnV l n I (!y)) I))) n = cardOf T K (vAt (turnV l n I (!y)) I) := (cdAt_eq (ofF_get (by omega))).trans (if_neg (Nat.lt_irrefl n))
    refine check_again (n := n) hT1 hT2 ofF_len (by omega) (fun j hj => ?_) (fun i j hij hj => ?_) hIn ?_
    · by_cases hjn : j < n
      · rw [hat j hjn]; exact cardOf_right (hmem j hjn)
      · rw [show j = n by omega, hatn]; exact cardOf_right (hmem' I hIn)
    · rw [hat i (by omega), hat j hj]; exact hdis i j hij hj
    · rw [hat I hIn, hatn]; exact (turnV_fst _ hIn).symm
  have hs := fun w rl => cards_raw (some ⟨b3, off3, none⟩) n cap l T K w rl hmem (fun x hx => (hvl x hx).2) hK1 hK2 hT2 (by omega)
  have hs' := fun A' cap' w rl => cards_raw A' n cap' (turnV l n I (!y)) T K w rl hmem' (turnV_mem hvl hlen hIn) hK1 hK2 hT2 (by omega)
  have hsum := fun A2 c2 w r2 => bsum_at A2 n c2 (cardsL T K (vAt l) n) T w r2 hchk _ (sumsL_eq T K (vAt l) n) (by omega)
  have hsum' := fun A2 c2 w r2 => bsum_at A2 n c2 (cardsL T K (vAt (turnV l n I (!y))) n) T w r2 hchk' _ (sumsL_eq T K (vAt (turnV l n I (!y))) n) (by omega)
  have hsum2 := fun A2 c2 w r2 => bsum_at A2 (n - 1) c2 (cardsL T K (fun j => vAt l (skip I j)) (n - 1)) T w r2 hchk2 _ (sumsL_eq T K (fun j => vAt l (skip I j)) (n - 1)) (by omega)
  have hsum3 := fun A2 c2 w r2 => bsum_bad A2 (n + 1) c2 _ T w r2 (by rw [hchk3]; decide)
  rw [hchk3] at hsum3
  have ho1 := allS_open (V := vAt l) (n := n) hK1 hK2 hT2 (by omega) (Int.le_refl _)
  have ho2 := allS_open (V := vAt (turnV l n I (!y))) (n := n) hK1 hK2 hT2 (by omega) (Int.le_refl _)
  have ho3 := allS_open (V := fun j => vAt l (skip I j)) (n := n - 1) (c := (n : Int)) hK1 hK2 hT2 (by omega) (by omega)
  have hy1 : yesN (vAt (turnV l n I (!y))) n = yesN (vAt l) n + (if y then -1 else 1) := by rw [hY]; exact turnV_yes hIn
  have hy2 : yesN (fun j => vAt l (skip I j)) (n - 1) = yesN (vAt l) n - yesI y := by rw [hY]; exact skip_yes (vAt l) hIn
  rw [hy1] at ho2
  rw [hy2] at ho3
  have hyb := yesN_bd (vAt l) n
  obtain ⟨N, hN⟩ : ∃ N, N = yesN (vAt l) n := ⟨_, rfl⟩
  rw [← hN] at ho1 ho2 ho3 hyb
  obtain ⟨hyb1, hyb2⟩ := hyb
  have Hs := Lib.hid hs; have Hs' := Lib.hid hs'; have Hsum := Lib.hid hsum; have Hsum' := Lib.hid hsum'; have Hsum2 := Lib.hid hsum2; have Hsum3 := Lib.hid hsum3
  have Ho1 := Lib.hid ho1; have Ho2 := Lib.hid ho2; have Ho3 := Lib.hid ho3
  have Hlen := Lib.hid hlen; have HY := Lib.hid hY
  have hnn : ((n : Int) != (n : Int)) = false := by simp
  clear hs hs' hsum hsum' hsum2 hsum3 ho1 ho2 ho3 hmem' hdis' hchk' hchk2 hchk3 hlen hY hN hy1 hy2
  have Hscene := Lib.hid hscene
  have hMM : ((T : Int) != (T : Int)) = false := by simp
  clear hscene hchk hmem hdis hdf hT hK hr1 hr2 h1 h2 hvl
  go_enter Try.func8, Try.ntmps8
  go_wp2_with (first
      | (go_at_call 23; refine (bsmall_any _).mono ?_; rintro e w1 ⟨rfl, hb1⟩)
      | (go_at_call 34; refine (Hdiff.out _ (rl.up (flat_lasts _) hb1)).mono ?_; rw [Hdf.out]; rintro e w2 ⟨rfl, hb2⟩))
  have hb02 := hb1.trans (hb2.mono hb1.size)
  refine (Hscene.out _).mono ?_
  rintro e w3 ⟨rfl, hb3⟩
  have hb03 := hb02.trans (hb3.mono hb02.size)
  have r3 := rl.up (flat_lasts _) hb03
  obtain ⟨b3', off3', mm, yy, ss, hee, hbB, hv, k0, k1, k2⟩ := r3.atV hIn
  simp only [Option.some.injEq, Addr.mk.injEq] at hee
  obtain ⟨rfl, rfl, -⟩ := hee
  have hyy : yy = y := by rw [HY.out, vAt_eq hv]
  subst hyy
  clear hb1 hb2 hb3 hb02 k0 k2 hv
  have hI0 : (0 : Int) ≤ (I : Int) := by omega
  have hI1 : (I : Int) < (n : Int) := by omega
  go_wp2_with (at_builtin; refine wpList_app _ vSized rfl _ _ 54 rfl w3.heap.size 43 j0 _ 24 Try.underlying54 hj0 jz0 jz1 jz2 rfl _ ([] : List Vt) rfl (Own.lit (n := 0) vSized (Nat.le_refl _) [] #[] rfl rfl (by omega)) _ _ n cap l rfl (r3.below (flat_lasts _) ((Below.refl w3.heap.size w3).alloc (Nat.le_refl _) _) (Nat.le_refl _) (Nat.le_refl _)) (by simp only [maxLen, List.length_nil]; omega) (by simp only [List.length_nil]; omega) (by simp) ?_
               intro v4 w4 ho4 hg4 hx4
               have hb4 : Below w3.heap.size w3 w4 := Own.grow (Own.lit (n := 0) vSized (Nat.le_refl _) [] #[] rfl rfl (by omega)) (Nat.le_refl _) ((Below.refl w3.heap.size w3).alloc (Nat.le_refl _) _) (by simp) hg4
               rw [List.nil_append] at ho4
               obtain ⟨g4, c4, rfl, hg1, hg2, hg3, hg5, hfz, -⟩ := ho4.form (by rw [Hlen.out]; omega)
               rw [Hlen.out] at hg3 ⊢
               rw [Hlen.out, ofF_vAt Hlen.out] at ho4
               have hcl := (Own.cellV ho4 hIn).1
               have hfr := (Own.cellV ho4 hIn).2
               have k1' := (hb4.cell hbB).trans k1
               have ho5 := Own.setV ho4 hIn (!yy)
               clear hg4 hx4)
  have hb5 : Below w3.heap.size w3 (w4.setCell ⟨g4, I * 3 + 1, none⟩ (.bool (!yy))) := hb4.setCell hg1 _
  obtain ⟨A5', c5', he5, r5⟩ := ho5.rd vSized (by rw [ofF_len]; omega)
  rw [ofF_len] at he5 r5
  injection he5 with e1' e2' e3'
  subst e1' e3'
  generalize w4.setCell ⟨g4, I * 3 + 1, none⟩ (.bool (!yy)) = w5 at *
  have hb05 := hb03.trans (hb5.mono hb03.size)
  have k5 := (hb5.cell hbB).trans k1
  have hbl5 := Nat.lt_of_lt_of_le hbB hb5.size
  have r35 := r3.up (flat_lasts _) hb5
  clear hcl hfr hfz ho4 ho5 hb4 k1 k1' hb5 hb03 r3 hbB
  refine (Hs.out w5 r35).mono ?_
  rintro e w6 ⟨A6, c6, raw, rfl, R6, F6, hb6⟩
  have hb06 := hb05.trans (hb6.mono hb05.size)
  have r56 := r5.up (flat_lasts _) hb6
  go_wp2_with fail
  refine (Hs'.out _ _ w6 r56).mono ?_
  rintro e w7 ⟨A7, c7, raw', rfl, R7, F7, hb7⟩
  have hb07 := hb06.trans (hb7.mono hb06.size)
  have hb57 := hb6.trans (hb7.mono hb6.size)
  have R67 := R6.up (flat_lasts _) hb7
  have F67 := F6.below hb7
  have k7 := (hb57.cell hbl5).trans k5
  have hbl7 := Nat.lt_of_lt_of_le hbl5 hb57.size
  clear r5 r35 r56 R6 F6 hb05 hb06 hb6 hb7 hb57 k5 hbl5
  go_wp2_with fail
  refine (Hsum.out _ _ _ (F67.rdC R67)).mono ?_
  rintro e w8 ⟨A8, c8, rfl, r8, hb8⟩
  have hb08 := hb07.trans (hb8.mono hb07.size)
  go_wp2_with fail
  refine (Hsum'.out _ _ _ ((F7.below hb8).rdC (R7.up (flat_lasts _) hb8))).mono ?_
  rintro e w9 ⟨A9, c9, rfl, r9, hb9⟩
  have hb09 := hb08.trans (hb9.mono hb08.size)
  have hb79 := hb8.trans (hb9.mono hb8.size)
  have R9 := R67.up (flat_lasts _) hb79
  have F9 := F67.below hb79
  have R9' := R7.up (flat_lasts _) hb79
  have F9' := F7.below hb79
  have r89 := r8.up (flat_lasts _) hb9
  have k9 := (hb79.cell hbl7).trans k7
  have hbl9 := Nat.lt_of_lt_of_le hbl7 hb79.size
  clear R67 F67 R7 F7 hb07 hb08 hb8 hb9 hb79 k7 hbl7 r8
  obtain ⟨b6, off6, rfl, hb6B, -, -⟩ := R9.atS hIn
  obtain ⟨b7, off7, rfl, hb7B, m0, m1⟩ := R9'.atS hIn
  have hc6 := R9.caps
  have hc7 := R9'.caps
  have r6t := R9.take (k := I) (by omega)
  have hw7 : IntKind.i64.wrap ((I : Int) + 1) = (I : Int) + 1 := IntWalk.i64_in _ (by omega)
  have htn : ((I : Int) + 1).toNat = I + 1 := by omega
  have hi2' : (I : Int) + 1 ≤ (n : Int) := by omega
  have hi3' : (I : Int) ≤ (c6 : Int) := by omega
  have hMI : n - (I + 1) ≤ 20 := by omega
  have hrl : ((ofF n raw).take I).length = I := by rw [List.length_take, ofF_len]; omega
  have hsp : c6 = I + 1 ∨ ¬ c6 = I + 1 := by omega
  have hi4' : (0 : Int) ≤ (I : Int) + 1 := by omega
  have r6d : ∀ A' m c, m = n - (I + 1) → m ≤ c → c ≤ c6 → (I + 1 < n → A' = some ⟨b6, off6 + (I + 1) * 2, none⟩) → Rd 2 (flat sEnc) w9 w9.heap.size A' m c ((ofF n raw).drop (I + 1)) := fun A' m c h0 h1 h2 h3 => R9.drop (k := I + 1) (by omega) h0 ⟨h1, h2⟩ fun hlt => (h3 hlt).trans (addr_map _ _ _).symm
  have hi5' : (I : Int) ≤ (I : Int) + 1 := by omega
  rcases hsp with rfl | hcI
  all_goals
    go_wp2
    go_region_held3 (fun w' => Below w9.heap.size w9 w')
      (first | exact (Below.refl _ _).drew | exact (Below.refl w9.heap.size w9).drew.alloc (Nat.le_refl w9.heap.size) _ | assumption | go_keep)
      (first
        | (refine step_app _ sSized (by rfl) _ _ 44 (by rfl) w9.heap.size 47 i0 _ 32 Try.underlying44 hi0 hz0 hz1 hz2 rfl _ ([] : List Cw) (by rfl) (Own.lit (w := w9.drew) (n := 0) sSized (Nat.le_refl w9.heap.size) [] #[] rfl rfl (by omega)) _ _ I _ ((ofF n raw).take I) (by rfl) (r6t.below (flat_lasts _) ((Below.refl w9.heap.size w9).drew.alloc (Nat.le_refl w9.heap.size) _) (Nat.le_refl _) (Nat.le_refl _)) (by simp only [maxLen, List.length_nil]; omega) (by simp only [List.length_nil]; omega) (by simp) ?_
           intro v10 w10 ho10 hg10 hx10
           have hb10 : Below w9.heap.size w9 w10 := Own.grow (Own.lit (w := w9.drew) (n := 0) sSized (Nat.le_refl w9.heap.size) [] #[] rfl rfl (by omega)) (Nat.le_refl _) ((Below.refl w9.heap.size w9).drew.alloc (Nat.le_refl w9.heap.size) _) (by simp) hg10
           rw [List.nil_append] at ho10
           clear hg10 hx10)
        | (refine step_app _ sSized (by rfl) _ _ 44 (by rfl) w9.heap.size 47 i0 _ 32 Try.underlying44 hi0 hz0 hz1 hz2 rfl _ ((ofF n raw).take I) (by rfl) ho10 _ _ _ _ ((ofF n raw).drop (I + 1)) (by rfl) ((r6d _ _ _ (by omega) (by omega) (by omega) (fun hlt => by first | rfl | omega)).below (flat_lasts _) hb10 (Nat.le_refl _) (Nat.le_refl _)) (by rw [hrl]; simp only [maxLen]; omega) (by rw [hrl]; omega) hb10.size ?_
           intro v11 w11 ho11 hg11 hx11
           have hb11 : Below w9.heap.size w9 w11 := Own.grow ho10 (Nat.le_refl _) hb10 hb10.size hg11
           rw [ofF_rest hIn] at ho11
           obtain ⟨A11, c11, hv11, r11⟩ := ho11.rd sSized (by rw [ofF_len]; omega)
           rw [ofF_len] at hv11 r11
           subst hv11
           have rc11 := ((F9.skip hIn).below hb11).rdC r11
           clear hg11 hx11 hb10 ho10 ho11)
        | (go_at_call 27
           refine (Hsum2.out A11 c11 w11 rc11).mono ?_
           rintro e w12 ⟨A12, c12, rfl, r12, hb12⟩
           have hb912 := hb11.trans (hb12.mono hb11.size)
           clear hb11))
    have hb012 := hb09.trans (hb912.mono hb09.size)
    have R12 := R9.up (flat_lasts _) hb912
    have F12 := F9.below hb912
    have F12' := F9'.below hb912
    have n0 := (hb912.cell hb7B).trans m0
    have n1 := (hb912.cell hb7B).trans m1
    have bl7 := Nat.lt_of_lt_of_le hb7B hb912.size
    have k12 := (hb912.cell hbl9).trans k9
    have kl12 := Nat.lt_of_lt_of_le hbl9 hb912.size
    have r812 := r89.up (flat_lasts _) hb912
    have r912 := r9.up (flat_lasts _) hb912
    obtain ⟨fx1, fx2⟩ := F12' I hIn
    obtain ⟨x, hx⟩ : ∃ x, x = raw' I := ⟨_, rfl⟩
    rw [← hx] at n0 n1 fx1 fx2
    obtain ⟨xm, xA, xn, xc⟩ := x
    simp only at n0 n1 fx1 fx2
    have Fx1 := Lib.hid fx1
    clear hx fx1 F12' R9 F9 R9' F9' m0 m1 r6t r6d r89 r9 hb09 rc11 r11 k9 hbl9
    have lit0 : Own 2 sEnc (w12.drew.alloc (.cells #[] 47)) w12.heap.size 47 (.slice (some ⟨w12.heap.size, 0, none⟩) 0 0) ([] : List Cw) := Own.lit (w := w12.drew) (n := 0) sSized (Nat.le_refl w12.heap.size) [] #[] rfl rfl (by omega)
    have lit1 := lit0.alloc (.cells #[.int .i64 xm, .slice xA xn xc] 47)
    have lit2 : Own 2 sEnc ((w12.drew.alloc (.cells #[.int .i64 xm, .slice xA xn xc] 47)).alloc (.cells #[] 47)) w12.heap.size 47 (.slice (some ⟨w12.heap.size + 1, 0, none⟩) 0 0) ([] : List Cw) := by
      have h := Own.lit (w := w12.drew.alloc (.cells #[.int .i64 xm, .slice xA xn xc] 47)) (base := w12.heap.size) (n := 0) (e := 47) sSized (by simp) [] #[] rfl rfl (by omega)
      simpa using h
    have bl0 : Below w12.heap.size w12 (w12.drew.alloc (.cells #[] 47)) := (Below.refl w12.heap.size w12).drew.alloc (Nat.le_refl w12.heap.size) _
    have bl1 := bl0.alloc (by simp) (.cells #[.int .i64 xm, .slice xA xn xc] 47)
    have blx : Below w12.heap.size w12 (w12.drew.alloc (.cells #[.int .i64 xm, .slice xA xn xc] 47)) := (Below.refl w12.heap.size w12).drew.alloc (Nat.le_refl w12.heap.size) _
    have bl2 : Below w12.heap.size w12 ((w12.drew.alloc (.cells #[.int .i64 xm, .slice xA xn xc] 47)).alloc (.cells #[] 47)) := ((Below.refl w12.heap.size w12).drew.alloc (Nat.le_refl w12.heap.size) _).alloc (by simp) _
    have rx1 : Rd 2 (flat sEnc) ((w12.drew.alloc (.cells #[] 47)).alloc (.cells #[.int .i64 xm, .slice xA xn xc] 47)) (w12.heap.size + 2) (some ⟨w12.heap.size + 1, 0, none⟩) 1 1 [(xm, xA, xn, xc)] := by
      have h := Rd.new1 sSized (w12.drew.alloc (.cells #[] 47)) (xm, xA, xn, xc) #[.int .i64 xm, .slice xA xn xc] rfl 47
      simpa using h
    have rx2 : Rd 2 (flat sEnc) ((w12.drew.alloc (.cells #[.int .i64 xm, .slice xA xn xc] 47)).alloc (.cells #[] 47)) (w12.heap.size + 2) (some ⟨w12.heap.size, 0, none⟩) 1 1 [(xm, xA, xn, xc)] :=
      (Rd.new1 sSized w12.drew (xm, xA, xn, xc) #[.int .i64 xm, .slice xA xn xc] rfl 47).keep (flat_lasts _) (by show w12.heap.size + 1 ≤ _; omega) (fun p hp => World.cell?_alloc_lt _ _ _ (by simpa using hp))
    have hrx1 : ∀ w13, ((w12.drew.alloc (.cells #[] 47)).alloc (.cells #[.int .i64 xm, .slice xA xn xc] 47)).grownBy w13 (some w12.heap.size) → Rd 2 (flat sEnc) w13 w13.heap.size (some ⟨w12.heap.size + 1, 0, none⟩) 1 1 [(xm, xA, xn, xc)] := fun w13 hg => by
      have hs13 := hg.size
      simp at hs13
      refine rx1.apart (by simp) (by omega) hg (fun _ bb off e h => ?_)
      injection e with e; injection e with e; injection h with h
      omega
    have hrx2 : ∀ w13, ((w12.drew.alloc (.cells #[.int .i64 xm, .slice xA xn xc] 47)).alloc (.cells #[] 47)).grownBy w13 (some (w12.heap.size + 1)) → Rd 2 (flat sEnc) w13 w13.heap.size (some ⟨w12.heap.size, 0, none⟩) 1 1 [(xm, xA, xn, xc)] := fun w13 hg => by
      have hs13 := hg.size
      simp at hs13
      refine rx2.apart (by simp) (by omega) hg (fun _ bb off e h => ?_)
      injection e with e; injection e with e; injection h with h
      omega
    have hlr : (ofF n raw).length = n := ofF_len
    go_wp2_with fail
    go_region_held3 (fun w' => (w'.cell? ⟨b7, off7 + I * 2, none⟩ = some (.int .i64 xm) ∧ w'.cell? ⟨b7, off7 + I * 2 + 1, none⟩ = some (.slice xA xn xc)) ∧ Below w12.heap.size w12 w')
      (first
        | exact ⟨⟨n0, n1⟩, (Below.refl _ _).drew⟩
        | exact ⟨⟨(bl0.cell bl7).trans n0, (bl0.cell bl7).trans n1⟩, bl0⟩
        | exact ⟨⟨(bl1.cell bl7).trans n0, (bl1.cell bl7).trans n1⟩, bl1⟩
        | exact ⟨⟨(bl2.cell bl7).trans n0, (bl2.cell bl7).trans n1⟩, bl2⟩
        | exact ⟨⟨(blx.cell bl7).trans n0, (blx.cell bl7).trans n1⟩, blx⟩
        | exact ⟨⟨((hb13.alloc hb13.size _).cell bl7).trans n0, ((hb13.alloc hb13.size _).cell bl7).trans n1⟩, hb13.alloc hb13.size _⟩
        | exact ⟨⟨(hb13.cell bl7).trans n0, (hb13.cell bl7).trans n1⟩, hb13⟩
        | exact ⟨⟨(hb14.cell bl7).trans n0, (hb14.cell bl7).trans n1⟩, hb14⟩
        | exact ⟨⟨(hb1215.cell bl7).trans n0, (hb1215.cell bl7).trans n1⟩, hb1215⟩
        | go_keep)
      (first
        | (refine step_app _ sSized (by rfl) _ _ 44 (by rfl) w12.heap.size 47 i0 _ 32 Try.underlying44 hi0 hz0 hz1 hz2 rfl _ ([] : List Cw) (by rfl) (by first | exact lit0 | exact lit1 | exact lit2) w12.heap.size _ n _ (ofF n raw) (by rfl) (by first | exact R12.below (flat_lasts _) bl0 (Nat.le_refl _) (Nat.le_refl _) | exact R12.below (flat_lasts _) bl1 (Nat.le_refl _) (Nat.le_refl _) | exact R12.below (flat_lasts _) bl2 (Nat.le_refl _) (Nat.le_refl _)) (by simp only [maxLen, List.length_nil]; omega) (by simp only [List.length_nil]; omega) (by simp <;> omega) ?_
           intro v13 w13 ho13 hg13 hx13
           have hb13 : Below w12.heap.size w12 w13 := by first | exact Own.grow lit0 (Nat.le_refl _) bl0 (by simp <;> omega) hg13 | exact Own.grow lit1 (Nat.le_refl _) bl1 (by simp <;> omega) hg13 | exact Own.grow lit2 (Nat.le_refl _) bl2 (by simp <;> omega) hg13
           rw [List.nil_append] at ho13
           first
             | have hrx := hrx1 w13 hg13
             | have hrx := hrx2 w13 hg13
             | skip
           clear hx13)
        | (refine step_app _ sSized (by rfl) _ _ 44 (by rfl) w12.heap.size 47 i0 _ 32 Try.underlying44 hi0 hz0 hz1 hz2 rfl _ (ofF n raw) (by rfl) (by first | exact ho13 | exact ho13.alloc _) _ _ 1 1 [(xm, xA, xn, xc)] (by rfl) (by first | exact hrx | exact Rd.new1 sSized w13 (xm, xA, xn, xc) #[.int .i64 xm, .slice xA xn xc] rfl 47) (by rw [hlr]; simp only [maxLen]; omega) (by rw [hlr]; omega) (by first | exact hb13.size | (have := hb13.size; simp; omega)) ?_
           intro v14 w14 ho14 hg14 hx14
           have hb14 : Below w12.heap.size w12 w14 := by first | exact Own.grow ho13 (Nat.le_refl _) hb13 hb13.size hg14 | exact Own.grow (ho13.alloc _) (Nat.le_refl _) (hb13.alloc hb13.size _) (by have := hb13.size; simp; omega) hg14
           rw [ofF_more] at ho14
           obtain ⟨A14, c14, hv14, r14⟩ := ho14.rd sSized (by rw [ofF_len]; omega)
           rw [ofF_len] at hv14 r14
           subst hv14
           have rc14 := ((F12.below hb14).more (x := (xm, xA, xn, xc)) (c := cardOf T K (vAt (turnV l n I (!yy)) I)) ⟨Fx1.out, fx2.up (flat_lasts _) hb14⟩).rdC r14
           clear hg14 hx14 ho14)
        | (go_at_call 27
           refine (Hsum3.out A14 c14 w14 rc14).mono ?_
           rintro e w15 ⟨rfl, hb15⟩
           have hb1215 := hb14.trans (hb15.mono hb14.size)))
    all_goals
      have hb015 := hb012.trans (hb1215.mono hb012.size)
      have k15 := (hb1215.cell kl12).trans k12
      have kl15 := Nat.lt_of_lt_of_le kl12 hb1215.size
      have r815 := r812.up (flat_lasts _) hb1215
      have r915 := r912.up (flat_lasts _) hb1215
      have r1215 := r12.up (flat_lasts _) hb1215
      have Ho2' := Ho2.out
      have Ho3' := Ho3.out
      obtain ⟨N2, hN2⟩ : ∃ x, x = N + (if yy then -1 else 1) := ⟨_, rfl⟩
      obtain ⟨N3, hN3⟩ : ∃ x, x = N - yesI yy := ⟨_, rfl⟩
      rw [← hN2] at Ho2'
      rw [← hN3] at Ho3'
      have HN2 := Lib.hid hN2; have HN3 := Lib.hid hN3; have HO2 := Lib.hid Ho2'; have HO3 := Lib.hid Ho3'
      clear hN2 hN3 Ho2' Ho3' hb1215 hb15 hb14 rc14 r14 hb13 lit0 lit1 lit2 bl0 bl1 bl2 blx rx1 rx2 hrx1 hrx2 F12 R12 n0 n1 k12 kl12 bl7 r812 r912 r12 hb012
      go_wp2_with fail
      refine (open_any A8 T c8 _ K n w15 r815).mono ?_
      rw [Ho1.out]
      rintro e w16 ⟨rfl, hb16⟩
      have hb016 := hb015.trans (hb16.mono hb015.size)
      go_wp2_with fail
      refine (open_any A9 T c9 _ K n w16 (r915.up (flat_lasts _) hb16)).mono ?_
      rw [HO2.out]
      rintro e w17 ⟨rfl, hb17⟩
      have hb017 := hb016.trans (hb17.mono hb016.size)
      have hb1517 := hb16.trans (hb17.mono hb16.size)
      go_wp2_with fail
      refine (open_any A12 T c12 _ K n w17 (r1215.up (flat_lasts _) hb1517)).mono ?_
      rw [HO3.out]
      rintro e w18 ⟨rfl, hb18⟩
      have hb018 := hb017.trans (hb18.mono hb017.size)
      have hb1518 := hb1517.trans (hb18.mono hb1517.size)
      have k18 := (hb1518.cell kl15).trans k15
      clear hb1518 hb1517 hb16 hb17 hb18 k15 kl15 r815 r915 r1215 hb015 hb016 hb017
      cases yy
      · have e2 : (N2 == N + 1) = true := by rw [HN2.out]; simp
        have e3 : (N3 == N) = true := by rw [HN3.out]; simp [yesI]
        go_wp2
        go_ret
        exact ⟨by simp, hb018⟩
      · have e2 : (N2 == N - 1) = true := by rw [HN2.out]; simp; omega
        have e3 : (N3 == N - 1) = true := by rw [HN3.out]; simp [yesI]
        go_wp2
        go_ret
        exact ⟨by simp, hb018⟩
end Go.Proofs.Ytfidjhhpcjmioaa
