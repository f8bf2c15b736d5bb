/- Walk over the statement BallotCounts. Conditions stand in the theorem. -/
import Derived.Test.YtfidjhhpcjmioaaB11
import Derived.Test.YtfidjhhpcjmioaaOps
import Derived.Test.YtfidjhhpcjmioaaBp
namespace Go.Proofs.Ytfidjhhpcjmioaa
open Go.RowKit Alg
set_option linter.unusedVariables false

/-- the sums of the cards of votes -/
def sumsL (t k : Nat) (V : Nat → Vt) (n : Nat) : List (Int × Int) := shL (fun i => sumC (cardsL t k V n) i n) t
theorem sumsL_eq (t k : Nat) (V : Nat → Vt) (n : Nat) : sumF (cardsL t k V n) t = sumsL t k V n := by
  unfold sumF sumsL; rw [cardsL_len]
theorem sumsL_len (t k : Nat) (V : Nat → Vt) (n : Nat) : (sumsL t k V n).length = t := shL_len _ _
/-- part of the sums -/
theorem sums_part {t k n : Nat} {V : Nat → Vt} (hk : 1 ≤ k) (hkt : k ≤ t) (ht : t ≤ 20) {l : List (Int × Int)} (hsub : ∀ x ∈ l, x ∈ sumsL t k V n) (hnd : l.Nodup) : validF l k = 0 ∧ OnP l (polyV k V n) :=
  shpart_ok hk (by omega) ht (fun i _ => sumC_bd _ i n) (fun i hi => sums_on t k V n i hi) hsub hnd
theorem sums_open {t k n : Nat} {V : Nat → Vt} (hk : 1 ≤ k) (hkt : k ≤ t) (ht : t ≤ 20) (hn : n ≤ 1000) {l : List (Int × Int)} (hsub : ∀ x ∈ l, x ∈ sumsL t k V n) (hnd : l.Nodup) (hl : k ≤ l.length) {c : Int} (hc : (n : Int) ≤ c) : openF l k c = (yesN V n, 0) := by
  obtain ⟨hv, ho⟩ := sums_part hk hkt ht hsub hnd
  obtain ⟨y1, y2⟩ := yesN_bd V n
  exact open_enough hv hl (polyV_isP k V n) ho y1 (by omega) (polyV_zero k V n (by omega)) (by omega)

set_option maxRecDepth 100000 in
set_option maxHeartbeats 2000000 in
theorem ballotCounts_walk (A : Option Addr) (n cap : Nat) (l : List Vt) (t k : Int) (U : Option Addr) (m capu : Nat) (order : List Int) (other : Int) (w : World)
    (rl : RdV w w.heap.size A n cap l) (hvl : ∀ x ∈ l, I64 x.1 ∧ I64 x.2.2) (h1 : 0 ≤ t ∧ t ≤ 255) (h2 : 0 ≤ k ∧ k ≤ 255) (ru : RdU w w.heap.size U m capu order) (wf : ∀ x ∈ order, 0 ≤ x ∧ x ≤ 255) (h5 : -9223372036854775808 ≤ other ∧ other ≤ 9223372036854775807) :
    Calls Try.prog 10 #[.slice A n cap, .int .u8 t, .int .u8 k, .slice U m capu, .int .i64 other] w fun e w' => e = .returned (.bool true) ∧ Below w.heap.size w w' := by
  have hcaps := rl.caps
  have hcapu := ru.caps
  by_cases h20 : 20 < n
  · have hd : decide ((20 : Int) < (n : Int)) = true := by simp; omega
    go_enter Try.func10, Try.ntmps10
    go_wp2_with (go_at_call 23; refine (bsmall_any _).mono ?_; rintro e w1 ⟨rfl, hb1⟩)
    go_ret
    exact ⟨rfl, hb1⟩
  have hd20 : decide ((20 : Int) < (n : Int)) = false := by simp; omega
  by_cases h30 : 30 < m
  · have hd : decide ((30 : Int) < (m : Int)) = true := by simp; omega
    go_enter Try.func10, Try.ntmps10
    go_wp2_with (go_at_call 23; refine (bsmall_any _).mono ?_; rintro e w1 ⟨rfl, hb1⟩)
    go_ret
    exact ⟨rfl, hb1⟩
  have hd30 : decide ((30 : Int) < (m : Int)) = false := by simp; omega
  have Hdiff := Lib.hid (fun w => different_any A n cap l w)
  cases hdf : diffN l n
  · have Hdf := Lib.hid hdf; clear hdf
    go_enter Try.func10, Try.ntmps10
    go_wp2_with (first
      | (go_at_call 23; refine (bsmall_any _).mono ?_; rintro e w1 ⟨rfl, hb1⟩)
      | (go_at_call 34; refine (Hdiff.out _ (rl.up (flat_lasts _) hb1)).mono ?_; rw [Hdf.out]; rintro e w2 ⟨rfl, hb2⟩))
    go_ret
    exact ⟨rfl, hb1.trans (hb2.mono hb1.size)⟩
  have Hdf := Lib.hid hdf
  obtain ⟨hmem, hdis⟩ := diffN_facts hdf
  obtain ⟨T, hT⟩ : ∃ T : Nat, (T : Int) = 1 + t % 20 := ⟨(1 + t % 20).toNat, by omega⟩
  have hr1 := Int.emod_nonneg k (show 1 + t % 20 ≠ 0 by omega)
  have hr2 := Int.emod_lt_of_pos k (show 0 < 1 + t % 20 by omega)
  obtain ⟨K, hK⟩ : ∃ K : Nat, (K : Int) = 1 + k % (1 + t % 20) := ⟨(1 + k % (1 + t % 20)).toNat, by omega⟩
  have hT1 : 1 ≤ T := by omega
  have hT2 : T ≤ 20 := by omega
  have hK1 : 1 ≤ K := by omega
  have hK2 : K ≤ T := by omega
  have hscene := fun w => scene_any t k w h1 h2
  rw [← hT] at hscene hK
  rw [← hK] at hscene
  have hcards := fun w rl => cards_at A n cap l T K w rl hmem (fun x hx => (hvl x hx).2) hK1 hK2 hT2 (by omega) (cardsL T K (vAt l) n) rfl
  have hchk := cards_check (t := T) (k := K) (n := n) (V := vAt l) hT1 hT2 (by omega) hmem hdis
  have Hsum := Lib.hid (fun A2 c2 w r2 => bsum_at A2 n c2 (cardsL T K (vAt l) n) T w r2 hchk _ (sumsL_eq T K (vAt l) n) (by omega))
  have Hcheck := Lib.hid (fun A2 c2 w r2 => check_any A2 n c2 (cardsL T K (vAt l) n) T w r2)
  have Hchk := Lib.hid hchk
  have Hscene := Lib.hid hscene; have Hcards := Lib.hid hcards
  have Hlo := Lib.hid ru.len
  obtain ⟨r, hr⟩ : ∃ r, other.tmod 2147483647 = r := ⟨_, rfl⟩
  have hrb : -2147483647 < r ∧ r < 2147483647 := by
    rw [← hr]; exact ⟨Int.lt_tmod_of_pos other (by omega), Int.tmod_lt_of_pos other (by omega)⟩
  obtain ⟨hrb1, hrb2⟩ := hrb
  have hMM : ((T : Int) != (T : Int)) = false := by simp
  clear hscene hcards hchk hmem hdis hdf hT hK hr1 hr2 h1 h2 h5 hvl
  go_enter Try.func10, Try.ntmps10
  go_wp2_with (first
      | (go_at_call 23; refine (bsmall_any _).mono ?_; rintro e w1 ⟨rfl, hb1⟩)
      | (go_at_call 34; refine (Hdiff.out _ (rl.up (flat_lasts _) hb1)).mono ?_; rw [Hdf.out]; rintro e w2 ⟨rfl, hb2⟩))
  have hb02 := hb1.trans (hb2.mono hb1.size)
  refine (Hscene.out _).mono ?_
  rintro e w3 ⟨rfl, hb3⟩
  have hb03 := hb02.trans (hb3.mono hb02.size)
  go_wp2_with fail
  refine (Hcards.out _ (rl.up (flat_lasts _) hb03)).mono ?_
  rintro e w4 ⟨A4, c4, rfl, r4, hb4⟩
  have hb04 := hb03.trans (hb4.mono hb03.size)
  go_wp2_with fail
  refine (Hsum.out _ _ _ r4).mono ?_
  rintro e w5 ⟨A5, c5, rfl, r5, hb5⟩
  have hb05 := hb04.trans (hb5.mono hb04.size)
  go_wp2_with fail
  refine (Hcheck.out _ _ _ (r4.up cdE_lasts hb5)).mono ?_
  rw [Hchk.out]
  rintro e w6 ⟨rfl, hb6⟩
  have hb06 := hb05.trans (hb6.mono hb05.size)
  have r6 := r5.up (flat_lasts _) hb6
  clear hb1 hb2 hb3 hb4 hb5 hb6 hb02 hb03 hb04 hb05 r4 r5
  go_wp2_with fail
  go_loopg [18, 19] n (fun gk y i wr => ∃ j : Nat, j ≤ n ∧ gk = n - j ∧ i = .int .i64 j ∧ y = .int .i64 (yesN (vAt l) j) ∧ Below w6.heap.size w6 wr)
  case atStart => exact ⟨0, by omega, rfl, rfl, rfl, Below.refl _ _⟩
  case round =>
    obtain ⟨j, hj, rfl, rfl, rfl, hb⟩ := hrel
    have hb0 := hb06.trans (hb.mono hb06.size)
    by_cases hlt : j < n
    · obtain ⟨b, off, mm, y, s, rfl, hbB, hv, c0, c1, c2⟩ := (rl.below (flat_lasts _) hb0 (Nat.le_refl _) (Nat.le_refl _)).atV hlt
      have Hv := Lib.hid (show yesN (vAt l) (j + 1) = yesN (vAt l) j + yesI y by rw [yesN_succ, vAt_eq hv])
      obtain ⟨z1, z2⟩ := yesN_bd (vAt l) j
      have hji : (j : Int) < (n : Int) := by omega
      have hj0 : (0 : Int) ≤ (j : Int) := by omega
      clear hv
      cases y
      all_goals
        go_wp2
        go_roundg (n - (j + 1))
        case rel => exact ⟨j + 1, by omega, rfl, by go_num, by rw [Hv.out]; simp [yesI], hb⟩
        case measure => omega
    · have e : j = n := by omega
      subst e
      have hcl := chosenF_len (sumsL T K (vAt l) j) order m
      have hsub := chosenF_sub (sumsL T K (vAt l) j) order (by rw [sumsL_len]; omega) (fun x hx => (wf x hx).1) m (by rw [Hlo.out]; omega)
      have hnd := chosenF_nodup (sumsL T K (vAt l) j) order m
      go_wp2_with fail
      refine (bchosen_any A5 U T m c5 capu _ order wr (r6.up (flat_lasts _) hb) (ru.up (flat_lasts _) hb0) wf (by omega)).mono ?_
      rw [if_neg (by omega)]
      rintro e w7 ⟨v7, rfl, ho7, hb7⟩
      have hb07 := hb0.trans (hb7.mono hb0.size)
      generalize chosenF (sumsL T K (vAt l) j) order m = some_ at *
      obtain ⟨A7, c7, rfl, r7⟩ := ho7.rd pSized (by omega)
      obtain ⟨N, hN⟩ : ∃ N, N = some_.length := ⟨_, rfl⟩
      rw [← hN] at r7 hcl ⊢
      obtain ⟨y1, y2⟩ := yesN_bd (vAt l) j
      have hyF : inF (yesN (vAt l) j) = true := inF_ph y1 (by omega)
      have hopen := fun (h : K ≤ N) => sums_open (c := (j : Int)) hK1 hK2 hT2 (by omega) hsub hnd (by omega) (by omega)
      obtain ⟨hval, -⟩ := sums_part hK1 hK2 hT2 hsub hnd
      have hfew := fun (h : N < K) => open_few (c := (j : Int)) hval (by omega)
      have hfits := fun (h : N < K) x hx => fits_few hval (by omega) x hx
      have Hopen := Lib.hid hopen; have Hfew := Lib.hid hfew; have Hfits := Lib.hid hfits; have HyF := Lib.hid hyF
      clear ho7 hopen hfew hfits hval hyF hsub hnd hN
      generalize yesN (vAt l) j = Y at *
      have hYY : (Y == Y) = true := by simp
      by_cases hKN : K ≤ N
      · have hge : (K : Int) ≤ (N : Int) := by omega
        go_wp2_with fail
        refine (open_any A7 N c7 some_ K j w7 r7).mono ?_
        rw [Hopen.out hKN]
        rintro e w8 ⟨rfl, hb8⟩
        go_wp2_with fail
        go_ret
        exact ⟨by simp, hb07.trans (hb8.mono hb07.size)⟩
      · have hge : (N : Int) < (K : Int) := by omega
        have hfx : ∀ x, inF x = true → fitsF some_ K x = true := Hfits.out (by omega)
        have Hfx := Lib.hid hfx; clear hfx
        by_cases hr0 : r < 0
        · go_wp2_with fail
          refine (open_any A7 N c7 some_ K j w7 r7).mono ?_
          rw [Hfew.out (by omega)]
          rintro e w8 ⟨rfl, hb8⟩
          go_wp2_with fail
          refine (fits_any A7 N c7 some_ K _ w8 (r7.up (flat_lasts _) hb8) (by omega)).mono ?_
          rw [Hfx.out _ (inF_ph (by omega) (by omega))]
          rintro e w9 ⟨rfl, hb9⟩
          have hb79 := hb8.trans (hb9.mono hb8.size)
          go_wp2_with fail
          refine (fits_any A7 N c7 some_ K _ w9 (r7.up (flat_lasts _) hb79) (by omega)).mono ?_
          rw [Hfx.out _ HyF.out]
          rintro e w10 ⟨rfl, hb10⟩
          have hb710 := hb79.trans (hb10.mono hb79.size)
          go_wp2_with fail
          go_ret
          exact ⟨rfl, hb07.trans (hb710.mono hb07.size)⟩
        · go_wp2_with fail
          refine (open_any A7 N c7 some_ K j w7 r7).mono ?_
          rw [Hfew.out (by omega)]
          rintro e w8 ⟨rfl, hb8⟩
          go_wp2_with fail
          refine (fits_any A7 N c7 some_ K _ w8 (r7.up (flat_lasts _) hb8) (by omega)).mono ?_
          rw [Hfx.out _ (inF_ph (by omega) (by omega))]
          rintro e w9 ⟨rfl, hb9⟩
          have hb79 := hb8.trans (hb9.mono hb8.size)
          go_wp2_with fail
          refine (fits_any A7 N c7 some_ K _ w9 (r7.up (flat_lasts _) hb79) (by omega)).mono ?_
          rw [Hfx.out _ HyF.out]
          rintro e w10 ⟨rfl, hb10⟩
          have hb710 := hb79.trans (hb10.mono hb79.size)
          go_wp2_with fail
          go_ret
          exact ⟨rfl, hb07.trans (hb710.mono hb07.size)⟩
end Go.Proofs.Ytfidjhhpcjmioaa
