/- Walk over the statement ShareTells. Conditions stand in the theorem. -/
import Derived.Test.YtfidjhhpcjmioaaL1
namespace Go.Proofs.Ytfidjhhpcjmioaa
open Go.RowKit
set_option linter.unusedVariables false

/-- Split of the program at whatever arguments -/
theorem split_any (secret k n seed : Int) (w : World) (hs : -9223372036854775808 ≤ seed ∧ seed ≤ 9223372036854775807) :
  Calls Try.prog 13 #[.int .i64 secret, .int .i64 k, .int .i64 n, .int .i64 seed] w fun e w' => ∃ A cap m l er, e = .returned (.tuple #[.slice A m cap, .int .i64 er]) ∧ RdP w' w'.heap.size A m cap l ∧ Below w.heap.size w w' ∧
    (l = if splitBad secret k n then [] else splitL secret k seed n.toNat) ∧ er = if splitBad secret k n then 1 else 0 := by
  cases hb : splitBad secret k n
  · have h1 : inF secret = true ∧ 1 ≤ n ∧ n ≤ 20 ∧ 1 ≤ k ∧ k ≤ n := by
      refine ⟨?_, ?_⟩
      · cases h : inF secret
        · simp [splitBad, h] at hb
        · rfl
      · simp [splitBad] at hb; omega
    obtain ⟨hF, a1, a2, a3, a4⟩ := h1
    obtain ⟨k, rfl⟩ := Int.eq_ofNat_of_zero_le (show 0 ≤ k by omega)
    obtain ⟨n, rfl⟩ := Int.eq_ofNat_of_zero_le (show 0 ≤ n by omega)
    refine (split_ok secret seed k n w hF (by omega) (by omega) (by omega) (by omega) hs.1 hs.2).mono fun e w' ⟨v, he, ho, hbl⟩ => ?_
    obtain ⟨A, c, rfl, hr⟩ := ho.rd pSized (by rw [splitL_len]; omega)
    exact ⟨A, c, _, _, 0, he, hr, hbl, rfl, rfl⟩
  · exact (split_bad secret k n seed w hb).mono fun e w' ⟨he, hw⟩ => ⟨none, 0, 0, [], 1, he, Rd.nil, by rw [← hw]; exact Below.refl _ _, rfl, rfl⟩
theorem rsplit_any (secret k n seed : Int) (w : World) (hs : -9223372036854775808 ≤ seed ∧ seed ≤ 9223372036854775807) :
  Calls Try.prog 14 #[.int .i64 secret, .int .i64 k, .int .i64 n, .int .i64 seed] w fun e w' => ∃ A cap m l er, e = .returned (.tuple #[.slice A m cap, .int .i64 er]) ∧ RdP w' w'.heap.size A m cap l ∧ Below w.heap.size w w' ∧
    (l = if splitBad secret k n then [] else splitL secret k seed n.toNat) ∧ er = if splitBad secret k n then 1 else 0 := by
  cases hb : splitBad secret k n
  · have h1 : inF secret = true ∧ 1 ≤ n ∧ n ≤ 20 ∧ 1 ≤ k ∧ k ≤ n := by
      refine ⟨?_, ?_⟩
      · cases h : inF secret
        · simp [splitBad, h] at hb
        · rfl
      · simp [splitBad] at hb; omega
    obtain ⟨hF, a1, a2, a3, a4⟩ := h1
    obtain ⟨k, rfl⟩ := Int.eq_ofNat_of_zero_le (show 0 ≤ k by omega)
    obtain ⟨n, rfl⟩ := Int.eq_ofNat_of_zero_le (show 0 ≤ n by omega)
    refine (rsplit_ok secret seed k n w hF (by omega) (by omega) (by omega) (by omega) hs.1 hs.2).mono fun e w' ⟨v, he, ho, hbl⟩ => ?_
    rw [rsplit_split secret seed k n (by omega) hF] at ho
    obtain ⟨A, c, rfl, hr⟩ := ho.rd pSized (by rw [splitL_len]; omega)
    exact ⟨A, c, _, _, 0, he, hr, hbl, rfl, rfl⟩
  · exact (rsplit_bad secret k n seed w hb).mono fun e w' ⟨he, hw⟩ => ⟨none, 0, 0, [], 1, he, Rd.nil, by rw [← hw]; exact Below.refl _ _, rfl, rfl⟩

theorem shareTells_walk (secret k n seed : Int) (A : Option Addr) (m cap : Nat) (l : List (Int × Int)) (w : World)
    (h0 : -9223372036854775808 ≤ secret ∧ secret ≤ 9223372036854775807) (h1 : -9223372036854775808 ≤ k ∧ k ≤ 9223372036854775807) (h2 : -9223372036854775808 ≤ n ∧ n ≤ 9223372036854775807) (h3 : -9223372036854775808 ≤ seed ∧ seed ≤ 9223372036854775807)
    (rd : RdP w w.heap.size A m cap l) (wf : ∀ s ∈ l, (-9223372036854775808 ≤ s.1 ∧ s.1 ≤ 9223372036854775807) ∧ (-9223372036854775808 ≤ s.2 ∧ s.2 ≤ 9223372036854775807)) :
    Calls Try.prog 3 #[.int .i64 secret, .int .i64 k, .int .i64 n, .int .i64 seed, .slice A m cap] w fun e w' => e = .returned (.bool true) ∧ Below w.heap.size w w' := by
  obtain ⟨c1, c2, c3⟩ := rd.caps
  clear wf h0 h1 h2
  by_cases hm : (30 : Int) < (m : Int)
  · go_enter Try.func3, Try.ntmps3
    go_wp2_with (go_at_call 12; refine (small_any _).mono ?_; rintro e w1 ⟨rfl, hb1⟩)
    go_ret
    exact ⟨rfl, hb1⟩
  · go_enter Try.func3, Try.ntmps3
    go_wp2_with (go_at_call 12; refine (small_any _).mono ?_; rintro e w1 ⟨rfl, hb1⟩)
    refine (split_any secret k n seed w1 h3).mono ?_
    rintro e w2 ⟨A2, c2, m2, l2, e2, rfl, r2, hb2, hl2, he2⟩
    have Hl2 := Lib.hid hl2; have He2 := Lib.hid he2; clear hl2 he2
    go_wp2_with fail
    refine (rsplit_any secret k n seed w2 h3).mono ?_
    rintro e w3 ⟨A3, c3, m3, l3, e3, rfl, r3, hb3, hl3, he3⟩
    have Hl3 := Lib.hid (hl3.trans Hl2.out.symm); have He3 := Lib.hid (he3.trans He2.out.symm); clear hl3 he3
    have hb02 := hb1.trans (hb2.mono hb1.size)
    have hb03 := hb02.trans (hb3.mono hb02.size)
    go_wp2_with fail
    refine (join_any A m cap l k w3 (rd.up (flat_lasts _) hb03)).mono ?_
    rintro e w4 ⟨rfl, hb4⟩
    have hb04 := hb03.trans (hb4.mono hb03.size)
    go_wp2_with fail
    refine (rjoin_any A m cap l k w4 (rd.up (flat_lasts _) hb04) (by omega)).mono ?_
    rintro e w5 ⟨rfl, hb5⟩
    rw [rjoin_join]
    have hb05 := hb04.trans (hb5.mono hb04.size)
    have hb35 := hb4.trans (hb5.mono hb4.size)
    have hb25 := hb3.trans (hb35.mono hb3.size)
    have ee : (e2 == e3) = true := by rw [He3.out]; simp
    go_wp2_with fail
    refine (same_any A2 A3 m2 m3 c2 c3 l2 l3 w5 (r2.up (flat_lasts _) hb25) (r3.up (flat_lasts _) hb35)).mono ?_
    rintro e w6 ⟨rfl, hb6⟩
    rw [decide_eq_true Hl3.out.symm]
    have hb06 := hb05.trans (hb6.mono hb05.size)
    go_wp2_with fail
    refine (fits_any A m cap l k secret w6 (rd.up (flat_lasts _) hb06) (by omega)).mono ?_
    rintro e w7 ⟨rfl, hb7⟩
    have hb07 := hb06.trans (hb7.mono hb06.size)
    go_wp2_with fail
    refine (rfits_any A m cap l k secret w7 (rd.up (flat_lasts _) hb07) (by omega)).mono ?_
    rintro e w8 ⟨rfl, hb8⟩
    rw [rfits_fits]
    have hb08 := hb07.trans (hb8.mono hb07.size)
    go_wp2_with fail
    go_ret
    exact ⟨by simp, hb08⟩
end Go.Proofs.Ytfidjhhpcjmioaa
