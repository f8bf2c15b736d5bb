/- Walk over the statement PoolSolvent. Conditions stand in the theorem. -/
import Derived.Test.YthhmdljfklbbeaaP15
namespace Go.Proofs.Ythhmdljfklbbeaa
open Go.RowKit
set_option linter.unusedVariables false

set_option maxRecDepth 100000 in
set_option maxHeartbeats 4000000 in
theorem poolSolvent_walk (p : Pl) (A : Option Addr) (n cap : Nat) (cl : List (List Int)) (t : Int) (w : World) (h0 : True) (rl : RdII w w.heap.size A n cap cl) (wf : ∀ x ∈ cl, ∀ y ∈ x, -9223372036854775808 ≤ y ∧ y ≤ 9223372036854775807) (h1 : 0 ≤ t ∧ t ≤ 255) :
    Calls Try.prog 4 #[plV p, .slice A n cap, .int .u8 t] w fun e w' => e = .returned (.bool true) ∧ Below w.heap.size w w' := by
  have hcaps := rl.caps
  have hlen := rl.len
  have Hfew := Lib.hid (fun w hl => few_len p A n cap cl w hl)
  have Hright := Lib.hid (fun w => right_any p w)
  obtain ⟨K, hK⟩ : ∃ K : Nat, t % 17 = (K : Int) := ⟨(t % 17).toNat, by omega⟩
  have hK17 : K < 17 := by omega
  have hKt : t.tmod 17 = (K : Int) := by rw [Int.tmod_eq_emod_of_nonneg h1.1]; exact hK
  have hKu : IntKind.u8.wrap (K : Int) = (K : Int) := by rw [IntKind.wrap_u8]; omega
  have hKi : IntKind.i64.wrap (K : Int) = (K : Int) := IntWalk.i64_in _ (by omega)
  have Hs := Lib.hid (fun w => solvent_any p (K : Int) w (by omega))
  have hcx : ∀ w1, Below (w.alloc (.cells (plC p) 23)).heap.size (w.alloc (.cells (plC p) 23)) w1 → (∀ (j : Nat) u, (plC p)[j]? = some u → w1.cell? ⟨w.heap.size, j, none⟩ = some u) ∧ Below w.heap.size w w1 ∧ w.heap.size < w1.heap.size := fun w1 hb => ⟨fun j u hu => (hb.cell (p := ⟨w.heap.size, j, none⟩) (by simp)).trans (new_cell rfl hu), ((Below.refl w.heap.size w).alloc (Nat.le_refl _) _).trans (hb.mono (by simp)), by have := hb.size; simp at this; omega⟩
  have Hcx := Lib.hid hcx
  clear hcx
  cases hr : rightF p
  · have Hr := Lib.hid hr; clear hr
    obtain ⟨mo, pr, ms, co, wi, to⟩ := p
    simp only [plV, plC] at *
    go_enter Try.func4, Try.ntmps4
    go_wp2_with fail
    refine (small_any _).mono ?_
    rintro e w1 ⟨rfl, hb1⟩
    obtain ⟨hc1, hb01, hl1⟩ := Hcx.out _ hb1
    have c0 := hc1 0 _ rfl; have c1 := hc1 1 _ rfl; have c2 := hc1 2 _ rfl; have c3 := hc1 3 _ rfl; have c4 := hc1 4 _ rfl; have c5 := hc1 5 _ rfl
    clear hc1 hb1
    go_wp2_with fail
    refine (Hfew.out _ (rl.up ii_lasts hb01)).mono ?_
    rintro e w2 ⟨b, rfl, -, hb2⟩
    have hb02 := hb01.trans (hb2.mono hb01.size)
    have d0 := (hb2.cell (p := ⟨w.heap.size, 0, none⟩) hl1).trans c0
    have d1 := (hb2.cell (p := ⟨w.heap.size, 1, none⟩) hl1).trans c1
    have d2 := (hb2.cell (p := ⟨w.heap.size, 2, none⟩) hl1).trans c2
    have d3 := (hb2.cell (p := ⟨w.heap.size, 3, none⟩) hl1).trans c3
    have d4 := (hb2.cell (p := ⟨w.heap.size, 4, none⟩) hl1).trans c4
    have d5 := (hb2.cell (p := ⟨w.heap.size, 5, none⟩) hl1).trans c5
    cases b
    · go_wp2
      go_ret
      exact ⟨rfl, hb02⟩
    · go_wp2_with fail
      refine (Hright.out _).mono ?_
      rw [Hr.out]
      rintro e w3 ⟨rfl, hb3⟩
      go_wp2
      go_ret
      exact ⟨rfl, hb02.trans (hb3.mono hb02.size)⟩
  have Hr := Lib.hid hr
  have hE := solvE_nat hr (k := K) (by omega)
  rw [hE] at Hs
  -- what the two cases say
  have HB := Lib.hid (solvB_iff hr (k := K) (by omega))
  have hLt : fb p K = 0 → solvL p (K : Int) = [] := fun h => by simp [solvL, argF_nat hr (show K ≤ 1000 by omega), h, grL, ofF]
  have hLf : solvL p (K : Int) = grL p (fb p K) := by simp [solvL, argF_nat hr (show K ≤ 1000 by omega)]
  have HLt := Lib.hid hLt; have HLf := Lib.hid hLf
  have hrunE : n ≤ 16 → runE p cl = 0 ∨ runE p cl = 30 := fun hn => by
    unfold runE
    rw [hr, hlen, decide_eq_true (show n ≤ 1000 by omega)]
    simp only [Bool.and_self, if_true]
    cases admN p cl n <;> simp
  have hmon : fb p K = 0 → ∀ j x, (runL p cl)[j]? = some x → j < K → 0 ≤ x := fun hf j x hx hj => by
    unfold runL at hx
    by_cases ha : admF p cl = true
    · rw [if_pos ha] at hx
      obtain ⟨h2, rfl⟩ := ofF_get_some hx
      simp only [admF, Bool.and_eq_true] at ha
      exact solvent_money hr ha.2.2 hf h2 hj
    · rw [if_neg ha] at hx; simp at hx
  have hbadA : admF p (grL p (fb p K)) = true := by
    have hl : (grL p (fb p K)).length = fb p K := ofF_len
    have := fb_le (p := p) K
    simp only [admF, hr, hl, adm_grL hr _ _ (Nat.le_refl _), Bool.true_and, Bool.and_true, decide_eq_true_eq]
    omega
  have hbadE : runE p (grL p (fb p K)) = 0 := by
    have hl : (grL p (fb p K)).length = fb p K := ofF_len
    have := fb_le (p := p) K
    unfold runE
    rw [hr, hl, decide_eq_true (show fb p K ≤ 1000 by omega), adm_grL hr _ _ (Nat.le_refl _)]
    rfl
  have hbadL : runL p (grL p (fb p K)) = ofF (fb p K) (fun j => mny p (grL p (fb p K)) (j + 1)) := by
    have hl : (grL p (fb p K)).length = fb p K := ofF_len
    unfold runL
    rw [if_pos hbadA, hl]
  have HRLl : RowKit.Hid ((runL p cl).length ≤ 140737488351232) := Lib.hid (by
    unfold runL
    split
    · rename_i ha
      simp only [admF, Bool.and_eq_true, decide_eq_true_eq] at ha
      rw [ofF_len]; omega
    · simp)
  have hbm := fun (hf : fb p K ≠ 0) j (hj : j < fb p K) => bad_money hr hf hj
  have hfbl := fb_le (p := p) K
  have Hrun := Lib.hid (fun w hl => run_any p A n cap cl w hl)
  have Hrun2 := Lib.hid (fun A2 m2 cap2 w hl => run_any p A2 m2 cap2 (grL p (fb p K)) w hl)
  rw [hbadE, hbadL] at Hrun2
  have Hadm2 := Lib.hid (fun A2 m2 cap2 w hl => admits_any p A2 m2 cap2 (grL p (fb p K)) w hl)
  rw [hbadA] at Hadm2
  have hgl : (grL p (fb p K)).length = fb p K := ofF_len
  have Hgl := Lib.hid hgl; have Hbm := Lib.hid hbm; have Hmon := Lib.hid hmon; have HrunE := Lib.hid hrunE
  generalize mny p (grL p (fb p K)) = My at *
  generalize grL p (fb p K) = BL at *
  generalize fb p K = F at *
  generalize runE p cl = RE at *
  generalize runL p cl = RL at *
  obtain ⟨t1', t2'⟩ := h1
  clear hE hr hK hLt hLf hrunE hmon hbadA hbadE hbadL hbm hgl hlen
  obtain ⟨mo, pr, ms, co, wi, to⟩ := p
  simp only [plV, plC] at *
  go_enter Try.func4, Try.ntmps4
  go_wp2_with fail
  refine (small_any _).mono ?_
  rintro e w1 ⟨rfl, hb1⟩
  obtain ⟨hc1, hb01, hl1⟩ := Hcx.out _ hb1
  have c0 := hc1 0 _ rfl; have c1 := hc1 1 _ rfl; have c2 := hc1 2 _ rfl; have c3 := hc1 3 _ rfl; have c4 := hc1 4 _ rfl; have c5 := hc1 5 _ rfl
  clear hc1 hb1
  go_wp2_with fail
  refine (Hfew.out _ (rl.up ii_lasts hb01)).mono ?_
  rintro e w2 ⟨b, rfl, hn16, hb2⟩
  have hb02 := hb01.trans (hb2.mono hb01.size)
  have d0 := (hb2.cell (p := ⟨w.heap.size, 0, none⟩) hl1).trans c0
  have d1 := (hb2.cell (p := ⟨w.heap.size, 1, none⟩) hl1).trans c1
  have d2 := (hb2.cell (p := ⟨w.heap.size, 2, none⟩) hl1).trans c2
  have d3 := (hb2.cell (p := ⟨w.heap.size, 3, none⟩) hl1).trans c3
  have d4 := (hb2.cell (p := ⟨w.heap.size, 4, none⟩) hl1).trans c4
  have d5 := (hb2.cell (p := ⟨w.heap.size, 5, none⟩) hl1).trans c5
  have hl2 := Nat.lt_of_lt_of_le hl1 hb2.size
  clear c0 c1 c2 c3 c4 c5
  clear hb2 hl1 hb01
  cases b
  · go_wp2
    go_ret
    exact ⟨rfl, hb02⟩
  have hn := hn16 rfl
  clear hn16
  go_wp2_with fail
  refine (Hright.out _).mono ?_
  rw [Hr.out]
  rintro e w3 ⟨rfl, hb3⟩
  have hb03 := hb02.trans (hb3.mono hb02.size)
  have c0 := (hb3.cell (p := ⟨w.heap.size, 0, none⟩) hl2).trans d0
  have c1 := (hb3.cell (p := ⟨w.heap.size, 1, none⟩) hl2).trans d1
  have c2 := (hb3.cell (p := ⟨w.heap.size, 2, none⟩) hl2).trans d2
  have c3 := (hb3.cell (p := ⟨w.heap.size, 3, none⟩) hl2).trans d3
  have c4 := (hb3.cell (p := ⟨w.heap.size, 4, none⟩) hl2).trans d4
  have c5 := (hb3.cell (p := ⟨w.heap.size, 5, none⟩) hl2).trans d5
  have hl3 := Nat.lt_of_lt_of_le hl2 hb3.size
  clear d0 d1 d2 d3 d4 d5
  clear hb3 hl2 hb02
  have hK : t % 17 = (K : Int) := by rw [← hKt, Int.tmod_eq_emod_of_nonneg t1']
  go_wp2_with fail
  refine (Hs.out _).mono ?_
  rintro e w4 ⟨A4, m4, cap4, rfl, r4, hb4⟩
  have hb04 := hb03.trans (hb4.mono hb03.size)
  have d0 := (hb4.cell (p := ⟨w.heap.size, 0, none⟩) hl3).trans c0
  have d1 := (hb4.cell (p := ⟨w.heap.size, 1, none⟩) hl3).trans c1
  have d2 := (hb4.cell (p := ⟨w.heap.size, 2, none⟩) hl3).trans c2
  have d3 := (hb4.cell (p := ⟨w.heap.size, 3, none⟩) hl3).trans c3
  have d4 := (hb4.cell (p := ⟨w.heap.size, 4, none⟩) hl3).trans c4
  have d5 := (hb4.cell (p := ⟨w.heap.size, 5, none⟩) hl3).trans c5
  have hl4 := Nat.lt_of_lt_of_le hl3 hb4.size
  clear c0 c1 c2 c3 c4 c5
  clear hb4 hl3 hb03
  cases hsol : solvB ⟨mo, pr, ms, co, wi, to⟩ (K : Int)
  · have hF : F ≠ 0 := fun h => by have := HB.out.2 h; rw [hsol] at this; cases this
    rw [HLf.out] at r4
    have hm4 : m4 = F := r4.len.symm.trans Hgl.out
    subst hm4
    have hcap4 := r4.caps
    go_wp2_with fail
    refine (Hrun2.out A4 m4 cap4 w4 r4).mono ?_
    rintro e w5 ⟨v5, rfl, ho5, hb5⟩
    obtain ⟨A5, c5', rfl, r5⟩ := ho5.rd iSized (by rw [ofF_len]; omega)
    rw [ofF_len] at r5 ⊢
    have hb05 := hb04.trans (hb5.mono hb04.size)
    have c0 := (hb5.cell (p := ⟨w.heap.size, 0, none⟩) hl4).trans d0
    have c1 := (hb5.cell (p := ⟨w.heap.size, 1, none⟩) hl4).trans d1
    have c2 := (hb5.cell (p := ⟨w.heap.size, 2, none⟩) hl4).trans d2
    have c3 := (hb5.cell (p := ⟨w.heap.size, 3, none⟩) hl4).trans d3
    have c4 := (hb5.cell (p := ⟨w.heap.size, 4, none⟩) hl4).trans d4
    have c5 := (hb5.cell (p := ⟨w.heap.size, 5, none⟩) hl4).trans d5
    have r45 := r4.up ii_lasts hb5
    clear r4 ho5 hb5 d0 d1 d2 d3 d4 d5
    have hdm0 : ((m4 : Int) == 0) = false := by simp; omega
    have hdmK : decide ((K : Int) < (m4 : Int)) = false := by simp; omega
    have hdmm : ((m4 : Int) != (m4 : Int)) = false := by simp
    go_wp2_with fail
    refine (Hadm2.out A4 m4 cap4 w5 r45).mono ?_
    rintro e w6 ⟨rfl, hb6⟩
    have hb06 := hb05.trans (hb6.mono hb05.size)
    have r6 := r5.up (flat_lasts _) hb6
    clear r5 r45 hb6 hb05 c0 c1 c2 c3 c4 c5
    go_wp2
    go_loopg [17] m4 (fun gk i wr => ∃ j : Nat, j ≤ m4 ∧ gk = m4 - j ∧ i = .int .i64 j ∧ Below w6.heap.size w6 wr)
    case atStart => exact ⟨0, Nat.zero_le _, rfl, rfl, Below.refl _ _⟩
    case round =>
      obtain ⟨j, hj, rfl, rfl, hb⟩ := hrel
      by_cases hlt : j < m4
      · obtain ⟨b, off, x, rfl, hbB, hx, k0⟩ := (r6.below (flat_lasts _) hb (Nat.le_refl _) (Nat.le_refl _)).atI hlt
        obtain ⟨-, ex⟩ := ofF_get_some hx
        have hbm := Hbm.out hF j hlt
        rw [← ex] at hbm
        have hji : (j : Int) < (m4 : Int) := by omega
        have hj0 : (0 : Int) ≤ (j : Int) := by omega
        have hw1 : IntKind.i64.wrap ((m4 : Int) - 1) = (m4 : Int) - 1 := IntWalk.i64_in _ (by omega)
        clear hx ex
        by_cases e : j + 1 = m4
        · have hdx : decide (x < 0) = true := by rw [hbm]; simp [e]
          have hje : ((j : Int) == (m4 : Int) - 1) = true := by simp; omega
          clear hbm
          go_wp2
          go_roundg (m4 - (j + 1))
          case rel => exact ⟨j + 1, by omega, rfl, by go_num, hb⟩
          case measure => omega
        · have hdx : decide (x < 0) = false := by rw [hbm]; simp [e]
          have hje : ((j : Int) == (m4 : Int) - 1) = false := by simp; omega
          clear hbm
          go_wp2
          go_roundg (m4 - (j + 1))
          case rel => exact ⟨j + 1, by omega, rfl, by go_num, hb⟩
          case measure => omega
      · have e : j = m4 := by omega
        subst e
        go_wp2
        go_ret
        exact ⟨rfl, hb06.trans (hb.mono hb06.size)⟩
  · have hF : F = 0 := HB.out.1 hsol
    rw [HLt.out hF] at r4
    have hm4 : m4 = 0 := r4.len.symm
    subst hm4
    have hmon := Hmon.out hF
    have Hmon' := Lib.hid hmon
    have HRE := Lib.hid (HrunE.out hn)
    clear hmon
    go_wp2_with fail
    refine (Hrun.out w4 (rl.up ii_lasts hb04)).mono ?_
    rintro e w5 ⟨v5, rfl, ho5, hb5⟩
    have hb05 := hb04.trans (hb5.mono hb04.size)
    have hRLl := HRLl.out
    obtain ⟨A5, c5', rfl, r5⟩ := ho5.rd iSized hRLl
    obtain ⟨N, hN⟩ : ∃ N, N = RL.length := ⟨_, rfl⟩
    rw [← hN] at r5 ⊢
    have hc5 := r5.caps
    clear ho5 hb5 hN hRLl
    go_wp2
    go_loopg [14] N (fun gk i wr => ∃ j : Nat, j ≤ N ∧ gk = N - j ∧ i = .int .i64 j ∧ Below w5.heap.size w5 wr)
    case atStart => exact ⟨0, Nat.zero_le _, rfl, rfl, Below.refl _ _⟩
    case round =>
      obtain ⟨j, hj, rfl, rfl, hb⟩ := hrel
      have hbe := hb05.trans (hb.mono hb05.size)
      by_cases hlt : j < N ∧ j < K
      · obtain ⟨b, off, x, rfl, hbB, hx, k0⟩ := (r5.below (flat_lasts _) hb (Nat.le_refl _) (Nat.le_refl _)).atI hlt.1
        have hx0 := Hmon'.out j x hx hlt.2
        have hdx : decide (x < 0) = false := by simp; omega
        have hji : (j : Int) < (N : Int) := by omega
        have hjK : (j : Int) < (K : Int) := by omega
        have hj0 : (0 : Int) ≤ (j : Int) := by omega
        have hdn : decide (j < N) = true := by simp; omega
        have hdk : decide (j < K) = true := by simp; omega
        clear hx
        go_wp2
        go_roundg (N - (j + 1))
        case rel => exact ⟨j + 1, by omega, rfl, by go_num, hb⟩
        case measure => omega
      · have hE2 := HRE.out
        by_cases h2 : j < N
        · have hdn : decide (j < N) = true := by simpa using h2
          have hdk : decide (j < K) = false := by simp; omega
          rcases hE2 with rfl | rfl
          all_goals
            go_wp2
            go_ret
            exact ⟨rfl, hbe⟩
        · have hdn : decide (j < N) = false := by simpa using h2
          rcases hE2 with rfl | rfl
          all_goals
            go_wp2
            go_ret
            exact ⟨rfl, hbe⟩
end Go.Proofs.Ythhmdljfklbbeaa
