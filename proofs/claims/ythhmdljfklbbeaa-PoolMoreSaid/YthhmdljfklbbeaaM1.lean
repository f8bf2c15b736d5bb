/- Walk over the statement PoolMore. Conditions stand in the theorem. -/
import Derived.Test.YthhmdljfklbbeaaPq
namespace Go.Proofs.Ythhmdljfklbbeaa
open Go.RowKit
set_option linter.unusedVariables false

set_option maxRecDepth 100000 in
set_option maxHeartbeats 4000000 in
theorem poolMore_walk (p : Pl) (t c n : Int) (w : World) (h0 : True) (h1 : 0 ≤ t ∧ t ≤ 255) (h2 : 0 ≤ c ∧ c ≤ 255) (h3 : -9223372036854775808 ≤ n ∧ n ≤ 9223372036854775807) :
    Calls Try.prog 7 #[plV p, .int .u8 t, .int .u8 c, .int .i64 n] w fun e w' => e = .returned (.bool true) ∧ Below w.heap.size w w' := by
  have Hfew := Lib.hid (fun w => few_any p none 0 0 [] w Rd.nil)
  have Hright := Lib.hid (fun w => right_any p w)
  obtain ⟨K, hK⟩ : ∃ K : Nat, t % 17 = (K : Int) := ⟨(t % 17).toNat, by omega⟩
  have hK17 : K < 17 := by omega
  have hKt : t.tmod 17 = (K : Int) := by rw [Int.tmod_eq_emod_of_nonneg h1.1]; exact hK
  have hKu : IntKind.u8.wrap (K : Int) = (K : Int) := by rw [IntKind.wrap_u8]; omega
  have hKi : IntKind.i64.wrap (K : Int) = (K : Int) := IntWalk.i64_in _ (by omega)
  have Hs := Lib.hid (fun w => solvent_any p (K : Int) w (by omega))
  have hcx : ∀ w1, Below (w.alloc (.cells (plC p) 23)).heap.size (w.alloc (.cells (plC p) 23)) w1 → (∀ (j : Nat) u, (plC p)[j]? = some u → w1.cell? ⟨w.heap.size, j, none⟩ = some u) ∧ Below w.heap.size w w1 ∧ w.heap.size < w1.heap.size := fun w1 hb => ⟨fun j u hu => (hb.cell (p := ⟨w.heap.size, j, none⟩) (by simp)).trans (new_cell rfl hu), ((Below.refl w.heap.size w).alloc (Nat.le_refl _) _).trans (hb.mono (by simp)), by have := hb.size; simp at this; omega⟩
  have Hcx := Lib.hid hcx
  clear hcx
  cases hr : rightF p
  · have Hr := Lib.hid hr; clear hr
    obtain ⟨mo, pr, ms, co, wi, to⟩ := p
    simp only [plV, plC] at *
    go_enter Try.func7, Try.ntmps7
    go_wp2_with fail
    refine (small_any _).mono ?_
    rintro e w1 ⟨rfl, hb1⟩
    obtain ⟨hc1, hb01, hl1⟩ := Hcx.out _ hb1
    have c0 := hc1 0 _ rfl; have c1 := hc1 1 _ rfl; have c2 := hc1 2 _ rfl; have c3 := hc1 3 _ rfl; have c4 := hc1 4 _ rfl; have c5 := hc1 5 _ rfl
    clear hc1 hb1
    go_wp2_with fail
    refine (Hfew.out _).mono ?_
    rintro e w2 ⟨b, rfl, hb2⟩
    have hb02 := hb01.trans (hb2.mono hb01.size)
    have d0 := (hb2.cell (p := ⟨w.heap.size, 0, none⟩) hl1).trans c0
    have d1 := (hb2.cell (p := ⟨w.heap.size, 1, none⟩) hl1).trans c1
    have d2 := (hb2.cell (p := ⟨w.heap.size, 2, none⟩) hl1).trans c2
    have d3 := (hb2.cell (p := ⟨w.heap.size, 3, none⟩) hl1).trans c3
    have d4 := (hb2.cell (p := ⟨w.heap.size, 4, none⟩) hl1).trans c4
    have d5 := (hb2.cell (p := ⟨w.heap.size, 5, none⟩) hl1).trans c5
    cases b
    · go_wp2
      go_ret
      exact ⟨rfl, hb02⟩
    · go_wp2_with fail
      refine (Hright.out _).mono ?_
      rw [Hr.out]
      rintro e w3 ⟨rfl, hb3⟩
      go_wp2
      go_ret
      exact ⟨rfl, hb02.trans (hb3.mono hb02.size)⟩
  have Hr := Lib.hid hr
  have hE := solvE_nat hr (k := K) (by omega)
  rw [hE] at Hs
  have Hmore := Lib.hid (fun c' (hn : 0 ≤ n) (hs : solvB p K = true) => (show rightF (moreP p c' n) = true ∧ solvB (moreP p c' n) K = true ∧ solvE (moreP p c' n) K = 0 from by
    obtain ⟨m1, m2, m3, m4, m5, m6⟩ := more_right hr c' hn
    exact ⟨m1, solv_more hr m1 m2 m3 m4 m5 m6 (by omega) hs, solvE_nat m1 (by omega)⟩))
  have Hfewer := Lib.hid (fun (hs : solvB p K = true) => (show solvB p ((K - 1 : Nat) : Int) = true ∧ solvE p ((K - 1 : Nat) : Int) = 0 from ⟨solv_fewer hr (by omega) (by omega) hs, solvE_nat hr (by omega)⟩))
  have Hs2 := Lib.hid (fun w => solvent_any p ((K - 1 : Nat) : Int) w (by omega))
  have Hany := Lib.hid (fun q w => solvent_any q (K : Int) w (by omega))
  obtain ⟨⟨p11, p12⟩, ⟨p21, p22⟩, ⟨p31, p32⟩, ⟨p41, p42⟩, ⟨p51, p52⟩, ⟨p61, p62⟩⟩ := rightF_iff hr
  have hKm : max 0 ((K : Int) - 1) = ((K - 1 : Nat) : Int) := by omega
  have hKw : IntKind.i64.wrap ((K : Int) - 1) = (K : Int) - 1 := IntWalk.i64_in _ (by omega)
  have hC : c % 5 = 0 ∨ c % 5 = 1 ∨ c % 5 = 2 ∨ c % 5 = 3 ∨ c % 5 = 4 := by omega
  obtain ⟨c1', c2'⟩ := h2
  obtain ⟨t1', t2'⟩ := h1
  clear hE hr hK
  obtain ⟨mo, pr, ms, co, wi, to⟩ := p
  simp only [plV, plC] at *
  go_enter Try.func7, Try.ntmps7
  go_wp2_with fail
  refine (small_any _).mono ?_
  rintro e w1 ⟨rfl, hb1⟩
  obtain ⟨hc1, hb01, hl1⟩ := Hcx.out _ hb1
  have c0 := hc1 0 _ rfl; have c1 := hc1 1 _ rfl; have c2 := hc1 2 _ rfl; have c3 := hc1 3 _ rfl; have c4 := hc1 4 _ rfl; have c5 := hc1 5 _ rfl
  clear hc1 hb1
  go_wp2_with fail
  refine (Hfew.out _).mono ?_
  rintro e w2 ⟨b, rfl, hb2⟩
  have hb02 := hb01.trans (hb2.mono hb01.size)
  have d0 := (hb2.cell (p := ⟨w.heap.size, 0, none⟩) hl1).trans c0
  have d1 := (hb2.cell (p := ⟨w.heap.size, 1, none⟩) hl1).trans c1
  have d2 := (hb2.cell (p := ⟨w.heap.size, 2, none⟩) hl1).trans c2
  have d3 := (hb2.cell (p := ⟨w.heap.size, 3, none⟩) hl1).trans c3
  have d4 := (hb2.cell (p := ⟨w.heap.size, 4, none⟩) hl1).trans c4
  have d5 := (hb2.cell (p := ⟨w.heap.size, 5, none⟩) hl1).trans c5
  have hl2 := Nat.lt_of_lt_of_le hl1 hb2.size
  clear c0 c1 c2 c3 c4 c5 hb2 hl1 hb01
  cases b
  · go_wp2
    go_ret
    exact ⟨rfl, hb02⟩
  go_wp2_with fail
  refine (Hright.out _).mono ?_
  rw [Hr.out]
  rintro e w3 ⟨rfl, hb3⟩
  have hb03 := hb02.trans (hb3.mono hb02.size)
  have c0 := (hb3.cell (p := ⟨w.heap.size, 0, none⟩) hl2).trans d0
  have c1 := (hb3.cell (p := ⟨w.heap.size, 1, none⟩) hl2).trans d1
  have c2 := (hb3.cell (p := ⟨w.heap.size, 2, none⟩) hl2).trans d2
  have c3 := (hb3.cell (p := ⟨w.heap.size, 3, none⟩) hl2).trans d3
  have c4 := (hb3.cell (p := ⟨w.heap.size, 4, none⟩) hl2).trans d4
  have c5 := (hb3.cell (p := ⟨w.heap.size, 5, none⟩) hl2).trans d5
  have hl3 := Nat.lt_of_lt_of_le hl2 hb3.size
  clear d0 d1 d2 d3 d4 d5 hb3 hl2 hb02
  have hK : t % 17 = (K : Int) := by rw [← hKt, Int.tmod_eq_emod_of_nonneg t1']
  go_wp2_with fail
  refine (Hs.out _).mono ?_
  rintro e w4 ⟨A4, m4, cap4, rfl, r4, hb4⟩
  have hb04 := hb03.trans (hb4.mono hb03.size)
  have d0 := (hb4.cell (p := ⟨w.heap.size, 0, none⟩) hl3).trans c0
  have d1 := (hb4.cell (p := ⟨w.heap.size, 1, none⟩) hl3).trans c1
  have d2 := (hb4.cell (p := ⟨w.heap.size, 2, none⟩) hl3).trans c2
  have d3 := (hb4.cell (p := ⟨w.heap.size, 3, none⟩) hl3).trans c3
  have d4 := (hb4.cell (p := ⟨w.heap.size, 4, none⟩) hl3).trans c4
  have d5 := (hb4.cell (p := ⟨w.heap.size, 5, none⟩) hl3).trans c5
  have hl4 := Nat.lt_of_lt_of_le hl3 hb4.size
  clear c0 c1 c2 c3 c4 c5 hb4 hl3 hb03
  cases hsol : solvB ⟨mo, pr, ms, co, wi, to⟩ (K : Int)
  · go_wp2
    go_ret
    exact ⟨rfl, hb04⟩
  by_cases hn : n < 0
  · go_wp2
    go_ret
    exact ⟨rfl, hb04⟩
  have hnd : decide (n < 0) = false := by simpa using hn
  obtain ⟨hf1, hf2⟩ := Hfewer.out hsol
  have Hf1 := Lib.hid hf1; have Hf2 := Lib.hid hf2; have Hsol := Lib.hid hsol
  obtain ⟨y, hy⟩ : ∃ y, min n 1000000000000000 = y := ⟨_, rfl⟩
  have hyb : 0 ≤ y ∧ y ≤ 1000000000000000 := by omega
  obtain ⟨y1, y2⟩ := hyb
  clear hf1 hf2 hsol
  rcases hC with hC | hC | hC | hC | hC
  · have hCt : c.tmod 5 = 0 := by rw [Int.tmod_eq_emod_of_nonneg c1']; exact hC
    have hwz : IntKind.i64.wrap (mo + y) = mo + y := IntWalk.i64_in _ (by omega)
    obtain ⟨z, hz⟩ : ∃ z, min (mo + y) 1000000000000000 = z := ⟨_, rfl⟩
    obtain ⟨k1, k2, k3⟩ := Hmore.out 0 (by omega) Hsol.out
    have hmp : moreP ⟨mo, pr, ms, co, wi, to⟩ 0 n = ⟨z, pr, ms, co, wi, to⟩ := by simp only [moreP, if_true]; rw [hy, hz]
    rw [hmp] at k2 k3
    have hq := fun w => Hany.out ⟨z, pr, ms, co, wi, to⟩ w
    rw [k2, k3] at hq
    have Hq := Lib.hid hq
    clear k1 k2 k3 hmp hq
    go_wp2_with fail
    refine (Hq.out _).mono ?_
    rintro e w5 ⟨A5, m5, cap5, rfl, r5, hb5⟩
    have hbq := (Below.refl w4.heap.size w4).alloc (Nat.le_refl _) (.cells #[.int .i64 z, .int .i64 pr, .int .i64 ms, .int .i64 co, .int .i64 wi, .int .i64 to] 23)
    have hb45 := hbq.trans (hb5.mono hbq.size)
    have hb05 := hb04.trans (hb45.mono hb04.size)
    have f0 := (hb45.cell (p := ⟨w.heap.size, 0, none⟩) hl4).trans d0
    have f1 := (hb45.cell (p := ⟨w.heap.size, 1, none⟩) hl4).trans d1
    have f2 := (hb45.cell (p := ⟨w.heap.size, 2, none⟩) hl4).trans d2
    have f3 := (hb45.cell (p := ⟨w.heap.size, 3, none⟩) hl4).trans d3
    have f4 := (hb45.cell (p := ⟨w.heap.size, 4, none⟩) hl4).trans d4
    have f5 := (hb45.cell (p := ⟨w.heap.size, 5, none⟩) hl4).trans d5
    clear d0 d1 d2 d3 d4 d5 hb5 hbq hb45
    go_wp2_with fail
    refine (Hs2.out _).mono ?_
    rw [Hf1.out, Hf2.out]
    rintro e w6 ⟨A6, m6, cap6, rfl, r6, hb6⟩
    go_wp2_with fail
    go_ret
    exact ⟨rfl, hb05.trans (hb6.mono hb05.size)⟩
  · have hCt : c.tmod 5 = 1 := by rw [Int.tmod_eq_emod_of_nonneg c1']; exact hC
    have hwz : IntKind.i64.wrap (pr + y) = pr + y := IntWalk.i64_in _ (by omega)
    obtain ⟨z, hz⟩ : ∃ z, min (pr + y) 1000000000000000 = z := ⟨_, rfl⟩
    obtain ⟨k1, k2, k3⟩ := Hmore.out 1 (by omega) Hsol.out
    have hmp : moreP ⟨mo, pr, ms, co, wi, to⟩ 1 n = ⟨mo, z, ms, co, wi, to⟩ := by simp only [moreP, if_true]; rw [if_neg (by omega), hy, hz]
    rw [hmp] at k2 k3
    have hq := fun w => Hany.out ⟨mo, z, ms, co, wi, to⟩ w
    rw [k2, k3] at hq
    have Hq := Lib.hid hq
    clear k1 k2 k3 hmp hq
    go_wp2_with fail
    refine (Hq.out _).mono ?_
    rintro e w5 ⟨A5, m5, cap5, rfl, r5, hb5⟩
    have hbq := (Below.refl w4.heap.size w4).alloc (Nat.le_refl _) (.cells #[.int .i64 mo, .int .i64 z, .int .i64 ms, .int .i64 co, .int .i64 wi, .int .i64 to] 23)
    have hb45 := hbq.trans (hb5.mono hbq.size)
    have hb05 := hb04.trans (hb45.mono hb04.size)
    have f0 := (hb45.cell (p := ⟨w.heap.size, 0, none⟩) hl4).trans d0
    have f1 := (hb45.cell (p := ⟨w.heap.size, 1, none⟩) hl4).trans d1
    have f2 := (hb45.cell (p := ⟨w.heap.size, 2, none⟩) hl4).trans d2
    have f3 := (hb45.cell (p := ⟨w.heap.size, 3, none⟩) hl4).trans d3
    have f4 := (hb45.cell (p := ⟨w.heap.size, 4, none⟩) hl4).trans d4
    have f5 := (hb45.cell (p := ⟨w.heap.size, 5, none⟩) hl4).trans d5
    clear d0 d1 d2 d3 d4 d5 hb5 hbq hb45
    go_wp2_with fail
    refine (Hs2.out _).mono ?_
    rw [Hf1.out, Hf2.out]
    rintro e w6 ⟨A6, m6, cap6, rfl, r6, hb6⟩
    go_wp2_with fail
    go_ret
    exact ⟨rfl, hb05.trans (hb6.mono hb05.size)⟩
  · have hCt : c.tmod 5 = 2 := by rw [Int.tmod_eq_emod_of_nonneg c1']; exact hC
    have hwz : IntKind.i64.wrap (to - n) = to - n := IntWalk.i64_in _ (by omega)
    obtain ⟨z, hz⟩ : ∃ z, max 0 (to - n) = z := ⟨_, rfl⟩
    obtain ⟨k1, k2, k3⟩ := Hmore.out 2 (by omega) Hsol.out
    have hmp : moreP ⟨mo, pr, ms, co, wi, to⟩ 2 n = ⟨mo, pr, ms, co, wi, z⟩ := by simp only [moreP, if_true]; rw [if_neg (by omega), if_neg (by omega), hz]
    rw [hmp] at k2 k3
    have hq := fun w => Hany.out ⟨mo, pr, ms, co, wi, z⟩ w
    rw [k2, k3] at hq
    have Hq := Lib.hid hq
    clear k1 k2 k3 hmp hq
    go_wp2_with fail
    refine (Hq.out _).mono ?_
    rintro e w5 ⟨A5, m5, cap5, rfl, r5, hb5⟩
    have hbq := (Below.refl w4.heap.size w4).alloc (Nat.le_refl _) (.cells #[.int .i64 mo, .int .i64 pr, .int .i64 ms, .int .i64 co, .int .i64 wi, .int .i64 z] 23)
    have hb45 := hbq.trans (hb5.mono hbq.size)
    have hb05 := hb04.trans (hb45.mono hb04.size)
    have f0 := (hb45.cell (p := ⟨w.heap.size, 0, none⟩) hl4).trans d0
    have f1 := (hb45.cell (p := ⟨w.heap.size, 1, none⟩) hl4).trans d1
    have f2 := (hb45.cell (p := ⟨w.heap.size, 2, none⟩) hl4).trans d2
    have f3 := (hb45.cell (p := ⟨w.heap.size, 3, none⟩) hl4).trans d3
    have f4 := (hb45.cell (p := ⟨w.heap.size, 4, none⟩) hl4).trans d4
    have f5 := (hb45.cell (p := ⟨w.heap.size, 5, none⟩) hl4).trans d5
    clear d0 d1 d2 d3 d4 d5 hb5 hbq hb45
    go_wp2_with fail
    refine (Hs2.out _).mono ?_
    rw [Hf1.out, Hf2.out]
    rintro e w6 ⟨A6, m6, cap6, rfl, r6, hb6⟩
    go_wp2_with fail
    go_ret
    exact ⟨rfl, hb05.trans (hb6.mono hb05.size)⟩
  · have hCt : c.tmod 5 = 3 := by rw [Int.tmod_eq_emod_of_nonneg c1']; exact hC
    have hwz : IntKind.i64.wrap (co - n) = co - n := IntWalk.i64_in _ (by omega)
    obtain ⟨z, hz⟩ : ∃ z, max 1 (co - n) = z := ⟨_, rfl⟩
    obtain ⟨k1, k2, k3⟩ := Hmore.out 3 (by omega) Hsol.out
    have hmp : moreP ⟨mo, pr, ms, co, wi, to⟩ 3 n = ⟨mo, pr, ms, z, wi, to⟩ := by simp only [moreP, if_true]; rw [if_neg (by omega), if_neg (by omega), if_neg (by omega), hz]
    rw [hmp] at k2 k3
    have hq := fun w => Hany.out ⟨mo, pr, ms, z, wi, to⟩ w
    rw [k2, k3] at hq
    have Hq := Lib.hid hq
    clear k1 k2 k3 hmp hq
    go_wp2_with fail
    refine (Hq.out _).mono ?_
    rintro e w5 ⟨A5, m5, cap5, rfl, r5, hb5⟩
    have hbq := (Below.refl w4.heap.size w4).alloc (Nat.le_refl _) (.cells #[.int .i64 mo, .int .i64 pr, .int .i64 ms, .int .i64 z, .int .i64 wi, .int .i64 to] 23)
    have hb45 := hbq.trans (hb5.mono hbq.size)
    have hb05 := hb04.trans (hb45.mono hb04.size)
    have f0 := (hb45.cell (p := ⟨w.heap.size, 0, none⟩) hl4).trans d0
    have f1 := (hb45.cell (p := ⟨w.heap.size, 1, none⟩) hl4).trans d1
    have f2 := (hb45.cell (p := ⟨w.heap.size, 2, none⟩) hl4).trans d2
    have f3 := (hb45.cell (p := ⟨w.heap.size, 3, none⟩) hl4).trans d3
    have f4 := (hb45.cell (p := ⟨w.heap.size, 4, none⟩) hl4).trans d4
    have f5 := (hb45.cell (p := ⟨w.heap.size, 5, none⟩) hl4).trans d5
    clear d0 d1 d2 d3 d4 d5 hb5 hbq hb45
    go_wp2_with fail
    refine (Hs2.out _).mono ?_
    rw [Hf1.out, Hf2.out]
    rintro e w6 ⟨A6, m6, cap6, rfl, r6, hb6⟩
    go_wp2_with fail
    go_ret
    exact ⟨rfl, hb05.trans (hb6.mono hb05.size)⟩
  · have hCt : c.tmod 5 = 4 := by rw [Int.tmod_eq_emod_of_nonneg c1']; exact hC
    have hwz : IntKind.i64.wrap (ms - n) = ms - n := IntWalk.i64_in _ (by omega)
    obtain ⟨z, hz⟩ : ∃ z, max 1 (ms - n) = z := ⟨_, rfl⟩
    obtain ⟨k1, k2, k3⟩ := Hmore.out 4 (by omega) Hsol.out
    have hmp : moreP ⟨mo, pr, ms, co, wi, to⟩ 4 n = ⟨mo, pr, z, co, wi, to⟩ := by simp only [moreP]; rw [if_neg (by omega), if_neg (by omega), if_neg (by omega), if_neg (by omega), hz]
    rw [hmp] at k2 k3
    have hq := fun w => Hany.out ⟨mo, pr, z, co, wi, to⟩ w
    rw [k2, k3] at hq
    have Hq := Lib.hid hq
    clear k1 k2 k3 hmp hq
    go_wp2_with fail
    refine (Hq.out _).mono ?_
    rintro e w5 ⟨A5, m5, cap5, rfl, r5, hb5⟩
    have hbq := (Below.refl w4.heap.size w4).alloc (Nat.le_refl _) (.cells #[.int .i64 mo, .int .i64 pr, .int .i64 z, .int .i64 co, .int .i64 wi, .int .i64 to] 23)
    have hb45 := hbq.trans (hb5.mono hbq.size)
    have hb05 := hb04.trans (hb45.mono hb04.size)
    have f0 := (hb45.cell (p := ⟨w.heap.size, 0, none⟩) hl4).trans d0
    have f1 := (hb45.cell (p := ⟨w.heap.size, 1, none⟩) hl4).trans d1
    have f2 := (hb45.cell (p := ⟨w.heap.size, 2, none⟩) hl4).trans d2
    have f3 := (hb45.cell (p := ⟨w.heap.size, 3, none⟩) hl4).trans d3
    have f4 := (hb45.cell (p := ⟨w.heap.size, 4, none⟩) hl4).trans d4
    have f5 := (hb45.cell (p := ⟨w.heap.size, 5, none⟩) hl4).trans d5
    clear d0 d1 d2 d3 d4 d5 hb5 hbq hb45
    go_wp2_with fail
    refine (Hs2.out _).mono ?_
    rw [Hf1.out, Hf2.out]
    rintro e w6 ⟨A6, m6, cap6, rfl, r6, hb6⟩
    go_wp2_with fail
    go_ret
    exact ⟨rfl, hb05.trans (hb6.mono hb05.size)⟩
end Go.Proofs.Ythhmdljfklbbeaa
