/- Walk over the statement LagsMore. Conditions stand in the theorem. -/
import Derived.Test.YthmnkmomgaamlaaL5
namespace Go.Proofs.Ythmnkmomgaamlaa
open Go.RowKit
set_option linter.unusedVariables false

theorem feas_more {m : Nat} {l : List Lg} {x : Lg} {F : Nat → Int} (h : Feas (stepsF m (l ++ [x])) F) : Feas (stepsF m l) F := by
  rw [feas_mem] at h ⊢
  intro s hs
  refine h s ?_
  rcases steps_mem.1 hs with ⟨y, hy, hs⟩ | h2
  · exact steps_mem.2 (Or.inl ⟨y, List.mem_append_left _ hy, hs⟩)
  · exact steps_mem.2 (Or.inr h2)
def gtR (b : Bool) : Int := if b then 0 else 22
set_option maxRecDepth 100000 in
set_option maxHeartbeats 8000000 in
theorem lagsMore_walk (m : Int) (A : Option Addr) (n cap : Nat) (l : List Lg) (x : Lg) (en : Int) (w : World) (h1 : -9223372036854775808 ≤ m ∧ m ≤ 9223372036854775807) (rl : RdL w w.heap.size A n cap l) (hroom : n * 32 ≤ 140737488351232) (h0 : True)
    (h2 : -9223372036854775808 ≤ en ∧ en ≤ 9223372036854775807) :
    Calls Try.prog 7 #[.int .i64 m, .slice A n cap, .agg #[.int .i64 x.1, .int .i64 x.2.1, .int .i64 x.2.2.1, .int .i64 x.2.2.2], .int .i64 en] w fun e w' => e = .returned (.bool true) ∧ Below w.heap.size w w' := by
  obtain ⟨i0, hi0, hz0, hz1, hz2⟩ := info_parts lag_info
  have hcaps := rl.caps
  have hll := rl.len
  have hml : (l ++ [x]).length = n + 1 := by rw [List.length_append, hll]; rfl
  have Hb1 := Lib.hid (fun w h => bounded_any m A n cap l w h)
  have Hb2 := Lib.hid (fun A c w h => bounded_any m A (n + 1) c (l ++ [x]) w h)
  obtain ⟨β1, hβ1⟩ : ∃ b, boundF m l = b := ⟨_, rfl⟩
  obtain ⟨β2, hβ2⟩ : ∃ b, boundF m (l ++ [x]) = b := ⟨_, rfl⟩
  rw [hβ1] at Hb1
  rw [hβ2] at Hb2
  have Hβ1 := Lib.hid hβ1; have Hβ2 := Lib.hid hβ2
  clear hβ1 hβ2
  have Hs1 := Lib.hid (fun w h => solve_any m A n cap l w h)
  have Hs2 := Lib.hid (fun A c w h => solve_any m A (n + 1) c (l ++ [x]) w h)
  have Hl1 := Lib.hid (fun w h => latest_any m A n cap l en w h)
  have Hl2 := Lib.hid (fun A c w h => latest_any m A (n + 1) c (l ++ [x]) en w h)
  have hp0 : Below w.heap.size w (w.alloc (.cells #[.int .i64 x.1, .int .i64 x.2.1, .int .i64 x.2.2.1, .int .i64 x.2.2.2] 47)) := (Below.refl w.heap.size w).alloc (Nat.le_refl _) _
  have hpl : w.heap.size < (w.alloc (.cells #[.int .i64 x.1, .int .i64 x.2.1, .int .i64 x.2.2.1, .int .i64 x.2.2.2] 47)).heap.size := by simp
  have hpc : ∀ (j : Nat) u, (#[.int .i64 x.1, .int .i64 x.2.1, .int .i64 x.2.2.1, .int .i64 x.2.2.2] : Array Value)[j]? = some u → (w.alloc (.cells #[.int .i64 x.1, .int .i64 x.2.1, .int .i64 x.2.2.1, .int .i64 x.2.2.2] 47)).cell? ⟨w.heap.size, j, none⟩ = some u := fun j u hu => new_cell rfl hu
  have Hpc := Lib.hid hpc
  clear hpc
  go_enter Try.func7, Try.ntmps7
  go_wp2_with fail
  refine (small_any _).mono ?_
  rintro e w1 ⟨rfl, hb1⟩
  have k0 := (hb1.cell (p := ⟨w.heap.size, 0, none⟩) hpl).trans (Hpc.out 0 _ rfl)
  have k1 := (hb1.cell (p := ⟨w.heap.size, 1, none⟩) hpl).trans (Hpc.out 1 _ rfl)
  have k2 := (hb1.cell (p := ⟨w.heap.size, 2, none⟩) hpl).trans (Hpc.out 2 _ rfl)
  have k3 := (hb1.cell (p := ⟨w.heap.size, 3, none⟩) hpl).trans (Hpc.out 3 _ rfl)
  have hb01 : Below w.heap.size w w1 := hp0.trans (hb1.mono hp0.size)
  have hpl1 : w.heap.size < w1.heap.size := Nat.lt_of_lt_of_le hpl hb1.size
  have rl1 := rl.up (flat_lasts _) hb01
  clear hb1 hp0 hpl
  have lit0 : Own 4 lEnc (w1.drew.alloc (.cells #[] 47)) w1.heap.size 47 (.slice (some ⟨w1.heap.size, 0, none⟩) 0 0) ([] : List Lg) := Own.lit (w := w1.drew) (n := 0) lSized (Nat.le_refl w1.heap.size) [] #[] rfl rfl (by omega)
  have lit1 := lit0.alloc (.cells #[.int .i64 x.1, .int .i64 x.2.1, .int .i64 x.2.2.1, .int .i64 x.2.2.2] 47)
  have lit2 : Own 4 lEnc ((w1.drew.alloc (.cells #[.int .i64 x.1, .int .i64 x.2.1, .int .i64 x.2.2.1, .int .i64 x.2.2.2] 47)).alloc (.cells #[] 47)) w1.heap.size 47 (.slice (some ⟨w1.heap.size + 1, 0, none⟩) 0 0) ([] : List Lg) := by
    have h := Own.lit (w := w1.drew.alloc (.cells #[.int .i64 x.1, .int .i64 x.2.1, .int .i64 x.2.2.1, .int .i64 x.2.2.2] 47)) (base := w1.heap.size) (n := 0) (e := 47) lSized (by simp) [] #[] rfl rfl (by omega)
    simpa using h
  have bl0 : Below w1.heap.size w1 (w1.drew.alloc (.cells #[] 47)) := (Below.refl w1.heap.size w1).drew.alloc (Nat.le_refl w1.heap.size) _
  have bl1 := bl0.alloc (by simp) (.cells #[.int .i64 x.1, .int .i64 x.2.1, .int .i64 x.2.2.1, .int .i64 x.2.2.2] 47)
  have blx : Below w1.heap.size w1 (w1.drew.alloc (.cells #[.int .i64 x.1, .int .i64 x.2.1, .int .i64 x.2.2.1, .int .i64 x.2.2.2] 47)) := (Below.refl w1.heap.size w1).drew.alloc (Nat.le_refl w1.heap.size) _
  have bl2 : Below w1.heap.size w1 ((w1.drew.alloc (.cells #[.int .i64 x.1, .int .i64 x.2.1, .int .i64 x.2.2.1, .int .i64 x.2.2.2] 47)).alloc (.cells #[] 47)) := blx.alloc (by simp) _
  have rx1 : Rd 4 (flat lEnc) ((w1.drew.alloc (.cells #[] 47)).alloc (.cells #[.int .i64 x.1, .int .i64 x.2.1, .int .i64 x.2.2.1, .int .i64 x.2.2.2] 47)) (w1.heap.size + 2) (some ⟨w1.heap.size + 1, 0, none⟩) 1 1 [x] := by
    have h := Rd.new1 lSized (w1.drew.alloc (.cells #[] 47)) x #[.int .i64 x.1, .int .i64 x.2.1, .int .i64 x.2.2.1, .int .i64 x.2.2.2] rfl 47
    simpa using h
  have rx2 : Rd 4 (flat lEnc) ((w1.drew.alloc (.cells #[.int .i64 x.1, .int .i64 x.2.1, .int .i64 x.2.2.1, .int .i64 x.2.2.2] 47)).alloc (.cells #[] 47)) (w1.heap.size + 2) (some ⟨w1.heap.size, 0, none⟩) 1 1 [x] :=
    (Rd.new1 lSized w1.drew x #[.int .i64 x.1, .int .i64 x.2.1, .int .i64 x.2.2.1, .int .i64 x.2.2.2] rfl 47).keep (flat_lasts _) (by show w1.heap.size + 1 ≤ _; omega) (fun p hp => World.cell?_alloc_lt _ _ _ (by simpa using hp))
  have hrx1 : ∀ w5, ((w1.drew.alloc (.cells #[] 47)).alloc (.cells #[.int .i64 x.1, .int .i64 x.2.1, .int .i64 x.2.2.1, .int .i64 x.2.2.2] 47)).grownBy w5 (some w1.heap.size) → Rd 4 (flat lEnc) w5 w5.heap.size (some ⟨w1.heap.size + 1, 0, none⟩) 1 1 [x] := fun w5 hg => by
    have hs := hg.size
    refine rx1.keptS (grown_kept hg) (by simp) (by simp at hs; omega) (fun _ bb off e h => ?_)
    injection e with e; injection e with e; injection h with h
    omega
  have hrx2 : ∀ w5, ((w1.drew.alloc (.cells #[.int .i64 x.1, .int .i64 x.2.1, .int .i64 x.2.2.1, .int .i64 x.2.2.2] 47)).alloc (.cells #[] 47)).grownBy w5 (some (w1.heap.size + 1)) → Rd 4 (flat lEnc) w5 w5.heap.size (some ⟨w1.heap.size, 0, none⟩) 1 1 [x] := fun w5 hg => by
    have hs := hg.size
    refine rx2.keptS (grown_kept hg) (by simp) (by simp at hs; omega) (fun _ bb off e h => ?_)
    injection e with e; injection e with e; injection h with h
    omega
  go_wp2_with fail
  go_region_held3 (fun w' => (w'.cell? ⟨w.heap.size, 0, none⟩ = some (.int .i64 x.1) ∧ w'.cell? ⟨w.heap.size, 1, none⟩ = some (.int .i64 x.2.1) ∧ w'.cell? ⟨w.heap.size, 2, none⟩ = some (.int .i64 x.2.2.1) ∧ w'.cell? ⟨w.heap.size, 3, none⟩ = some (.int .i64 x.2.2.2)) ∧ Below w1.heap.size w1 w')
    (first
      | exact ⟨⟨k0, k1, k2, k3⟩, (Below.refl _ _).drew⟩
      | exact ⟨⟨(bl0.cell hpl1).trans k0, (bl0.cell hpl1).trans k1, (bl0.cell hpl1).trans k2, (bl0.cell hpl1).trans k3⟩, bl0⟩
      | exact ⟨⟨(bl1.cell hpl1).trans k0, (bl1.cell hpl1).trans k1, (bl1.cell hpl1).trans k2, (bl1.cell hpl1).trans k3⟩, bl1⟩
      | exact ⟨⟨(bl2.cell hpl1).trans k0, (bl2.cell hpl1).trans k1, (bl2.cell hpl1).trans k2, (bl2.cell hpl1).trans k3⟩, bl2⟩
      | exact ⟨⟨(blx.cell hpl1).trans k0, (blx.cell hpl1).trans k1, (blx.cell hpl1).trans k2, (blx.cell hpl1).trans k3⟩, blx⟩
      | exact ⟨⟨(hb5.cell hpl1).trans k0, (hb5.cell hpl1).trans k1, (hb5.cell hpl1).trans k2, (hb5.cell hpl1).trans k3⟩, hb5⟩
      | exact ⟨⟨((hb5.alloc hb5.size _).cell hpl1).trans k0, ((hb5.alloc hb5.size _).cell hpl1).trans k1, ((hb5.alloc hb5.size _).cell hpl1).trans k2, ((hb5.alloc hb5.size _).cell hpl1).trans k3⟩, hb5.alloc hb5.size _⟩
      | exact ⟨⟨(hb6.cell hpl1).trans k0, (hb6.cell hpl1).trans k1, (hb6.cell hpl1).trans k2, (hb6.cell hpl1).trans k3⟩, hb6⟩
      | go_keep)
    (first
      | (refine step_app _ lSized (by rfl) _ _ 22 (by rfl) w1.heap.size 47 i0 _ 32 Try.underlying22 hi0 hz0 hz1 hz2 rfl _ ([] : List Lg) (by rfl) (by first | exact lit0 | exact lit1 | exact lit2) w1.heap.size _ n _ l (by rfl) (by first | exact rl1.below (flat_lasts _) bl0 (Nat.le_refl _) (Nat.le_refl _) | exact rl1.below (flat_lasts _) bl1 (Nat.le_refl _) (Nat.le_refl _) | exact rl1.below (flat_lasts _) bl2 (Nat.le_refl _) (Nat.le_refl _)) (by simp only [maxLen, List.length_nil]; omega) (by simp only [List.length_nil]; omega) (by simp <;> omega) ?_
         intro v5 w5 ho5 hg5 hx5
         have hb5 : Below w1.heap.size w1 w5 := by first | exact Own.grow lit0 (Nat.le_refl _) bl0 (by simp <;> omega) hg5 | exact Own.grow lit1 (Nat.le_refl _) bl1 (by simp <;> omega) hg5 | exact Own.grow lit2 (Nat.le_refl _) bl2 (by simp <;> omega) hg5
         rw [List.nil_append] at ho5
         first
           | have hrx := hrx1 w5 hg5
           | have hrx := hrx2 w5 hg5
           | skip
         clear hx5)
      | (refine step_app _ lSized (by rfl) _ _ 22 (by rfl) w1.heap.size 47 i0 _ 32 Try.underlying22 hi0 hz0 hz1 hz2 rfl _ l (by rfl) (by first | exact ho5 | exact ho5.alloc _) _ _ 1 1 [x] (by rfl) (by first | exact hrx | exact Rd.new1 lSized w5 x #[.int .i64 x.1, .int .i64 x.2.1, .int .i64 x.2.2.1, .int .i64 x.2.2.2] rfl 47) (by rw [hll]; simp only [maxLen]; omega) (by rw [hll]; omega) (by first | exact hb5.size | (have := hb5.size; simp; omega)) ?_
         intro v6 w6 ho6 hg6 hx6
         have hb6 : Below w1.heap.size w1 w6 := by first | exact Own.grow ho5 (Nat.le_refl _) hb5 hb5.size hg6 | exact Own.grow (ho5.alloc _) (Nat.le_refl _) (hb5.alloc hb5.size _) (by have := hb5.size; simp; omega) hg6
         obtain ⟨A6, c6, hv6, r6⟩ := ho6.rd lSized (by rw [hml]; omega)
         rw [hml] at hv6 r6
         subst hv6
         clear hg6 hx6 ho6))
  all_goals
    have hb06 := hb01.trans (hb6.mono hb01.size)
    have rl6 := rl.up (flat_lasts _) hb06
    clear hb6 hb5 ho5 lit0 lit1 lit2 bl0 bl1 bl2 blx rx1 rx2 hrx1 hrx2 k0 k1 k2 k3 rl1
    go_wp2_with fail
    refine (Hb1.out _ rl6).mono ?_
    rintro e w7 ⟨rfl, hb7⟩
    have hb07 := hb06.trans (hb7.mono hb06.size)
    have rl7 := rl6.up (flat_lasts _) hb7
    have r7 := r6.up (flat_lasts _) hb7
    clear hb7 rl6 r6
    cases β1
    · go_wp2
      go_ret
      exact ⟨rfl, hb07⟩
    go_wp2_with fail
    refine (Hb2.out _ _ _ r7).mono ?_
    rintro e w8 ⟨rfl, hb8⟩
    have hb08 := hb07.trans (hb8.mono hb07.size)
    have rl8 := rl7.up (flat_lasts _) hb8
    have r8 := r7.up (flat_lasts _) hb8
    clear hb8 rl7 r7
    cases β2
    · go_wp2
      go_ret
      exact ⟨rfl, hb08⟩
    by_cases hen : 0 ≤ en ∧ en ≤ 1048576
    case neg =>
      have hd : decide (en < 0) = true ∨ (decide (en < 0) = false ∧ decide (1048576 < en) = true) := by
        simp only [decide_eq_true_eq, decide_eq_false_iff_not]; omega
      clear hen
      rcases hd with hd | ⟨hd1, hd2⟩
      all_goals
        go_wp2
        go_ret
        exact ⟨rfl, hb08⟩
    obtain ⟨hm30, hl60, hr1⟩ := boundF_iff Hβ1.out
    obtain ⟨-, hl61, hr2⟩ := boundF_iff Hβ2.out
    obtain ⟨m, rfl⟩ := Int.eq_ofNat_of_zero_le (show 0 ≤ m by omega)
    have hd1 : decide (en < 0) = false := by simp; omega
    have hd2 : decide (1048576 < en) = false := by simp; omega
    have Hen := Lib.hid hen
    have Hr1 := Lib.hid hr1; have Hr2 := Lib.hid hr2
    have hmm : ((m : Int) != (m : Int)) = false := by simp
    have hm1 : 1 ≤ m ∧ m ≤ 30 := by omega
    obtain ⟨m1, m2⟩ := hm1
    clear hen hr1 hr2
    go_wp2_with fail
    refine (Hs1.out _ rl8).mono ?_
    rintro e w9 ⟨v1, v2, er1, rfl, hb9, hc1⟩
    have hb09 := hb08.trans (hb9.mono hb08.size)
    have rl9 := rl8.up (flat_lasts _) hb9
    have r9 := r8.up (flat_lasts _) hb9
    clear hb9 rl8 r8
    rw [Int.toNat_natCast] at hc1
    rcases hc1 with ⟨h, _⟩ | ⟨_, hc1⟩
    · rw [Hr1.out] at h; cases h
    rcases hc1 with ⟨rfl, rfl, T1, g1, rfl, rT1, hT1, hTb1⟩ | ⟨rfl, rfl, C1, AC1, kk1, cc1, rfl, -, -, rC1, -, B1, w1', hbad1⟩
    case inr =>
      have Hbad1 := Lib.hid hbad1
      clear hbad1 rC1
      go_wp2_with fail
      refine (Hs2.out _ _ _ r9).mono ?_
      rintro e w10 ⟨v3, v4, er2, rfl, hb10, hc2⟩
      have hb010 := hb09.trans (hb10.mono hb09.size)
      have rl10 := rl9.up (flat_lasts _) hb10
      have r10 := r9.up (flat_lasts _) hb10
      clear hb10 rl9 r9
      rw [Int.toNat_natCast] at hc2
      rcases hc2 with ⟨h, _⟩ | ⟨_, hc2⟩
      · rw [Hr2.out] at h; cases h
      rcases hc2 with ⟨rfl, rfl, T2, g2, rfl, rT2, hT2, hTb2⟩ | ⟨rfl, rfl, C2, AC2, kk2, cc2, rfl, -, -, rC2, -, B2, w2', hbad2⟩
      · exact (bad_feas Hbad1.out (feas_more hT2.1)).elim
      have Hbad2 := Lib.hid hbad2
      clear hbad2 rC2
      go_wp2_with fail
      refine (Hl1.out _ rl10).mono ?_
      intro e w11 hlp
      obtain ⟨rfl, hb11⟩ := lat_bad Hr1.out Hen.out Hbad1.out hlp
      have hb011 := hb010.trans (hb11.mono hb010.size)
      have r11 := r10.up (flat_lasts _) hb11
      clear hlp hb11 r10 rl10
      go_wp2_with fail
      refine (Hl2.out _ _ _ r11).mono ?_
      intro e w12 hlp
      obtain ⟨rfl, hb12⟩ := lat_bad Hr2.out Hen.out Hbad2.out hlp
      clear hlp
      go_wp2
      go_ret
      exact ⟨rfl, hb011.trans (hb12.mono hb011.size)⟩
    have HT1 := Lib.hid hT1
    clear hT1 hTb1
    go_wp2_with fail
    refine (Hs2.out _ _ _ r9).mono ?_
    rintro e w10 ⟨v3, v4, er2, rfl, hb10, hc2⟩
    have hb010 := hb09.trans (hb10.mono hb09.size)
    have rl10 := rl9.up (flat_lasts _) hb10
    have r10 := r9.up (flat_lasts _) hb10
    have rT1 := rT1.up (flat_lasts _) hb10
    clear hb10 rl9 r9
    rw [Int.toNat_natCast] at hc2
    rcases hc2 with ⟨h, _⟩ | ⟨_, hc2⟩
    · rw [Hr2.out] at h; cases h
    go_wp2_with fail
    refine (Hl1.out _ rl10).mono ?_
    intro e w11 hlp
    have hly1 := lat_yes Hr1.out Hen.out HT1.out hlp
    have hb11 : Below w10.heap.size w10 w11 := by
      obtain ⟨_, _, _, h, _⟩ := hlp
      exact h
    have hb011 := hb010.trans (hb11.mono hb010.size)
    have r11 := r10.up (flat_lasts _) hb11
    have rl11 := rl10.up (flat_lasts _) hb11
    have rT1 := rT1.up (flat_lasts _) hb11
    rcases hc2 with ⟨rfl, rfl, T2, g2, rfl, rT2, hT2, hTb2⟩ | ⟨rfl, rfl, C2, AC2, kk2, cc2, rfl, -, -, rC2, -, B2, w2', hbad2⟩
    case inr =>
      have Hbad2 := Lib.hid hbad2
      clear hbad2 rC2 hlp
      rcases hly1 with ⟨rfl, -, -⟩ | ⟨L1, AL1, cL1, rfl, -, -, -, -⟩
      all_goals
        go_wp2_with fail
        refine (Hl2.out _ _ _ r11).mono ?_
        intro e w12 hlp
        obtain ⟨rfl, hb12⟩ := lat_bad Hr2.out Hen.out Hbad2.out hlp
        clear hlp
        go_wp2
        go_ret
        exact ⟨rfl, hb011.trans (hb12.mono hb011.size)⟩
    have rT2 := rT2.up (flat_lasts _) hb11
    have hTw := least_bd m2 hl61 hT2 hTb2
    have Hct := Lib.hid (fun w h h2 => check_any m A (some ⟨g2, 0, none⟩) n cap m m l (ofF m T2) w h h2 hTw)
    rw [check_of Hr1.out (feas_more hT2.1) hT2.2.1] at Hct
    have HT2 := Lib.hid hT2
    have Hle : RowKit.Hid (∀ i, i < m → T1 i ≤ T2 i) := Lib.hid (HT1.out.2.2.2 T2 (feas_more hT2.1) hT2.2.2.1)
    clear hT2 hTb2 hTw hlp hb11 hb010 rl10 r10
    rcases hly1 with ⟨rfl, hex1, -⟩ | ⟨L1, AL1, cL1, rfl, rL1, hG1, hTL1, -⟩
    · have Hex1 := Lib.hid hex1
      clear hex1
      go_wp2_with fail
      refine (Hl2.out _ _ _ r11).mono ?_
      intro e w12 hlp
      have hly2 := lat_yes Hr2.out Hen.out HT2.out hlp
      clear hlp
      rcases hly2 with ⟨rfl, -, hb12⟩ | ⟨L2, AL2, cL2, rfl, rL2, hG2, hTL2, hb12⟩
      case inr =>
        exfalso
        obtain ⟨i, hi, h⟩ := Hex1.out
        have := (hTL2 i hi).1
        have := Hle.out i hi
        omega
      have hb012 := hb011.trans (hb12.mono hb011.size)
      have rl12 := rl11.up (flat_lasts _) hb12
      have rT1 := rT1.up (flat_lasts _) hb12
      have rT2 := rT2.up (flat_lasts _) hb12
      clear hb12
      go_wp2_with fail
      refine (Hct.out _ rl12 rT2).mono ?_
      rintro e w13 ⟨rfl, hb13⟩
      have hb013 := hb012.trans (hb13.mono hb012.size)
      have rT1 := rT1.up (flat_lasts _) hb13
      have rT2 := rT2.up (flat_lasts _) hb13
      go_wp2
      go_loopg [21] m (fun gk i wr => ∃ i' : Nat, i' ≤ m ∧ gk = m - i' ∧ i = .int .i64 i' ∧ ∃ q, wr = w13.drewN q)
      case atStart => exact ⟨0, Nat.zero_le _, rfl, rfl, dr_zero w13⟩
      case round =>
        obtain ⟨i, hi, rfl, rfl, hdr⟩ := hrel
        have Hq := Lib.hid hdr
        clear hdr
        by_cases hlt : i < m
        · obtain ⟨ba, oa, y, hA, hba, hy, c0⟩ := rT1.atI hlt
          injection hA with hA; injection hA with hA1 hA2
          subst hA1 hA2
          obtain ⟨bb, ob, z, hB, hbb, hz, d0⟩ := rT2.atI hlt
          injection hB with hB; injection hB with hB1 hB2
          subst hB1 hB2
          obtain ⟨-, ey⟩ := ofF_get_some hy
          obtain ⟨-, ez⟩ := ofF_get_some hz
          have hle := Hle.out i hlt
          rw [← ey, ← ez] at hle
          have hii : (i : Int) < (m : Int) := by omega
          have hi0' : (0 : Int) ≤ (i : Int) := by omega
          have hdx : decide (z < y) = false := by simp; omega
          have c0' := (dr_cell Hq.out ⟨g1, 0 + i, none⟩).trans c0
          have d0' := (dr_cell Hq.out ⟨g2, 0 + i, none⟩).trans d0
          rw [Nat.zero_add] at c0' d0'
          clear hy hz ey ez
          go_wp2
          go_quiet (fail)
          go_wp2
          go_roundg (m - (i + 1))
          case rel => exact ⟨i + 1, by omega, rfl, by go_num, dr_more Hq.out _⟩
          case measure => omega
        · have e : i = m := by omega
          subst e
          go_wp2
          go_ret
          obtain ⟨q, rfl⟩ := Hq.out
          exact ⟨rfl, below_drewN hb013 q⟩
    · have HG1 := Lib.hid hG1
      clear hG1 hTL1
      go_wp2_with fail
      refine (Hl2.out _ _ _ r11).mono ?_
      intro e w12 hlp
      have hly2 := lat_yes Hr2.out Hen.out HT2.out hlp
      have hb12' : Below w11.heap.size w11 w12 := by
        obtain ⟨_, _, _, h, _⟩ := hlp
        exact h
      have rL1 := rL1.up (flat_lasts _) hb12'
      clear hlp hb12'
      rcases hly2 with ⟨rfl, -, hb12⟩ | ⟨L2, AL2, cL2, rfl, rL2, hG2, hTL2, hb12⟩
      · skip
        have hb012 := hb011.trans (hb12.mono hb011.size)
        have rl12 := rl11.up (flat_lasts _) hb12
        have rT1 := rT1.up (flat_lasts _) hb12
        have rT2 := rT2.up (flat_lasts _) hb12
        clear hb12
        go_wp2_with fail
        refine (Hct.out _ rl12 rT2).mono ?_
        rintro e w13 ⟨rfl, hb13⟩
        have hb013 := hb012.trans (hb13.mono hb012.size)
        have rT1 := rT1.up (flat_lasts _) hb13
        have rT2 := rT2.up (flat_lasts _) hb13
        go_wp2
        go_loopg [21] m (fun gk i wr => ∃ i' : Nat, i' ≤ m ∧ gk = m - i' ∧ i = .int .i64 i' ∧ ∃ q, wr = w13.drewN q)
        case atStart => exact ⟨0, Nat.zero_le _, rfl, rfl, dr_zero w13⟩
        case round =>
          obtain ⟨i, hi, rfl, rfl, hdr⟩ := hrel
          have Hq := Lib.hid hdr
          clear hdr
          by_cases hlt : i < m
          · obtain ⟨ba, oa, y, hA, hba, hy, c0⟩ := rT1.atI hlt
            injection hA with hA; injection hA with hA1 hA2
            subst hA1 hA2
            obtain ⟨bb, ob, z, hB, hbb, hz, d0⟩ := rT2.atI hlt
            injection hB with hB; injection hB with hB1 hB2
            subst hB1 hB2
            obtain ⟨-, ey⟩ := ofF_get_some hy
            obtain ⟨-, ez⟩ := ofF_get_some hz
            have hle := Hle.out i hlt
            rw [← ey, ← ez] at hle
            have hii : (i : Int) < (m : Int) := by omega
            have hi0' : (0 : Int) ≤ (i : Int) := by omega
            have hdx : decide (z < y) = false := by simp; omega
            have c0' := (dr_cell Hq.out ⟨g1, 0 + i, none⟩).trans c0
            have d0' := (dr_cell Hq.out ⟨g2, 0 + i, none⟩).trans d0
            rw [Nat.zero_add] at c0' d0'
            clear hy hz ey ez
            go_wp2
            go_quiet (fail)
            go_wp2
            go_roundg (m - (i + 1))
            case rel => exact ⟨i + 1, by omega, rfl, by go_num, dr_more Hq.out _⟩
            case measure => omega
          · have e : i = m := by omega
            subst e
            go_wp2
            go_ret
            obtain ⟨q, rfl⟩ := Hq.out
            exact ⟨rfl, below_drewN hb013 q⟩
      · have Hle2 : RowKit.Hid (∀ i, i < m → L2 i ≤ L1 i) := Lib.hid (HG1.out.2.2.2 L2 (feas_more hG2.1) hG2.2.1 hG2.2.2.1)
        clear hG2 hTL2
        have hb012 := hb011.trans (hb12.mono hb011.size)
        have rl12 := rl11.up (flat_lasts _) hb12
        have rT1 := rT1.up (flat_lasts _) hb12
        have rT2 := rT2.up (flat_lasts _) hb12
        clear hb12
        go_wp2_with fail
        refine (Hct.out _ rl12 rT2).mono ?_
        rintro e w13 ⟨rfl, hb13⟩
        have hb013 := hb012.trans (hb13.mono hb012.size)
        have rT1 := rT1.up (flat_lasts _) hb13
        have rT2 := rT2.up (flat_lasts _) hb13
        have rL1 := rL1.up (flat_lasts _) hb13
        have rL2 := rL2.up (flat_lasts _) hb13
        go_wp2
        go_loopg [21] m (fun gk i wr => ∃ i' : Nat, i' ≤ m ∧ gk = m - i' ∧ i = .int .i64 i' ∧ ∃ q, wr = w13.drewN q)
        case atStart => exact ⟨0, Nat.zero_le _, rfl, rfl, dr_zero w13⟩
        case round =>
          obtain ⟨i, hi, rfl, rfl, hdr⟩ := hrel
          have Hq := Lib.hid hdr
          clear hdr
          by_cases hlt : i < m
          · obtain ⟨ba, oa, y, hA, hba, hy, c0⟩ := rT1.atI hlt
            injection hA with hA; injection hA with hA1 hA2
            subst hA1 hA2
            obtain ⟨bb, ob, z, hB, hbb, hz, d0⟩ := rT2.atI hlt
            injection hB with hB; injection hB with hB1 hB2
            subst hB1 hB2
            obtain ⟨-, ey⟩ := ofF_get_some hy
            obtain ⟨-, ez⟩ := ofF_get_some hz
            have hle := Hle.out i hlt
            rw [← ey, ← ez] at hle
            have hii : (i : Int) < (m : Int) := by omega
            have hi0' : (0 : Int) ≤ (i : Int) := by omega
            have hdx : decide (z < y) = false := by simp; omega
            have c0' := (dr_cell Hq.out ⟨g1, 0 + i, none⟩).trans c0
            have d0' := (dr_cell Hq.out ⟨g2, 0 + i, none⟩).trans d0
            rw [Nat.zero_add] at c0' d0'
            clear hy hz ey ez
            go_wp2
            go_quiet (fail)
            go_wp2
            go_roundg (m - (i + 1))
            case rel => exact ⟨i + 1, by omega, rfl, by go_num, dr_more Hq.out _⟩
            case measure => omega
          · have e : i = m := by omega
            subst e
            have rL1 := dr_rd (flat_lasts _) rL1 Hq.out
            have rL2 := dr_rd (flat_lasts _) rL2 Hq.out
            go_wp2
            obtain ⟨wq, hwq⟩ : ∃ wq, wq = wr := ⟨_, rfl⟩
            subst hwq
            go_loopg [22] i (fun gk v wr => ∃ j : Nat, j ≤ i ∧ gk = i - j ∧ v = .int .i64 j ∧ ∃ q, wr = wq.drewN q)
            case atStart => exact ⟨0, Nat.zero_le _, rfl, rfl, dr_zero wq⟩
            case round =>
              obtain ⟨j, hj, rfl, rfl, hdr⟩ := hrel
              have Hq2 := Lib.hid hdr
              clear hdr
              by_cases hlt2 : j < i
              · obtain ⟨ba, oa, y, rfl, hba, hy, c0⟩ := rL1.atI hlt2
                obtain ⟨bb, ob, z, rfl, hbb, hz, d0⟩ := rL2.atI hlt2
                obtain ⟨-, ey⟩ := ofF_get_some hy
                obtain ⟨-, ez⟩ := ofF_get_some hz
                have hle := Hle2.out j hlt2
                rw [← ey, ← ez] at hle
                have hii : (j : Int) < (i : Int) := by omega
                have hi0' : (0 : Int) ≤ (j : Int) := by omega
                have hdx : decide (y < z) = false := by simp; omega
                have c0' := (dr_cell Hq2.out ⟨ba, oa + j, none⟩).trans c0
                have d0' := (dr_cell Hq2.out ⟨bb, ob + j, none⟩).trans d0
                clear hy hz ey ez
                go_wp2
                go_quiet (fail)
                go_wp2
                go_roundg (i - (j + 1))
                case rel => exact ⟨j + 1, by omega, rfl, by go_num, dr_more Hq2.out _⟩
                case measure => omega
              · have e : j = i := by omega
                subst e
                go_wp2
                go_ret
                obtain ⟨q, rfl⟩ := Hq.out
                obtain ⟨q2, rfl⟩ := Hq2.out
                exact ⟨rfl, below_drewN (below_drewN hb013 q) q2⟩
end Go.Proofs.Ythmnkmomgaamlaa
