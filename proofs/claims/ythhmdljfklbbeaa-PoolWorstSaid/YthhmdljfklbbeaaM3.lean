/- Walk over the statement PoolWorst. Conditions stand in the theorem. -/
import Derived.Test.YthhmdljfklbbeaaPw
import Derived.Test.YthhmdljfklbbeaaStep
import Derived.Test.YthhmdljfklbbeaaRaw
namespace Go.Proofs.Ythhmdljfklbbeaa
open Go.RowKit
set_option linter.unusedVariables false

set_option maxRecDepth 100000 in
set_option maxHeartbeats 4000000 in
theorem poolWorst_walk (p : Pl) (A : Option Addr) (n cap : Nat) (cl : List (List Int)) (t : Int) (mr : Int) (w : World) (h0 : True) (rl : RdII w w.heap.size A n cap cl) (wf : ∀ x ∈ cl, ∀ y ∈ x, -9223372036854775808 ≤ y ∧ y ≤ 9223372036854775807) (h1 : 0 ≤ t ∧ t ≤ 255) (h2 : -9223372036854775808 ≤ mr ∧ mr ≤ 9223372036854775807) :
    Calls Try.prog 5 #[plV p, .slice A n cap, .int .u8 t, .int .i64 mr] w fun e w' => e = .returned (.bool true) ∧ Below w.heap.size w w' := by
  have hcaps := rl.caps
  have hlen := rl.len
  have Hfew := Lib.hid (fun w hl => few_len p A n cap cl w hl)
  have Hright := Lib.hid (fun w => right_any p w)
  obtain ⟨K, hK⟩ : ∃ K : Nat, t % 17 = (K : Int) := ⟨(t % 17).toNat, by omega⟩
  have hK17 : K < 17 := by omega
  have hKt : t.tmod 17 = (K : Int) := by rw [Int.tmod_eq_emod_of_nonneg h1.1]; exact hK
  have hKu : IntKind.u8.wrap (K : Int) = (K : Int) := by rw [IntKind.wrap_u8]; omega
  have hKi : IntKind.i64.wrap (K : Int) = (K : Int) := IntWalk.i64_in _ (by omega)
  have hKi1 : IntKind.i64.wrap ((K : Int) + 1) = (K : Int) + 1 := IntWalk.i64_in _ (by omega)
  have hcx : ∀ w1, Below (w.alloc (.cells (plC p) 23)).heap.size (w.alloc (.cells (plC p) 23)) w1 → (∀ (j : Nat) u, (plC p)[j]? = some u → w1.cell? ⟨w.heap.size, j, none⟩ = some u) ∧ Below w.heap.size w w1 ∧ w.heap.size < w1.heap.size := fun w1 hb => ⟨fun j u hu => (hb.cell (p := ⟨w.heap.size, j, none⟩) (by simp)).trans (new_cell rfl hu), ((Below.refl w.heap.size w).alloc (Nat.le_refl _) _).trans (hb.mono (by simp)), by have := hb.size; simp at this; omega⟩
  have Hcx := Lib.hid hcx
  clear hcx
  cases hr : rightF p
  · have Hr := Lib.hid hr; clear hr
    obtain ⟨mo, pr, ms, co, wi, to⟩ := p
    simp only [plV, plC] at *
    go_enter Try.func5, Try.ntmps5
    go_wp2_with fail
    refine (small_any _).mono ?_
    rintro e w1 ⟨rfl, hb1⟩
    obtain ⟨hc1, hb01, hl1⟩ := Hcx.out _ hb1
    have c0 := hc1 0 _ rfl; have c1 := hc1 1 _ rfl; have c2 := hc1 2 _ rfl; have c3 := hc1 3 _ rfl; have c4 := hc1 4 _ rfl; have c5 := hc1 5 _ rfl
    clear hc1 hb1
    go_wp2_with fail
    refine (Hfew.out _ (rl.up ii_lasts hb01)).mono ?_
    rintro e w2 ⟨b, rfl, -, hb2⟩
    have hb02 := hb01.trans (hb2.mono hb01.size)
    have d0 := (hb2.cell (p := ⟨w.heap.size, 0, none⟩) hl1).trans c0
    have d1 := (hb2.cell (p := ⟨w.heap.size, 1, none⟩) hl1).trans c1
    have d2 := (hb2.cell (p := ⟨w.heap.size, 2, none⟩) hl1).trans c2
    have d3 := (hb2.cell (p := ⟨w.heap.size, 3, none⟩) hl1).trans c3
    have d4 := (hb2.cell (p := ⟨w.heap.size, 4, none⟩) hl1).trans c4
    have d5 := (hb2.cell (p := ⟨w.heap.size, 5, none⟩) hl1).trans c5
    cases b
    · go_wp2
      go_ret
      exact ⟨rfl, hb02⟩
    · go_wp2_with fail
      refine (Hright.out _).mono ?_
      rw [Hr.out]
      rintro e w3 ⟨rfl, hb3⟩
      go_wp2
      go_ret
      exact ⟨rfl, hb02.trans (hb3.mono hb02.size)⟩
  have Hr := Lib.hid hr
  obtain ⟨⟨p11, p12⟩, ⟨p21, p22⟩, ⟨p31, p32⟩, ⟨p41, p42⟩, ⟨p51, p52⟩, ⟨p61, p62⟩⟩ := rightF_iff hr
  obtain ⟨hst1, hst2⟩ := worst_step hr K
  obtain ⟨hwb1, hwb2⟩ := worst_bd hr K
  have hwin := worst_win hr K
  have Hw1 : RowKit.Hid (∀ w, Calls Try.prog 10 #[plV p, .int .i64 (K : Int)] w fun e w' => e = .returned (.tuple #[.int .i64 (worstF p K), .int .i64 0]) ∧ Below w.heap.size w w') := Lib.hid (fun w => by
    have h := worst_any p (K : Int) w (by omega)
    rw [argF_nat hr (show K ≤ 1000 by omega), if_pos rfl, if_pos rfl, Int.toNat_natCast] at h
    exact h)
  have Hw2 : RowKit.Hid (∀ w, Calls Try.prog 10 #[plV p, .int .i64 ((K : Int) + 1)] w fun e w' => e = .returned (.tuple #[.int .i64 (worstF p (K + 1)), .int .i64 0]) ∧ Below w.heap.size w w') := Lib.hid (fun w => by
    have h := worst_any p ((K + 1 : Nat) : Int) w (by omega)
    rw [argF_nat hr (show K + 1 ≤ 1000 by omega), if_pos rfl, if_pos rfl, Int.toNat_natCast, Int.natCast_succ] at h
    exact h)
  have hwb3 : (K : Int) * p.to ≤ 17 * 1000000000000000 := Int.mul_le_mul (by omega) p32 p31 (by omega)
  have Hsum : RowKit.Hid (∀ (A' : Option Addr) (n' cap' : Nat) (cl' : List (List Int)) w, RdII w w.heap.size A' n' cap' cl' → admF p cl' = true → Calls Try.prog 22 #[.slice A' n' cap', .int .i64 (K : Int)] w fun e w' => (∃ s, e = .returned (.int .i64 s) ∧ s ≤ worstF p K) ∧ w = w') := Lib.hid (fun A' n' cap' cl' w hl ha => by
    obtain ⟨a1, a2⟩ := adm_sum hr hl.len ha (show K ≤ 17 by omega)
    exact (lawsum_any A' n' cap' cl' K w hl (by omega) a2).mono fun e w' ⟨he, hw⟩ => ⟨⟨_, he, a1⟩, hw⟩)
  have Hadm := Lib.hid (fun A' n' cap' cl' w hl => admits_any p A' n' cap' cl' w hl)
  generalize worstF p K = W0 at *
  generalize worstF p (K + 1) = W1 at *
  obtain ⟨t1', t2'⟩ := h1
  obtain ⟨m1', m2'⟩ := h2
  clear hr hK
  obtain ⟨mo, pr, ms, co, wi, to⟩ := p
  simp only [plV, plC] at *
  obtain ⟨W, rfl⟩ := Int.eq_ofNat_of_zero_le (show 0 ≤ wi by omega)
  simp only [Int.toNat_natCast] at *
  have hqb : (K + W - 1) / W ≤ 17 := by
    have := Nat.div_mul_le_self (K + W - 1) W
    rcases Nat.lt_or_ge 17 ((K + W - 1) / W) with h | h
    · have h1 := Nat.mul_le_mul_right W (show 18 ≤ (K + W - 1) / W from h)
      omega
    · exact h
  have hq1 : ((K : Int) + (W : Int) - 1) = ((K + W - 1 : Nat) : Int) := by omega
  have hwr1 : IntKind.i64.wrap ((K : Int) + (W : Int)) = (K : Int) + (W : Int) := IntWalk.i64_in _ (by omega)
  have hwr2 : IntKind.i64.wrap ((K : Int) + (W : Int) - 1) = (K : Int) + (W : Int) - 1 := IntWalk.i64_in _ (by omega)
  have htd : ((K : Int) + (W : Int) - 1).tdiv (W : Int) = (((K + W - 1) / W : Nat) : Int) := by rw [hq1, Int.tdiv_eq_ediv_of_nonneg (by omega)]; simp
  have hW0 : ((W : Int) == 0) = false := by simp; omega
  have hW0' : ¬ (W : Int) = 0 := by omega
  generalize (K + W - 1) / W = Q at *
  have hwQ : IntKind.i64.wrap (Q : Int) = (Q : Int) := IntWalk.i64_in _ (by omega)
  obtain ⟨qt1, qt2⟩ := mul_bd2 (a := (Q : Int)) (A := 17) (b := to) (by omega) (by omega) p31 p32
  obtain ⟨QT, hQT⟩ : ∃ x, (Q : Int) * to = x := ⟨_, rfl⟩
  rw [hQT] at qt1 qt2 hwin
  have hwQT : IntKind.i64.wrap QT = QT := IntWalk.i64_in _ (by omega)
  have hwd : IntKind.i64.wrap (W1 - W0) = W1 - W0 := IntWalk.i64_in _ (by omega)
  have hd1 : decide (W1 < W0) = false := by simp; omega
  have hd2 : decide (to < W1 - W0) = false := by simp; omega
  have hd3 : decide (QT < W0) = false := by simp; omega
  clear hq1 hqb
  go_enter Try.func5, Try.ntmps5
  go_wp2_with fail
  refine (small_any _).mono ?_
  rintro e w1 ⟨rfl, hb1⟩
  obtain ⟨hc1, hb01, hl1⟩ := Hcx.out _ hb1
  have c0 := hc1 0 _ rfl; have c1 := hc1 1 _ rfl; have c2 := hc1 2 _ rfl; have c3 := hc1 3 _ rfl; have c4 := hc1 4 _ rfl; have c5 := hc1 5 _ rfl
  clear hc1 hb1
  go_wp2_with fail
  refine (Hfew.out _ (rl.up ii_lasts hb01)).mono ?_
  rintro e w2 ⟨b, rfl, -, hb2⟩
  have hb02 := hb01.trans (hb2.mono hb01.size)
  have d0 := (hb2.cell (p := ⟨w.heap.size, 0, none⟩) hl1).trans c0
  have d1 := (hb2.cell (p := ⟨w.heap.size, 1, none⟩) hl1).trans c1
  have d2 := (hb2.cell (p := ⟨w.heap.size, 2, none⟩) hl1).trans c2
  have d3 := (hb2.cell (p := ⟨w.heap.size, 3, none⟩) hl1).trans c3
  have d4 := (hb2.cell (p := ⟨w.heap.size, 4, none⟩) hl1).trans c4
  have d5 := (hb2.cell (p := ⟨w.heap.size, 5, none⟩) hl1).trans c5
  have hl2 := Nat.lt_of_lt_of_le hl1 hb2.size
  clear c0 c1 c2 c3 c4 c5
  clear hb2 hl1 hb01
  cases b
  · go_wp2
    go_ret
    exact ⟨rfl, hb02⟩
  go_wp2_with fail
  refine (Hright.out _).mono ?_
  rw [Hr.out]
  rintro e w3 ⟨rfl, hb3⟩
  have hb03 := hb02.trans (hb3.mono hb02.size)
  have c0 := (hb3.cell (p := ⟨w.heap.size, 0, none⟩) hl2).trans d0
  have c1 := (hb3.cell (p := ⟨w.heap.size, 1, none⟩) hl2).trans d1
  have c2 := (hb3.cell (p := ⟨w.heap.size, 2, none⟩) hl2).trans d2
  have c3 := (hb3.cell (p := ⟨w.heap.size, 3, none⟩) hl2).trans d3
  have c4 := (hb3.cell (p := ⟨w.heap.size, 4, none⟩) hl2).trans d4
  have c5 := (hb3.cell (p := ⟨w.heap.size, 5, none⟩) hl2).trans d5
  have hl3 := Nat.lt_of_lt_of_le hl2 hb3.size
  clear d0 d1 d2 d3 d4 d5
  clear hb3 hl2 hb02
  go_wp2_with fail
  refine (Hw1.out _).mono ?_
  rintro e w4 ⟨rfl, hb4⟩
  have hb04 := hb03.trans (hb4.mono hb03.size)
  have d0 := (hb4.cell (p := ⟨w.heap.size, 0, none⟩) hl3).trans c0
  have d1 := (hb4.cell (p := ⟨w.heap.size, 1, none⟩) hl3).trans c1
  have d2 := (hb4.cell (p := ⟨w.heap.size, 2, none⟩) hl3).trans c2
  have d3 := (hb4.cell (p := ⟨w.heap.size, 3, none⟩) hl3).trans c3
  have d4 := (hb4.cell (p := ⟨w.heap.size, 4, none⟩) hl3).trans c4
  have d5 := (hb4.cell (p := ⟨w.heap.size, 5, none⟩) hl3).trans c5
  have hl4 := Nat.lt_of_lt_of_le hl3 hb4.size
  clear c0 c1 c2 c3 c4 c5
  clear hb4 hl3 hb03
  go_wp2_with fail
  refine (Hw2.out _).mono ?_
  rintro e w5 ⟨rfl, hb5⟩
  have hb05 := hb04.trans (hb5.mono hb04.size)
  have c0 := (hb5.cell (p := ⟨w.heap.size, 0, none⟩) hl4).trans d0
  have c1 := (hb5.cell (p := ⟨w.heap.size, 1, none⟩) hl4).trans d1
  have c2 := (hb5.cell (p := ⟨w.heap.size, 2, none⟩) hl4).trans d2
  have c3 := (hb5.cell (p := ⟨w.heap.size, 3, none⟩) hl4).trans d3
  have c4 := (hb5.cell (p := ⟨w.heap.size, 4, none⟩) hl4).trans d4
  have c5 := (hb5.cell (p := ⟨w.heap.size, 5, none⟩) hl4).trans d5
  have hl5 := Nat.lt_of_lt_of_le hl4 hb5.size
  clear d0 d1 d2 d3 d4 d5
  clear hb5 hl4 hb04
  go_wp2_with fail
  refine (Hadm.out A n cap cl _ (rl.up ii_lasts hb05)).mono ?_
  rintro e w6 ⟨rfl, hb6⟩
  have hb06 := hb05.trans (hb6.mono hb05.size)
  have d0 := (hb6.cell (p := ⟨w.heap.size, 0, none⟩) hl5).trans c0
  have d1 := (hb6.cell (p := ⟨w.heap.size, 1, none⟩) hl5).trans c1
  have d2 := (hb6.cell (p := ⟨w.heap.size, 2, none⟩) hl5).trans c2
  have d3 := (hb6.cell (p := ⟨w.heap.size, 3, none⟩) hl5).trans c3
  have d4 := (hb6.cell (p := ⟨w.heap.size, 4, none⟩) hl5).trans c4
  have d5 := (hb6.cell (p := ⟨w.heap.size, 5, none⟩) hl5).trans c5
  have hl6 := Nat.lt_of_lt_of_le hl5 hb6.size
  clear c0 c1 c2 c3 c4 c5
  clear hb6 hl5 hb05
  cases had : admF ⟨mo, pr, ms, co, (W : Int), to⟩ cl
  · go_wp2
    go_ret
    exact ⟨rfl, hb06⟩
  go_wp2_with fail
  refine (Hsum.out A n cap cl _ (rl.up ii_lasts hb06) had).mono ?_
  rintro e w7 ⟨⟨s7, rfl, hs7⟩, rfl⟩
  have hd7 : decide (W0 < s7) = false := by simp; omega
  have hbdn : n ≤ 1000 ∧ (0 < n → (clAt cl 0).length ≤ 1000) := by
    simp only [admF, Bool.and_eq_true, decide_eq_true_eq] at had
    refine ⟨by omega, fun h => ?_⟩
    have h7 := (admN_at had.2.2 (show 0 < cl.length by omega)).1
    simp only [okP, Bool.and_eq_true, decide_eq_true_eq] at h7
    omega
  obtain ⟨hn1000, hc1000⟩ := hbdn
  clear had
  by_cases hn0 : n = 0
  · subst hn0
    go_wp2
    go_ret
    exact ⟨rfl, hb06⟩
  have hn0' : ((n : Int) == 0) = false := by simp; omega
  by_cases hK0 : K = 0
  · subst hK0
    go_wp2
    go_ret
    exact ⟨rfl, hb06⟩
  have hK0' : ((K : Int) == 0) = false := by simp; omega
  have hn1 : 0 < n := by omega
  have rl6 := rl.up ii_lasts hb06
  obtain ⟨raw, hraw, hrk⟩ := RdII.raw rl6
  obtain ⟨b, off, A', n', cap', l, rfl, hbB, hx, k0, hl'⟩ := rl6.atII (k := 0) hn1
  simp only [Nat.add_zero] at k0
  have hle := clAt_eq hx
  have hlen' := hl'.len
  have hcaps' := hl'.caps
  have hn' : n' ≤ 1000 := by have := hc1000 hn1; rw [hle, hlen'] at this; exact this
  have hrlen := hraw.len
  have tl : ∀ A2 m c, m = n - 1 → m ≤ c → c ≤ cap → (1 < n → A2 = some ⟨b, off + 1, none⟩) → Rd 1 (flat sEnc) w6 w6.heap.size A2 m c (raw.drop 1) := fun A2 m c h0 h1 h2 h3 => by
    have ht := hraw.tail1 hn1
    subst h0
    by_cases h : 1 < n
    · rw [h3 h]; exact ⟨ht.1, h1, ⟨by omega, by omega⟩, ht.2.2.2⟩
    · exact ⟨ht.1, h1, ⟨by omega, by omega⟩, fun h' => absurd h' (by omega)⟩
  have hll : (l ++ [mr]).length = n' + 1 := by rw [List.length_append, hlen']; rfl
  obtain ⟨i0, hi0, hz0, hz1, hz2⟩ := info_parts int_info
  obtain ⟨j0, hj0, jz0, jz1, jz2⟩ := info_parts slices_info
  have hG : RowKit.Hid (∀ w' A11 c11 v (base : Nat), Below w6.heap.size w6 w' → RdI w' w'.heap.size A11 (n' + 1) c11 (l ++ [mr]) → Own 1 sEnc w' base 32 v ((A11, n' + 1, c11) :: raw.drop 1) → ∃ A12 c12, v = .slice A12 n c12 ∧ RdII w' w'.heap.size A12 n c12 ((l ++ [mr]) :: cl.drop 1)) := Lib.hid (fun w' A11 c11 v base hb hr ho => RdII.cons ho hr (fun k hk => by
      obtain ⟨x, h1, h2⟩ := hrk k hk
      exact ⟨x, h1, h2.up (flat_lasts _) hb⟩) hrlen hlen hn1 (by omega))
  have hp0 : (0 : Int) < (n : Int) := by omega
  have hp1 : (1 : Int) ≤ (n : Int) := by omega
  have hp2 : (1 : Int) ≤ (cap : Int) := by omega
  have hp3 : (n : Int) ≤ (cap : Int) := by omega
  have hsp : cap = 1 ∨ ¬ cap = 1 := by omega
  have hdl : (raw.drop 1).length = n - 1 := by rw [List.length_drop, hrlen]
  have Hrk := Lib.hid hrk
  clear hrk hraw hx rl6 hle hc1000
  have X0 : Below w6.heap.size w6 w6.drew := (Below.refl w6.heap.size w6).drew
  have X1 := fun o => X0.alloc (Nat.le_refl w6.heap.size) o
  rcases hsp with rfl | hcap1
  all_goals
    go_wp2
    go_region_held3 (fun w' => w'.cell? ⟨b, off, none⟩ = some (.slice A' n' cap'))
      (first | exact k0 | exact (X0.cell hbB).trans k0 | exact ((X1 _).cell hbB).trans k0 | exact (((X1 _).alloc (by simp) _).cell hbB).trans k0 | exact (hb12.cell hbB).trans k0 | exact (hb11.cell hbB).trans k0 | exact ((hb11.alloc hb11.size _).cell hbB).trans k0 | exact (hb10.cell hbB).trans k0 | exact ((hb10.alloc hb10.size _).cell hbB).trans k0 | go_keep)
      (first
        | (refine step_app _ iSized (by rfl) _ _ 32 (by rfl) w6.heap.size 3 i0 _ 8 Try.underlying32 hi0 hz0 hz1 hz2 rfl _ ([] : List Int) (by rfl) (Own.lit (w := w6.drew) (n := 0) iSized (Nat.le_refl w6.heap.size) [] #[] rfl rfl (by omega)) _ _ n' _ l (by rfl) (hl'.below (flat_lasts _) (X1 _) (Nat.le_refl _) (Nat.le_refl _)) (by simp only [maxLen, List.length_nil]; omega) (by simp only [List.length_nil]; omega) (by simp) ?_
           intro v10 w10 ho10 hg10 hx10
           have hb10 : Below w6.heap.size w6 w10 := Own.grow (Own.lit (w := w6.drew) (n := 0) iSized (Nat.le_refl w6.heap.size) [] #[] rfl rfl (by omega)) (Nat.le_refl _) (X1 _) (by simp) hg10
           rw [List.nil_append] at ho10
           clear hg10 hx10)
        | (refine step_app _ iSized (by rfl) _ _ 32 (by rfl) w6.heap.size 3 i0 _ 8 Try.underlying32 hi0 hz0 hz1 hz2 rfl _ ([] : List Int) (by rfl) (Own.alloc (Own.lit (w := w6.drew) (n := 0) iSized (Nat.le_refl w6.heap.size) [] #[] rfl rfl (by omega)) _) _ _ n' _ l (by rfl) (hl'.below (flat_lasts _) ((X1 _).alloc (by simp) _) (Nat.le_refl _) (Nat.le_refl _)) (by simp only [maxLen, List.length_nil]; omega) (by simp only [List.length_nil]; omega) (by simp; omega) ?_
           intro v10 w10 ho10 hg10 hx10
           have hb10 : Below w6.heap.size w6 w10 := Own.grow (Own.alloc (Own.lit (w := w6.drew) (n := 0) iSized (Nat.le_refl w6.heap.size) [] #[] rfl rfl (by omega)) _) (Nat.le_refl _) ((X1 _).alloc (by simp) _) (by simp; omega) hg10
           have r101 : RdI w10 w10.heap.size (some ⟨w6.heap.size + 1, 0, none⟩) 1 1 [mr] := (Rd.litH (w := w6.drew.alloc (.cells #[] 3)) 3 [mr] #[.int .i64 mr] 1 (w6.heap.size + 1) (by simp) rfl rfl (by omega)).keptS (grown_kept hg10) (Nat.le_refl _) hg10.size (fun _ b off e he => by
             injection e with e; injection e with e; subst e
             simp [Value.ownBlock] at he)
           rw [List.nil_append] at ho10
           clear hg10 hx10)
        | (refine step_app _ iSized (by rfl) _ _ 32 (by rfl) w6.heap.size 3 i0 _ 8 Try.underlying32 hi0 hz0 hz1 hz2 rfl _ ([] : List Int) (by rfl) (Own.litB (w := w6.drew.alloc (.cells #[.int .i64 mr] 3)) (H := w6.heap.size + 1) (by simp) (by simp)) _ _ n' _ l (by rfl) (hl'.below (flat_lasts _) ((X1 _).alloc (by simp) _) (Nat.le_refl _) (Nat.le_refl _)) (by simp only [maxLen, List.length_nil]; omega) (by simp only [List.length_nil]; omega) (by simp; omega) ?_
           intro v10 w10 ho10 hg10 hx10
           have hb10 : Below w6.heap.size w6 w10 := Own.grow (Own.litB (w := w6.drew.alloc (.cells #[.int .i64 mr] 3)) (H := w6.heap.size + 1) (base := w6.heap.size) (by simp) (by simp)) (Nat.le_refl _) ((X1 _).alloc (by simp) _) (by simp; omega) hg10
           have r101 : RdI w10 w10.heap.size (some ⟨w6.heap.size, 0, none⟩) 1 1 [mr] := (Rd.keep (flat_lasts _) (Rd.litH (w := w6.drew) 3 [mr] #[.int .i64 mr] 1 w6.heap.size rfl rfl rfl (by omega)) (Nat.le_refl _) (fun q hq => World.cell?_alloc_lt _ _ _ hq)).keptS (grown_kept hg10) (by simp) (by have := hg10.size; simp at this ⊢; omega) (fun _ b off e he => by
             injection e with e; injection e with e; subst e
             simp [Value.ownBlock] at he)
           rw [List.nil_append] at ho10
           clear hg10 hx10)
        | (refine step_app _ iSized (by rfl) _ _ 32 (by rfl) w6.heap.size 3 i0 _ 8 Try.underlying32 hi0 hz0 hz1 hz2 rfl _ l (by rfl) (Own.alloc ho10 _) _ _ 1 _ [mr] (by rfl) (Rd.litI (w := w10) 3 [mr] #[.int .i64 mr] 1 rfl rfl (by omega)) (by rw [hlen']; simp only [maxLen]; omega) (by rw [hlen']; omega) (by have := hb10.size; simp; omega) ?_
           intro v11 w11 ho11 hg11 hx11
           have hb11 : Below w6.heap.size w6 w11 := Own.grow (Own.alloc ho10 _) (Nat.le_refl _) (hb10.alloc hb10.size _) (by have := hb10.size; simp; omega) hg11
           obtain ⟨A11, c11, hv11, r11⟩ := ho11.rd iSized (by rw [hll]; omega)
           rw [hll] at hv11 r11
           subst hv11
           clear hg11 hx11 hb10 ho10 ho11)
        | (refine step_app _ iSized (by rfl) _ _ 32 (by rfl) w6.heap.size 3 i0 _ 8 Try.underlying32 hi0 hz0 hz1 hz2 rfl _ l (by rfl) ho10 _ _ 1 _ [mr] (by rfl) r101 (by rw [hlen']; simp only [maxLen]; omega) (by rw [hlen']; omega) hb10.size ?_
           intro v11 w11 ho11 hg11 hx11
           have hb11 : Below w6.heap.size w6 w11 := Own.grow ho10 (Nat.le_refl _) hb10 hb10.size hg11
           obtain ⟨A11, c11, hv11, r11⟩ := ho11.rd iSized (by rw [hll]; omega)
           rw [hll] at hv11 r11
           subst hv11
           clear hg11 hx11 hb10 ho10 ho11 r101)
        | (refine step_app _ sSized (by rfl) _ _ 24 (by rfl) w11.heap.size 32 j0 _ 24 Try.underlying24 hj0 jz0 jz1 jz2 rfl _ [(A11, n' + 1, c11)] (by rfl) (Own.lit (w := w11) (n := 1) sSized (Nat.le_refl w11.heap.size) [(A11, n' + 1, c11)] #[.slice A11 (n' + 1) c11] rfl rfl (by omega)) _ _ _ _ (raw.drop 1) (by rfl) ((tl _ _ _ (by omega) (by omega) (by omega) (fun hlt => by first | rfl | omega)).below (flat_lasts _) (hb11.alloc hb11.size _) (Nat.le_refl _) (Nat.le_refl _)) (by simp only [maxLen, List.length_singleton]; omega) (by simp only [List.length_singleton]; omega) (by simp) ?_
           intro v12 w12 ho12 hg12 hx12
           have hb1112 : Below w11.heap.size w11 w12 := Own.grow (Own.lit (w := w11) (n := 1) sSized (Nat.le_refl w11.heap.size) [(A11, n' + 1, c11)] #[.slice A11 (n' + 1) c11] rfl rfl (by omega)) (Nat.le_refl _) ((Below.refl w11.heap.size w11).alloc (Nat.le_refl w11.heap.size) _) (by simp) hg12
           have hb12 := hb11.trans (hb1112.mono hb11.size)
           obtain ⟨A12, c12, hv12, r12⟩ := hG.out w12 A11 c11 v12 w11.heap.size hb12 (r11.up (flat_lasts _) hb1112) ho12
           subst hv12
           clear hg12 hx12 hb11 r11 ho12 hb1112))
  all_goals
    have hb012 := hb06.trans (hb12.mono hb06.size)
    have e0 := (hb12.cell (p := ⟨w.heap.size, 0, none⟩) hl6).trans d0
    have e1 := (hb12.cell (p := ⟨w.heap.size, 1, none⟩) hl6).trans d1
    have e2 := (hb12.cell (p := ⟨w.heap.size, 2, none⟩) hl6).trans d2
    have e3 := (hb12.cell (p := ⟨w.heap.size, 3, none⟩) hl6).trans d3
    have e4 := (hb12.cell (p := ⟨w.heap.size, 4, none⟩) hl6).trans d4
    have e5 := (hb12.cell (p := ⟨w.heap.size, 5, none⟩) hl6).trans d5
    clear d0 d1 d2 d3 d4 d5 k0 X0 X1 hl' hbB hb12
    go_wp2_with fail
    refine (Hadm.out A12 n c12 _ _ r12).mono ?_
    rintro e w13 ⟨rfl, hb13⟩
    have hb013 := hb012.trans (hb13.mono hb012.size)
    have r13 := r12.up ii_lasts hb13
    clear e0 e1 e2 e3 e4 e5
    cases had2 : admF ⟨mo, pr, ms, co, (W : Int), to⟩ ((l ++ [mr]) :: cl.drop 1)
    · go_wp2
      go_ret
      exact ⟨rfl, hb013⟩
    · go_wp2_with fail
      refine (Hsum.out A12 n c12 _ _ r13 had2).mono ?_
      rintro e w14 ⟨⟨s14, rfl, hs14⟩, rfl⟩
      have hd14 : decide (s14 ≤ W0) = true := by simp; omega
      go_wp2
      go_ret
      exact ⟨by simp, hb013⟩
end Go.Proofs.Ythhmdljfklbbeaa
