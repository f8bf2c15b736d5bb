/- Walk over the statement PoolTells. Conditions stand in the theorem. -/
import Derived.Test.YthhmdljfklbbeaaP24
import Derived.Test.YthhmdljfklbbeaaP14
import Derived.Deep.RegionHeld3
namespace Go.Proofs.Ythhmdljfklbbeaa
open Go.RowKit
set_option linter.unusedVariables false

theorem runL_len (p : Pl) (cl : List (List Int)) : (runL p cl).length ≤ cl.length := by
  unfold runL
  split
  · rw [ofF_len]; exact Nat.le_refl _
  · exact Nat.zero_le _

set_option maxRecDepth 100000 in
set_option maxHeartbeats 4000000 in
theorem poolTells_walk (p : Pl) (A : Option Addr) (n cap : Nat) (cl : List (List Int)) (t : Int) (w : World) (h0 : True) (rl : RdII w w.heap.size A n cap cl) (wf : ∀ x ∈ cl, ∀ y ∈ x, -9223372036854775808 ≤ y ∧ y ≤ 9223372036854775807) (h1 : -9223372036854775808 ≤ t ∧ t ≤ 9223372036854775807) :
    Calls Try.prog 3 #[plV p, .slice A n cap, .int .i64 t] w fun e w' => e = .returned (.bool true) ∧ Below w.heap.size w w' := by
  have hcaps := rl.caps
  have hlen := rl.len
  have Hfew := Lib.hid (fun w hl => few_any p A n cap cl w hl)
  have Hr1 := Lib.hid (fun w => right_any p w)
  have Hr2 := Lib.hid (fun w => rright_any p w)
  have Hw1 := Lib.hid (fun w => worst_any p t w h1)
  have Hw2 := Lib.hid (fun w => rworst_any p t w)
  have Hs1 := Lib.hid (fun w => solvent_any p t w h1)
  have Hs2 := Lib.hid (fun w => rsolvent_any p t w)
  have Hu1 := Lib.hid (fun w hl => run_any p A n cap cl w hl)
  have Hu2 := Lib.hid (fun w hl => rrun_any p A n cap cl w hl)
  have Ha1 := Lib.hid (fun w hl => admits_any p A n cap cl w hl)
  have Ha2 := Lib.hid (fun w hl => radmits_any p A n cap cl w hl)
  have hrl := runL_len p cl
  rw [hlen] at hrl
  have hcx : ∀ w1, Below (w.alloc (.cells (plC p) 23)).heap.size (w.alloc (.cells (plC p) 23)) w1 → (∀ (j : Nat) u, (plC p)[j]? = some u → w1.cell? ⟨w.heap.size, j, none⟩ = some u) ∧ Below w.heap.size w w1 ∧ w.heap.size < w1.heap.size := fun w1 hb => ⟨fun j u hu => (hb.cell (p := ⟨w.heap.size, j, none⟩) (by simp)).trans (new_cell rfl hu), ((Below.refl w.heap.size w).alloc (Nat.le_refl _) _).trans (hb.mono (by simp)), by have := hb.size; simp at this; omega⟩
  have Hcx := Lib.hid hcx
  clear hcx
  generalize rightF p = rb at *
  generalize admF p cl = ab at *
  generalize (if argF p t then worstF p t.toNat else (0 : Int)) = wv at *
  generalize (if argF p t then (0 : Int) else 1) = we at *
  generalize solvB p t = sb at *
  generalize solvL p t = sl at *
  generalize solvE p t = se at *
  generalize runL p cl = rL at *
  generalize runE p cl = re at *
  obtain ⟨mo, pr, ms, co, wi, to⟩ := p
  simp only [plV, plC] at *
  have hrb : (rb == rb) = true := by simp
  have hab : (ab == ab) = true := by simp
  have hwv : (wv == wv) = true := by simp
  have hwe : (we == we) = true := by simp
  have hsb : (sb == sb) = true := by simp
  have hse : (se == se) = true := by simp
  have hre : (re == re) = true := by simp
  go_enter Try.func3, Try.ntmps3
  go_wp2_with fail
  refine (small_any _).mono ?_
  rintro e w1 ⟨rfl, hb1⟩
  obtain ⟨hc1, hb01, hl1⟩ := Hcx.out _ hb1
  have Hce : RowKit.Hid (∀ wr, Below w1.heap.size w1 wr → wr.cell? ⟨w.heap.size, 0, none⟩ = some (.int .i64 mo) ∧ wr.cell? ⟨w.heap.size, 1, none⟩ = some (.int .i64 pr) ∧ wr.cell? ⟨w.heap.size, 2, none⟩ = some (.int .i64 ms) ∧ wr.cell? ⟨w.heap.size, 3, none⟩ = some (.int .i64 co) ∧ wr.cell? ⟨w.heap.size, 4, none⟩ = some (.int .i64 wi) ∧ wr.cell? ⟨w.heap.size, 5, none⟩ = some (.int .i64 to)) :=
    Lib.hid (fun wr hb => ⟨(hb.cell (p := ⟨w.heap.size, 0, none⟩) hl1).trans (hc1 0 _ rfl), (hb.cell (p := ⟨w.heap.size, 1, none⟩) hl1).trans (hc1 1 _ rfl), (hb.cell (p := ⟨w.heap.size, 2, none⟩) hl1).trans (hc1 2 _ rfl), (hb.cell (p := ⟨w.heap.size, 3, none⟩) hl1).trans (hc1 3 _ rfl), (hb.cell (p := ⟨w.heap.size, 4, none⟩) hl1).trans (hc1 4 _ rfl), (hb.cell (p := ⟨w.heap.size, 5, none⟩) hl1).trans (hc1 5 _ rfl)⟩)
  have rl1 := rl.up ii_lasts hb01
  have Hrl := Lib.hid (fun wr (hb : Below w1.heap.size w1 wr) => rl1.up ii_lasts hb)
  clear hc1 hb1 rl1
  obtain ⟨c0, c1, c2, c3, c4, c5⟩ := Hce.out w1 (Below.refl _ _)
  go_wp2_with fail
  refine (Hfew.out _ (Hrl.out _ (Below.refl _ _))).mono ?_
  rintro e w2 ⟨b, rfl, hq2⟩
  clear c0 c1 c2 c3 c4 c5
  cases b
  · go_wp2
    go_ret
    exact ⟨rfl, hb01.trans (hq2.mono hb01.size)⟩
  have hgo : (decide (t > 20) = true ∧ decide (t ≤ 1000) = true) ∨ (decide (t > 20) = true ∧ decide (t ≤ 1000) = false) ∨ decide (t > 20) = false := by
    simp only [decide_eq_true_eq, decide_eq_false_iff_not]; omega
  have hret : t > 20 → t ≤ 1000 → True := fun _ _ => trivial
  by_cases hearly : 20 < t ∧ t ≤ 1000
  · obtain ⟨he1, he2⟩ := hearly
    have hd1 : decide (20 < t) = true := by simpa using he1
    have hd2 : decide (t ≤ 1000) = true := by simpa using he2
    clear hgo hret
    go_wp2
    go_ret
    exact ⟨rfl, hb01.trans (hq2.mono hb01.size)⟩
  have hd : decide (20 < t) = false ∨ (decide (20 < t) = true ∧ decide (t ≤ 1000) = false) := by
    simp only [decide_eq_true_eq, decide_eq_false_iff_not]; omega
  clear hgo hret hearly
  obtain ⟨c0, c1, c2, c3, c4, c5⟩ := Hce.out w2 hq2
  rcases hd with hd1 | ⟨hd1, hd2⟩
  all_goals
    go_wp2_with fail
    refine (Hw1.out _).mono ?_
    rintro e w3 ⟨rfl, hx3⟩
    clear c0 c1 c2 c3 c4 c5
    have hq3 := hq2.trans (hx3.mono hq2.size)
    obtain ⟨c0, c1, c2, c3, c4, c5⟩ := Hce.out w3 hq3
    go_wp2_with fail
    refine (Hw2.out _).mono ?_
    rintro e w4 ⟨rfl, hx4⟩
    clear c0 c1 c2 c3 c4 c5
    have hq4 := hq3.trans (hx4.mono hq3.size)
    obtain ⟨c0, c1, c2, c3, c4, c5⟩ := Hce.out w4 hq4
    go_wp2_with fail
    refine (Hs1.out _).mono ?_
    rintro e w5 ⟨A1, m1, q1, rfl, rs1, hx5⟩
    clear c0 c1 c2 c3 c4 c5
    have hq5 := hq4.trans (hx5.mono hq4.size)
    obtain ⟨c0, c1, c2, c3, c4, c5⟩ := Hce.out w5 hq5
    go_wp2_with fail
    refine (Hs2.out _).mono ?_
    rintro e w6 ⟨A2, m2, q2, rfl, rs2, hx6⟩
    clear c0 c1 c2 c3 c4 c5
    have hq6 := hq5.trans (hx6.mono hq5.size)
    obtain ⟨c0, c1, c2, c3, c4, c5⟩ := Hce.out w6 hq6
    have rs1 := rs1.up ii_lasts hx6
    go_wp2_with fail
    refine (Hu1.out _ (Hrl.out _ hq6)).mono ?_
    rintro e w7 ⟨v1, rfl, ou1, hx7⟩
    clear c0 c1 c2 c3 c4 c5
    have hq7 := hq6.trans (hx7.mono hq6.size)
    obtain ⟨c0, c1, c2, c3, c4, c5⟩ := Hce.out w7 hq7
    have rs1 := rs1.up ii_lasts hx7
    have rs2 := rs2.up ii_lasts hx7
    obtain ⟨B1, d1, rfl, ru1⟩ := ou1.rd iSized (by omega)
    go_wp2_with fail
    refine (Hu2.out _ (Hrl.out _ hq7)).mono ?_
    rintro e w8 ⟨v2, rfl, ou2, hx8⟩
    clear c0 c1 c2 c3 c4 c5
    have hq8 := hq7.trans (hx8.mono hq7.size)
    obtain ⟨c0, c1, c2, c3, c4, c5⟩ := Hce.out w8 hq8
    have rs1 := rs1.up ii_lasts hx8
    have rs2 := rs2.up ii_lasts hx8
    have ru1 := ru1.up (flat_lasts _) hx8
    obtain ⟨B2, d2, rfl, ru2⟩ := ou2.rd iSized (by omega)
    have hln : m1 = m2 := by rw [← rs1.len, ← rs2.len]
    subst hln
    clear hx3 hx4 hx5 hx6 hx7 hx8 hq3 hq4 hq5 hq6 hq7 ou1 ou2
    go_wp2_with fail
    refine (sameII_any A1 A2 m1 m1 q1 q2 _ _ w8 rs1 rs2).mono ?_
    rw [decide_eq_true rfl]
    rintro e w9 ⟨rfl, g9, rfl⟩
    go_wp2_with fail
    refine (ints_any B1 B2 _ _ d1 d2 _ _ _ (ru1.drewN (flat_lasts _) g9) (ru2.drewN (flat_lasts _) g9)).mono ?_
    rw [decide_eq_true rfl]
    rintro e w10 ⟨rfl, g10, hw10⟩
    have hq10 : Below w1.heap.size w1 w10 := by rw [hw10]; exact below_drewN (below_drewN hq8 _) _
    clear c0 c1 c2 c3 c4 c5 hw10 rs1 rs2 ru1 ru2 hq8
    obtain ⟨c0, c1, c2, c3, c4, c5⟩ := Hce.out w10 hq10
    have Hst : RowKit.Hid (∀ wa wb, Below w1.heap.size w1 wa → Below wa.heap.size wa wb → Below w1.heap.size w1 wb) := Lib.hid (fun wa wb h1 h2 => h1.trans (h2.mono h1.size))
    have Hall : RowKit.Hid (∀ wb, Below w1.heap.size w1 wb → ((wb.cell? ⟨w.heap.size, 0, none⟩ = some (.int .i64 mo) ∧ wb.cell? ⟨w.heap.size, 1, none⟩ = some (.int .i64 pr) ∧ wb.cell? ⟨w.heap.size, 2, none⟩ = some (.int .i64 ms) ∧ wb.cell? ⟨w.heap.size, 3, none⟩ = some (.int .i64 co) ∧ wb.cell? ⟨w.heap.size, 4, none⟩ = some (.int .i64 wi) ∧ wb.cell? ⟨w.heap.size, 5, none⟩ = some (.int .i64 to)) ∧ Below w1.heap.size w1 wb)) := Lib.hid (fun wb h => ⟨Hce.out wb h, h⟩)
    go_wp2
    go_region_held3 (fun w' => (w'.cell? ⟨w.heap.size, 0, none⟩ = some (.int .i64 mo) ∧ w'.cell? ⟨w.heap.size, 1, none⟩ = some (.int .i64 pr) ∧ w'.cell? ⟨w.heap.size, 2, none⟩ = some (.int .i64 ms) ∧ w'.cell? ⟨w.heap.size, 3, none⟩ = some (.int .i64 co) ∧ w'.cell? ⟨w.heap.size, 4, none⟩ = some (.int .i64 wi) ∧ w'.cell? ⟨w.heap.size, 5, none⟩ = some (.int .i64 to)) ∧ Below w1.heap.size w1 w')
      (first | exact Hall.out _ (by assumption) | exact Hall.out _ (Below.drew (by assumption)) | go_keep)
      (first
        | (go_at_call 18
           refine (Hr1.out _).mono ?_
           rintro e w' ⟨rfl, hbq⟩
           have hbq' := Hst.out _ _ (And.right (by assumption)) hbq
           clear hbq)
        | (go_at_call 19
           refine (Hr2.out _).mono ?_
           rintro e w' ⟨rfl, hbq⟩
           have hbq' := Hst.out _ _ (And.right (by assumption)) hbq
           clear hbq)
        | (go_at_call 20
           refine (Ha1.out _ (Hrl.out _ (And.right (by assumption)))).mono ?_
           rintro e w' ⟨rfl, hbq⟩
           have hbq' := Hst.out _ _ (And.right (by assumption)) hbq
           clear hbq)
        | (go_at_call 21
           refine (Ha2.out _ (Hrl.out _ (And.right (by assumption)))).mono ?_
           rintro e w' ⟨rfl, hbq⟩
           have hbq' := Hst.out _ _ (And.right (by assumption)) hbq
           clear hbq))
    all_goals
      go_wp2
      go_ret
      exact ⟨by simp, hb01.trans (Below.mono (by assumption) hb01.size)⟩
end Go.Proofs.Ythhmdljfklbbeaa
