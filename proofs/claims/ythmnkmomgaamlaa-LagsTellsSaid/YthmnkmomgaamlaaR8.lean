/- Walk over Refute of package lags. Conditions stand in the theorem. -/
import Derived.Test.YthmnkmomgaamlaaR7
namespace Go.Proofs.Ythmnkmomgaamlaa
open Go.RowKit
set_option linter.unusedVariables false

theorem new_frozen {w : World} {cs : Array Value} {T : TypeId} {H j : Nat} (hH : w.heap.size = H) : (w.alloc (.cells cs T)).frozen? ⟨H, j, none⟩ = false := by
  subst hH; simp
theorem set3 {w : World} {g : Nat} {a b c x y z : Value} (h0 : w.cell? ⟨g, 0, none⟩ = some a) (h1 : w.cell? ⟨g, 1, none⟩ = some b) (h2 : w.cell? ⟨g, 2, none⟩ = some c) :
    (((w.setCell ⟨g, 0, none⟩ x).setCell ⟨g, 1, none⟩ y).setCell ⟨g, 2, none⟩ z).cell? ⟨g, 0, none⟩ = some x ∧ (((w.setCell ⟨g, 0, none⟩ x).setCell ⟨g, 1, none⟩ y).setCell ⟨g, 2, none⟩ z).cell? ⟨g, 1, none⟩ = some y ∧ (((w.setCell ⟨g, 0, none⟩ x).setCell ⟨g, 1, none⟩ y).setCell ⟨g, 2, none⟩ z).cell? ⟨g, 2, none⟩ = some z := by
  have o : ∀ (w : World) (i j : Nat) (v : Value), i ≠ j → (w.setCell ⟨g, i, none⟩ v).cell? ⟨g, j, none⟩ = w.cell? ⟨g, j, none⟩ := fun w i j v h => World.cell?_setCell_other _ ⟨g, i, none⟩ ⟨g, j, none⟩ _ (by simp; try omega)
  have s : ∀ (w : World) (i : Nat) (v u : Value), w.cell? ⟨g, i, none⟩ = some u → (w.setCell ⟨g, i, none⟩ v).cell? ⟨g, i, none⟩ = some v := fun w i v u h => World.cell?_setCell_same _ _ _ h
  have k1 : (w.setCell ⟨g, 0, none⟩ x).cell? ⟨g, 1, none⟩ = some b := (o _ _ _ _ (by omega)).trans h1
  have k2 : ((w.setCell ⟨g, 0, none⟩ x).setCell ⟨g, 1, none⟩ y).cell? ⟨g, 2, none⟩ = some c := (o _ _ _ _ (by omega)).trans ((o _ _ _ _ (by omega)).trans h2)
  exact ⟨(o _ _ _ _ (by omega)).trans ((o _ _ _ _ (by omega)).trans (s _ _ _ _ h0)), (o _ _ _ _ (by omega)).trans (s _ _ _ _ k1), s _ _ _ _ k2⟩
theorem set3_frozen {w : World} {g : Nat} {x y z : Value} (h : ∀ j, w.frozen? ⟨g, j, none⟩ = false) : ∀ j, (((w.setCell ⟨g, 0, none⟩ x).setCell ⟨g, 1, none⟩ y).setCell ⟨g, 2, none⟩ z).frozen? ⟨g, j, none⟩ = false := fun j =>
  (World.frozen?_setCell _ _ _ _).trans ((World.frozen?_setCell _ _ _ _).trans ((World.frozen?_setCell _ _ _ _).trans (h j)))
theorem gap_bd {n : Nat} {l : List Lg} {C : List St} (hr : rightL n l = true) {k : Nat} (h : ∀ j, j < k → (stepsF n l).contains (aAt C j) = true) : -((k : Int) * 1048576) ≤ sumN (fun j => (aAt C j).2.2) k ∧ sumN (fun j => (aAt C j).2.2) k ≤ (k : Int) * 1048576 :=
  sumN_bd k fun i hi => by
    have h1 := steps_ok hr (List.contains_iff_mem.1 (h i hi))
    exact ⟨h1.2.2.2.1, h1.2.2.2.2⟩
set_option maxRecDepth 100000 in
set_option maxHeartbeats 1000000 in
theorem refute_any (m : Int) (A A2 : Option Addr) (n cap k c2 : Nat) (l : List Lg) (C : List St) (w : World) (hl : RdL w w.heap.size A n cap l) (hc : RdT w w.heap.size A2 k c2 C) :
  Calls Try.prog 20 #[.int .i64 m, .slice A n cap, .slice A2 k c2] w fun e w' => e = .returned (.bool (refF m l C)) ∧ Below w.heap.size w w' := by
  have Hright := Lib.hid (fun w h => right_any m A n cap l w h)
  have hcaps := hl.caps
  have hcaps2 := hc.caps
  have hlen := hl.len
  have hlenc := hc.len
  cases hr : rightL m l
  · have hF : refF m l C = false := by rw [refF, hr]; rfl
    rw [hF]
    have Hr := Lib.hid hr
    clear hF hr
    go_enter Try.func20, Try.ntmps20
    go_wp2_with (go_at_call 16; refine (Hright.out _ hl).mono ?_; rw [Hr.out]; rintro e w1 ⟨rfl, hb1⟩)
    go_ret
    exact ⟨rfl, hb1⟩
  obtain ⟨hm, hl2, -⟩ := rightL_iff hr
  by_cases hsz : 1 ≤ k ∧ (k : Int) ≤ m
  case neg =>
    have hF : refF m l C = false := by rw [refF, hr, hlenc, decide_eq_false (by omega)]; rfl
    rw [hF]
    have hd : decide ((k : Int) < 1) = true ∨ (decide ((k : Int) < 1) = false ∧ decide (m < (k : Int)) = true) := by
      simp only [decide_eq_true_eq, decide_eq_false_iff_not]; omega
    have Hr := Lib.hid hr
    clear hF hr hsz
    rcases hd with hd | ⟨hd1, hd2⟩
    all_goals
      go_enter Try.func20, Try.ntmps20
      go_wp2_with (go_at_call 16; refine (Hright.out _ hl).mono ?_; rw [Hr.out]; rintro e w1 ⟨rfl, hb1⟩)
      go_ret
      exact ⟨rfl, hb1⟩
  obtain ⟨k1, k2⟩ := hsz
  obtain ⟨m, rfl⟩ := Int.eq_ofNat_of_zero_le (show 0 ≤ m by omega)
  have HN : RowKit.Hid (∀ j, j < k → lnk (stepsF m l) C j = false → refF m l C = false) := Lib.hid fun j hj h => by
    have : (List.range C.length).all (lnk (stepsF m l) C) = false := by
      rw [List.all_eq_false]; exact ⟨j, List.mem_range.2 (by omega), by simp [h]⟩
    rw [refF, Int.toNat_natCast, this, Bool.false_and, Bool.and_false, Bool.and_false]
  have HY : RowKit.Hid ((∀ j, j < k → lnk (stepsF m l) C j = true) → refF m l C = decide (0 < sumN (fun j => (aAt C j).2.2) k)) := Lib.hid fun h => by
    have : (List.range C.length).all (lnk (stepsF m l) C) = true := by
      rw [List.all_eq_true]; intro j hj; exact h j (by have := List.mem_range.1 hj; omega)
    rw [refF, Int.toNat_natCast, this, hr, hlenc, decide_eq_true (⟨k1, k2⟩ : 1 ≤ k ∧ (k : Int) ≤ (m : Int)), Bool.true_and, Bool.true_and, Bool.true_and]
  have Hlnk : RowKit.Hid (∀ j, lnk (stepsF m l) C j = (decide ((aAt C j).1 = (aAt C (prevI k j)).2.1) && (stepsF m l).contains (aAt C j))) := Lib.hid fun j => by rw [lnk, hlenc]
  have Hgap := Lib.hid (fun j h => gap_bd (C := C) hr (k := j) h)
  have Hsteps := Lib.hid (fun w h => steps_any m A n cap l w h hr)
  have hslen := steps_len (n := m) (l := l)
  rw [hlen] at hslen hl2
  have Hr := Lib.hid hr
  clear hr hlen hlenc
  generalize refF m l C = RR at *
  generalize stepsF m l = all at *
  obtain ⟨N, hN⟩ : ∃ N, all.length = N := ⟨_, rfl⟩
  rw [hN] at hslen
  have HNl := Lib.hid hN
  clear hN
  have hd1 : decide ((k : Int) < 1) = false := by simp; omega
  have hd2 : decide ((m : Int) < (k : Int)) = false := by simp; omega
  have hwk : IntKind.i64.wrap ((k : Int) - 1) = ((k - 1 : Nat) : Int) := by rw [IntWalk.i64_in _ (by omega)]; omega
  have hk1 : ((k - 1 : Nat) : Int) < (k : Int) := by omega
  have hk0 : (0 : Int) ≤ ((k - 1 : Nat) : Int) := by omega
  go_enter Try.func20, Try.ntmps20
  go_wp2_with (go_at_call 16; refine (Hright.out _ hl).mono ?_; rw [Hr.out]; rintro e w1 ⟨rfl, hb1⟩
               have hl1 := hl.up (flat_lasts _) hb1)
  refine (Hsteps.out _ hl1).mono ?_
  rintro e w3 ⟨v2, rfl, ho2, hb2⟩
  have hb03 := hb1.trans (hb2.mono hb1.size)
  obtain ⟨As, cs, rfl, rs⟩ := ho2.rd tSized (by rw [HNl.out]; omega)
  rw [HNl.out] at rs ⊢
  have hc3 := hc.up (flat_lasts _) hb03
  clear ho2 hb1 hb2 hl1
  obtain ⟨bz, oz, xz, yz, zz, rfl, hbz, hz, z0, z1, z2⟩ := hc3.atT (k := k - 1) (by omega)
  have Hzl := Lib.hid (show aAt C (prevI k 0) = (xz, yz, zz) by rw [show prevI k 0 = k - 1 by simp [prevI]]; exact aAt_eq hz)
  clear hz
  have hb4 : Below w3.heap.size w3 (w3.alloc (.cells #[.int .i64 xz, .int .i64 yz, .int .i64 zz] 35)) := (Below.refl w3.heap.size w3).alloc (Nat.le_refl _) _
  have l0 : (w3.alloc (.cells #[.int .i64 xz, .int .i64 yz, .int .i64 zz] 35)).cell? ⟨w3.heap.size, 0, none⟩ = some (.int .i64 xz) := new_cell rfl rfl
  have l1 : (w3.alloc (.cells #[.int .i64 xz, .int .i64 yz, .int .i64 zz] 35)).cell? ⟨w3.heap.size, 1, none⟩ = some (.int .i64 yz) := new_cell rfl rfl
  have l2 : (w3.alloc (.cells #[.int .i64 xz, .int .i64 yz, .int .i64 zz] 35)).cell? ⟨w3.heap.size, 2, none⟩ = some (.int .i64 zz) := new_cell rfl rfl
  have lf : ∀ j, (w3.alloc (.cells #[.int .i64 xz, .int .i64 yz, .int .i64 zz] 35)).frozen? ⟨w3.heap.size, j, none⟩ = false := fun j => new_frozen rfl
  have hl3 : w3.heap.size < (w3.alloc (.cells #[.int .i64 xz, .int .i64 yz, .int .i64 zz] 35)).heap.size := by simp
  have Lf := Lib.hid lf
  clear lf
  go_wp2
  generalize w3.alloc (.cells #[.int .i64 xz, .int .i64 yz, .int .i64 zz] 35) = w4 at *
  go_loopg [8, 38] k (fun gk sum i wr => ∃ (j : Nat) (q0 q1 q2 : Int), j ≤ k ∧ gk = k - j ∧ i = .int .i64 j ∧ sum = .int .i64 (sumN (fun j => (aAt C j).2.2) j) ∧ (∀ i, i < j → lnk all C i = true) ∧ aAt C (prevI k j) = (q0, q1, q2) ∧ wr.cell? ⟨w3.heap.size, 0, none⟩ = some (.int .i64 q0) ∧ wr.cell? ⟨w3.heap.size, 1, none⟩ = some (.int .i64 q1) ∧ wr.cell? ⟨w3.heap.size, 2, none⟩ = some (.int .i64 q2) ∧ (∀ j, wr.frozen? ⟨w3.heap.size, j, none⟩ = false) ∧ w3.heap.size < wr.heap.size ∧ Below w3.heap.size w3 wr)
  case atStart => exact ⟨0, xz, yz, zz, Nat.zero_le _, rfl, rfl, rfl, (fun i h => absurd h (by omega)), Hzl.out, l0, l1, l2, Lf.out, hl3, hb4⟩
  case round =>
    clear l0 l1 l2 hl3 hb4
    obtain ⟨j, q0, q1, q2, hj, rfl, rfl, rfl, hall, hprev, l0, l1, l2, lf, hlr, hb⟩ := hrel
    have Hall := Lib.hid hall; have Hprev := Lib.hid hprev; have Lf := Lib.hid lf
    clear hall hprev lf
    by_cases hlt : j < k
    · obtain ⟨b, off, x, y, z, hA, hbB, hx, c0, c1, c2⟩ := (hc3.up (flat_lasts _) hb).atT hlt
      injection hA with hA; injection hA with hA1 hA2
      subst hA1 hA2
      have ha := aAt_eq hx
      have hji : (j : Int) < (k : Int) := by omega
      have hj0 : (0 : Int) ≤ (j : Int) := by omega
      have hlk := Hlnk.out j
      rw [ha, Hprev.out] at hlk
      simp only at hlk
      have hw5 : Below w3.heap.size w3 (wr.alloc (.cells #[.int .i64 x, .int .i64 y, .int .i64 z] 35)) := hb.alloc hb.size _
      have d0 : (wr.alloc (.cells #[.int .i64 x, .int .i64 y, .int .i64 z] 35)).cell? ⟨wr.heap.size, 0, none⟩ = some (.int .i64 x) := new_cell rfl rfl
      have d1 : (wr.alloc (.cells #[.int .i64 x, .int .i64 y, .int .i64 z] 35)).cell? ⟨wr.heap.size, 1, none⟩ = some (.int .i64 y) := new_cell rfl rfl
      have d2 : (wr.alloc (.cells #[.int .i64 x, .int .i64 y, .int .i64 z] 35)).cell? ⟨wr.heap.size, 2, none⟩ = some (.int .i64 z) := new_cell rfl rfl
      have hs5 : wr.heap.size < (wr.alloc (.cells #[.int .i64 x, .int .i64 y, .int .i64 z] 35)).heap.size := by simp
      have hka : Kept (fun _ => False) wr (wr.alloc (.cells #[.int .i64 x, .int .i64 y, .int .i64 z] 35)) := (Kept.refl (fun _ => False) wr).alloc _
      have m0 := (hka.cell (p := ⟨w3.heap.size, 0, none⟩) hlr (fun h => h)).trans l0
      have m1 := (hka.cell (p := ⟨w3.heap.size, 1, none⟩) hlr (fun h => h)).trans l1
      have m2 := (hka.cell (p := ⟨w3.heap.size, 2, none⟩) hlr (fun h => h)).trans l2
      have Mf := Lib.hid (fun j => (hka.frozen (p := ⟨w3.heap.size, j, none⟩) hlr (fun h => h)).trans (Lf.out j))
      have Hcont := Lib.hid (fun w h => contains_any As N cs all x y z w h)
      have hH : w3.heap.size < (wr.alloc (.cells #[.int .i64 x, .int .i64 y, .int .i64 z] 35)).heap.size := by simp; omega
      have hgap := (Hgap.out j (fun i hi => by
        have := Hall.out i hi
        rw [Hlnk.out i, Bool.and_eq_true] at this
        exact this.2))
      have Ha := Lib.hid ha
      clear hka hx ha Lf l0 l1 l2
      by_cases hxq : x = q1
      · have hne : (x != q1) = false := by simp [hxq]
        rw [decide_eq_true hxq, Bool.true_and] at hlk
        cases hcon : all.contains (x, y, z)
        · rw [hcon] at hlk Hcont
          have HF := Lib.hid (HN.out j hlt hlk)
          clear hlk hcon hxq
          go_wp2_with (go_at_call 30; refine (Hcont.out _ (rs.up (flat_lasts _) hw5)).mono ?_; rintro e w6 ⟨rfl, hb6⟩)
          go_ret
          exact ⟨by rw [HF.out]; rfl, hb03.trans ((hw5.trans (hb6.mono hw5.size)).mono hb03.size)⟩
        · rw [hcon] at hlk Hcont
          have Hlk := Lib.hid hlk
          have hos := (Hgap.out (j + 1) (fun i hi => by
            by_cases e : i = j
            · subst e; rw [Ha.out]; exact hcon
            · have := Hall.out i (by omega)
              rw [Hlnk.out i, Bool.and_eq_true] at this
              exact this.2))
          have hsum : sumN (fun j => (aAt C j).2.2) (j + 1) = sumN (fun j => (aAt C j).2.2) j + z := by rw [sumN, Ha.out]
          rw [hsum] at hos
          have Hsum := Lib.hid hsum
          obtain ⟨SS, hSS⟩ : ∃ x, sumN (fun j => (aAt C j).2.2) j = x := ⟨_, rfl⟩
          rw [hSS] at hos hgap ⊢
          have HSS := Lib.hid hSS
          have hwS : IntKind.i64.wrap (SS + z) = SS + z := IntWalk.i64_in _ (by omega)
          clear hlk hcon hxq hsum hSS hos hgap
          go_wp2_with (go_at_call 30; refine (Hcont.out _ (rs.up (flat_lasts _) hw5)).mono ?_; rintro e w6 ⟨rfl, hb6⟩
                       have hk6 := below_keptAll hb6
                       have e0 := (hb6.cell (p := ⟨wr.heap.size, 0, none⟩) hs5).trans d0
                       have e1 := (hb6.cell (p := ⟨wr.heap.size, 1, none⟩) hs5).trans d1
                       have e2 := (hb6.cell (p := ⟨wr.heap.size, 2, none⟩) hs5).trans d2
                       have n0 := (hb6.cell (p := ⟨w3.heap.size, 0, none⟩) hH).trans m0
                       have n1 := (hb6.cell (p := ⟨w3.heap.size, 1, none⟩) hH).trans m1
                       have n2 := (hb6.cell (p := ⟨w3.heap.size, 2, none⟩) hH).trans m2
                       have nf0 := (hk6.frozen (p := ⟨w3.heap.size, 0, none⟩) hH (fun h => h)).trans (Mf.out 0)
                       have nf1 := (hk6.frozen (p := ⟨w3.heap.size, 1, none⟩) hH (fun h => h)).trans (Mf.out 1)
                       have nf2 := (hk6.frozen (p := ⟨w3.heap.size, 2, none⟩) hH (fun h => h)).trans (Mf.out 2)
                       have Nf := Lib.hid (fun j => (hk6.frozen (p := ⟨w3.heap.size, j, none⟩) hH (fun h => h)).trans (Mf.out j))
                       have hb36 := hw5.trans (hb6.mono hw5.size)
                       have hH6 := Nat.lt_of_lt_of_le hH hb6.size
                       clear d0 d1 d2 m0 m1 m2 hk6 hb6)
          obtain ⟨r0, r1, r2⟩ := set3 (x := .int .i64 x) (y := .int .i64 y) (z := .int .i64 z) n0 n1 n2
          have rf := set3_frozen (x := .int .i64 x) (y := .int .i64 y) (z := .int .i64 z) Nf.out
          have hb7 := ((hb36.setCell (p := ⟨w3.heap.size, 0, none⟩) (Nat.le_refl _) (.int .i64 x)).setCell (p := ⟨w3.heap.size, 1, none⟩) (Nat.le_refl _) (.int .i64 y)).setCell (p := ⟨w3.heap.size, 2, none⟩) (Nat.le_refl _) (.int .i64 z)
          go_roundg (k - (j + 1))
          case rel => exact ⟨j + 1, x, y, z, by omega, rfl, by go_num, by rw [Hsum.out, HSS.out], (fun i hi => by
            by_cases e : i = j
            · subst e; exact Hlk.out
            · exact Hall.out i (by omega)), by rw [show prevI k (j + 1) = j by simp [prevI]]; exact Ha.out, r0, r1, r2, rf, by simp [World.setCell] <;> omega, hb7⟩
          case measure => omega
      · have hne : (x != q1) = true := by simpa using hxq
        rw [decide_eq_false hxq, Bool.false_and] at hlk
        have HF := Lib.hid (HN.out j hlt hlk)
        clear hlk hxq
        go_wp2
        go_ret
        exact ⟨by rw [HF.out]; rfl, hb03.trans (hw5.mono hb03.size)⟩
    · have e : j = k := by omega
      subst e
      have HF := Lib.hid (HY.out Hall.out)
      generalize sumN (fun j => (aAt C j).2.2) j = SS at *
      go_wp2
      go_ret
      exact ⟨by rw [HF.out]; rfl, hb03.trans (hb.mono hb03.size)⟩
end Go.Proofs.Ythmnkmomgaamlaa
