/- Walk over steps of package lags. Conditions stand in the theorem. -/
import Derived.Test.YthmnkmomgaamlaaR1
namespace Go.Proofs.Ythmnkmomgaamlaa
open Go.RowKit
set_option linter.unusedVariables false

theorem flat_take {l : List Lg} {k : Nat} {x : Lg} (h : l[k]? = some x) : (l.take (k + 1)).flatMap stL = (l.take k).flatMap stL ++ stL x := by
  rw [List.take_add_one, h, List.flatMap_append]; simp
theorem zs_more (l : List St) (n k : Nat) : l ++ ofF (k + 1) (fun i => ((0, ((i + 1 : Nat) : Int), 0) : St)) = (l ++ ofF k (fun i => ((0, ((i + 1 : Nat) : Int), 0) : St))) ++ [(0, ((k + 1 : Nat) : Int), 0)] := by
  rw [ofF_succ, List.append_assoc]
def OwnPost (sz : Nat) {α : Type} (enc : α → List Value) (t : TypeId) (w : World) (L : List α) (e : Ending) (w' : World) : Prop := ∃ v, e = .returned v ∧ Own sz enc w' w.heap.size t v L ∧ Below w.heap.size w w'

set_option maxRecDepth 100000 in
set_option maxHeartbeats 1000000 in
theorem steps_any (m : Nat) (A : Option Addr) (n cap : Nat) (l : List Lg) (w : World) (hl : RdL w w.heap.size A n cap l) (hr : rightL m l = true) :
  Calls Try.prog 23 #[.int .i64 m, .slice A n cap] w (OwnPost 3 tEnc 35 w (stepsF m l)) := by
  obtain ⟨i0, hi0, hz0, hz1, hz2⟩ := info_parts step_info
  have hcaps := hl.caps
  have hlen := hl.len
  obtain ⟨⟨m1, m2⟩, hl2, hok⟩ := rightL_iff hr
  rw [hlen] at hl2
  have Hok := Lib.hid hok; have Hlen := Lib.hid hlen
  clear hok hr hlen
  unfold stepsF zs
  have hfl0 := flat_len l
  rw [Hlen.out] at hfl0
  obtain ⟨PL, hPL⟩ : ∃ P, l.flatMap stL = P := ⟨_, rfl⟩
  rw [hPL] at hfl0 ⊢
  have HPL := Lib.hid hPL
  clear hPL
  go_enter Try.func23, Try.ntmps23
  go_wp2
  go_loopg [5, 11] n (fun gk v i wr => ∃ k : Nat, k ≤ n ∧ gk = n - k ∧ i = .int .i64 k ∧ Own 3 tEnc wr w.heap.size 35 v ((l.take k).flatMap stL) ∧ Below w.heap.size w wr)
  case atStart => exact ⟨0, Nat.zero_le _, rfl, rfl, by simpa using Own.nil, Below.refl _ _⟩
  case round =>
    obtain ⟨k, hk, rfl, rfl, ho, hb⟩ := hrel
    by_cases hlt : k < n
    · obtain ⟨b, off, x, y, z, u, rfl, hbB, hx, c0, c1, c2, c3⟩ := (hl.below (flat_lasts _) hb (Nat.le_refl _) (Nat.le_refl _)).atL hlt
      have hki : (k : Int) < (n : Int) := by omega
      have hk0 : (0 : Int) ≤ (k : Int) := by omega
      have hsz := hb.size
      have hft := flat_take hx
      have hol := okL_iff (Hok.out k _ hx)
      have hfl := flat_len (l.take k)
      rw [List.length_take] at hfl
      obtain ⟨P, hP⟩ : ∃ P, (l.take k).flatMap stL = P := ⟨_, rfl⟩
      rw [hP] at ho hft hfl
      have Hft := Lib.hid hft
      clear hft hx hP
      have hP2 : P.length ≤ 4000 := by omega
      have hb1 : Below w.heap.size w (wr.alloc (.cells #[.int .i64 x, .int .i64 y, .int .i64 z, .int .i64 u] 47)) := hb.alloc hsz _
      have ho1 := ho.alloc (.cells #[.int .i64 x, .int .i64 y, .int .i64 z, .int .i64 u] 47)
      have d0 : (wr.alloc (.cells #[.int .i64 x, .int .i64 y, .int .i64 z, .int .i64 u] 47)).cell? ⟨wr.heap.size, 0, none⟩ = some (.int .i64 x) := new_cell rfl rfl
      have d1 : (wr.alloc (.cells #[.int .i64 x, .int .i64 y, .int .i64 z, .int .i64 u] 47)).cell? ⟨wr.heap.size, 1, none⟩ = some (.int .i64 y) := new_cell rfl rfl
      have d3 : (wr.alloc (.cells #[.int .i64 x, .int .i64 y, .int .i64 z, .int .i64 u] 47)).cell? ⟨wr.heap.size, 3, none⟩ = some (.int .i64 u) := new_cell rfl rfl
      have hs1 : wr.heap.size < (wr.alloc (.cells #[.int .i64 x, .int .i64 y, .int .i64 z, .int .i64 u] 47)).heap.size := by simp
      have hP3 : (P ++ [(x, y, z)]).length ≤ 4001 := by rw [List.length_append]; simp; omega
      have hno : ¬ u5.ownBlock = some wr.heap.size := fun h => by have := (ho.lt _ h).2; omega
      have Hold : RowKit.Hid (∀ o w4, World.grownBy ((wr.alloc (.cells #[.int .i64 x, .int .i64 y, .int .i64 z, .int .i64 u] 47)).alloc o) w4 u5.ownBlock → ∀ j q, (wr.alloc (.cells #[.int .i64 x, .int .i64 y, .int .i64 z, .int .i64 u] 47)).cell? ⟨wr.heap.size, j, none⟩ = some q → w4.cell? ⟨wr.heap.size, j, none⟩ = some q) := Lib.hid fun o w4 hg j q hc =>
        ((((Kept.refl (fun i => u5.ownBlock = some i) _).alloc o).trans (grown_kept hg) (fun _ _ h => h)).cell (p := ⟨wr.heap.size, j, none⟩) hs1 hno).trans hc
      by_cases hu : u = -1
      · have hst : stL (x, y, z, u) = [(x, y, z)] := by simp [stL, hu]
        rw [hst] at Hft
        have hne : (u != -1) = false := by simp [hu]
        clear hst hu
        go_wp2_with (at_builtin
                     refine wpList_app _ tSized rfl _ _ 26 rfl w.heap.size 35 i0 _ 24 Try.underlying26 hi0 hz0 hz1 hz2 rfl _ P rfl (ho1.alloc _) _ _ 1 1 [(x, y, z)] rfl (Rd.litG tSized 35 [(x, y, z)] #[.int .i64 x, .int .i64 y, .int .i64 z] 1 (wr.heap.size + 1) (by simp) rfl rfl (by omega)) (by simp only [maxLen]; omega) (by omega) (by simp; omega) ?_
                     intro v4 w4 ho4 hg4 hx4
                     have hb4 : Below w.heap.size w w4 := Own.grow (ho1.alloc _) (Nat.le_refl _) (hb1.alloc hb1.size _) (by simp; omega) hg4
                     have e0 := Hold.out _ w4 hg4 0 _ d0
                     have e1 := Hold.out _ w4 hg4 1 _ d1
                     have e3 := Hold.out _ w4 hg4 3 _ d3)
        go_roundg (n - (k + 1))
        case rel => exact ⟨k + 1, by omega, rfl, by go_num, by rw [Hft.out]; exact ho4, hb4⟩
        case measure => omega
      · have hst : stL (x, y, z, u) = [(x, y, z)] ++ [(y, x, -u)] := by simp [stL, hu]
        rw [hst, ← List.append_assoc] at Hft
        have hne : (u != -1) = true := by simpa using hu
        simp only at hol
        have hw : IntKind.i64.wrap (-u) = -u := IntWalk.i64_in _ (by omega)
        obtain ⟨P2, hPP⟩ : ∃ P2, P ++ [(x, y, z)] = P2 := ⟨_, rfl⟩
        have HPP := Lib.hid hPP
        rw [hPP] at Hft hP3
        clear hst hu hol hPP
        go_wp2_with (first
                  | (at_builtin
                     refine wpList_app _ tSized rfl _ _ 26 rfl w.heap.size 35 i0 _ 24 Try.underlying26 hi0 hz0 hz1 hz2 rfl _ P rfl (ho1.alloc _) _ _ 1 1 [(x, y, z)] rfl (Rd.litG tSized 35 [(x, y, z)] #[.int .i64 x, .int .i64 y, .int .i64 z] 1 (wr.heap.size + 1) (by simp) rfl rfl (by omega)) (by simp only [maxLen]; omega) (by omega) (by simp; omega) ?_
                     intro v4 w4 ho4 hg4 hx4
                     have hb4 : Below w.heap.size w w4 := Own.grow (ho1.alloc _) (Nat.le_refl _) (hb1.alloc hb1.size _) (by simp; omega) hg4
                     have e0 := Hold.out _ w4 hg4 0 _ d0
                     have e1 := Hold.out _ w4 hg4 1 _ d1
                     have e3 := Hold.out _ w4 hg4 3 _ d3
                     rw [HPP.out] at ho4
                     have hs4 := hb4.size)
                  | (at_builtin
                     refine wpList_app _ tSized rfl _ _ 26 rfl w.heap.size 35 i0 _ 24 Try.underlying26 hi0 hz0 hz1 hz2 rfl _ P2 rfl (ho4.alloc _) _ _ 1 1 [(y, x, -u)] rfl (Rd.new1 tSized _ (y, x, -u) #[.int .i64 y, .int .i64 x, .int .i64 (-u)] rfl 35) (by simp only [maxLen]; omega) (by omega) (by simp; omega) ?_
                     intro v5 w5 ho5 hg5 hx5
                     have hb5 : Below w.heap.size w w5 := Own.grow (ho4.alloc _) (Nat.le_refl _) (hb4.alloc hs4 _) (by simp; omega) hg5))
        go_roundg (n - (k + 1))
        case rel => exact ⟨k + 1, by omega, rfl, by go_num, by rw [Hft.out]; exact ho5, hb5⟩
        case measure => omega
    · have e : k = n := by omega
      subst e
      have hlt : l.take k = l := List.take_of_length_le (by rw [Hlen.out]; omega)
      rw [hlt, HPL.out] at ho
      clear hlt
      go_wp2
      go_loopg [5, 8] (m - 1) (fun gk v i wr => ∃ k : Nat, k ≤ m - 1 ∧ gk = m - 1 - k ∧ i = .int .i64 ((k : Int) + 1) ∧ Own 3 tEnc wr w.heap.size 35 v (PL ++ ofF k (fun i => (0, ((i + 1 : Nat) : Int), 0))) ∧ Below w.heap.size w wr)
      case atStart => exact ⟨0, Nat.zero_le _, rfl, by simp, by simpa [ofF] using ho, hb⟩
      case round =>
        clear ho hb
        obtain ⟨j, hj, rfl, rfl, ho, hb⟩ := hrel
        have hsz := hb.size
        by_cases hlt : j < m - 1
        · have hji : (j : Int) + 1 < (m : Int) := by omega
          have hw : IntKind.i64.wrap ((j : Int) + 1 + 1) = (j : Int) + 1 + 1 := IntWalk.i64_in _ (by omega)
          have hmore := zs_more PL m j
          obtain ⟨P2, hP2⟩ : ∃ P2, PL ++ ofF j (fun i => ((0, ((i + 1 : Nat) : Int), 0) : St)) = P2 := ⟨_, rfl⟩
          have hlen2 : P2.length ≤ 4200 := by rw [← hP2, List.length_append, ofF_len]; omega
          rw [hP2] at ho hmore
          have Hmore := Lib.hid hmore
          clear hmore hP2
          go_wp2_with (at_builtin
                       refine wpList_app _ tSized rfl _ _ 26 rfl w.heap.size 35 i0 _ 24 Try.underlying26 hi0 hz0 hz1 hz2 rfl _ P2 rfl (ho.alloc _) _ _ 1 1 [(0, (j : Int) + 1, 0)] rfl (Rd.new1 tSized _ (0, (j : Int) + 1, 0) #[.int .i64 0, .int .i64 ((j : Int) + 1), .int .i64 0] rfl 35) (by simp only [maxLen]; omega) (by omega) (by simp; omega) ?_
                       intro v4 w4 ho4 hg4 hx4
                       have hb4 : Below w.heap.size w w4 := Own.grow (ho.alloc _) (Nat.le_refl _) (hb.alloc hsz _) (by simp; omega) hg4)
          go_roundg (m - 1 - (j + 1))
          case rel => exact ⟨j + 1, by omega, rfl, by go_num, by rw [Hmore.out]; exact ho4, hb4⟩
          case measure => omega
        · have e : j = m - 1 := by omega
          subst e
          have hji : ¬ ((m - 1 : Nat) : Int) + 1 < (m : Int) := by omega
          go_wp2
          go_ret
          exact ⟨_, rfl, ho, hb⟩
end Go.Proofs.Ythmnkmomgaamlaa
