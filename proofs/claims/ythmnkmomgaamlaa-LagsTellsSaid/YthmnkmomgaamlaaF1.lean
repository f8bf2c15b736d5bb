/- Walk over Steps of the reference of layer 15. Conditions stand in the theorem. -/
import Derived.Test.YthmnkmomgaamlaaR2
import Derived.Test.YthmnkmomgaamlaaLb
import Derived.Deep.RegionHeld3
namespace Go.Proofs.Ythmnkmomgaamlaa
open Go.RowKit
set_option linter.unusedVariables false

def rstepsF (n : Nat) (l : List Lg) : List St := zs n ++ l.flatMap stL
theorem rsteps_mem {n : Nat} {l : List Lg} {s : St} : s ∈ rstepsF n l ↔ s ∈ stepsF n l := by
  unfold rstepsF stepsF
  rw [List.mem_append, List.mem_append]
  exact Or.comm
theorem rsteps_len {n : Nat} {l : List Lg} : (rstepsF n l).length ≤ 2 * l.length + (n - 1) := by
  have h := steps_len (n := n) (l := l)
  have e : (rstepsF n l).length = (stepsF n l).length := by unfold rstepsF stepsF; rw [List.length_append, List.length_append]; omega
  omega
set_option maxRecDepth 100000 in
set_option maxHeartbeats 2000000 in
theorem rsteps_any (m : Nat) (A : Option Addr) (n cap : Nat) (l : List Lg) (w : World) (hl : RdL w w.heap.size A n cap l) (hr : rightL m l = true) :
  Calls Try.prog 29 #[.int .i64 m, .slice A n cap] w (OwnPost 3 tEnc 34 w (rstepsF m l)) := by
  obtain ⟨i0, hi0, hz0, hz1, hz2⟩ := info_parts rstep_info
  have hcaps := hl.caps
  have hlen := hl.len
  obtain ⟨⟨m1, m2⟩, hl2, hok⟩ := rightL_iff hr
  rw [hlen] at hl2
  have Hok := Lib.hid hok; have Hlen := Lib.hid hlen
  clear hok hr hlen
  unfold rstepsF
  have hzl : (zs m).length ≤ 200 := by rw [zs, ofF_len]; omega
  have Hzm : RowKit.Hid (∀ k, ofF k (fun i => ((0, ((i + 1 : Nat) : Int), 0) : St)) ++ [(0, (k : Int) + 1, 0)] = ofF (k + 1) (fun i => ((0, ((i + 1 : Nat) : Int), 0) : St))) := Lib.hid fun k => by
    rw [ofF_succ]; rfl
  have Hzf : RowKit.Hid (ofF (m - 1) (fun i => ((0, ((i + 1 : Nat) : Int), 0) : St)) = zs m) := Lib.hid rfl
  go_enter Try.func29, Try.ntmps29
  go_wp2
  go_loopg [5, 6] (m - 1) (fun gk v i wr => ∃ k : Nat, k ≤ m - 1 ∧ gk = m - 1 - k ∧ i = .int .i64 ((k : Int) + 1) ∧ Own 3 tEnc wr w.heap.size 34 v (ofF k (fun i => (0, ((i + 1 : Nat) : Int), 0))) ∧ Below w.heap.size w wr)
  case atStart => exact ⟨0, Nat.zero_le _, rfl, by simp, Own.nil, Below.refl _ _⟩
  case round =>
    obtain ⟨j, hj, rfl, rfl, ho, hb⟩ := hrel
    have hsz := hb.size
    by_cases hlt : j < m - 1
    · have hji : (j : Int) + 1 < (m : Int) := by omega
      have hw : IntKind.i64.wrap ((j : Int) + 1 + 1) = (j : Int) + 1 + 1 := IntWalk.i64_in _ (by omega)
      go_wp2_with (at_builtin
                   refine wpList_app1 tSized rfl _ _ 24 rfl w.heap.size 34 i0 _ 24 Try.underlying24 hi0 hz0 hz1 hz2 rfl _ _ rfl ho (0, (j : Int) + 1, 0) _ rfl wr.heap.size rfl rfl (by rw [ofF_len]; omega) (by omega) hsz ?_
                   intro v4 w4 ho4 hk4 hn4 hB4
                   have hb4 := hB4 _ _ (Nat.le_refl _) hb
                   rw [Hzm.out] at ho4)
      go_roundg (m - 1 - (j + 1))
      case rel => exact ⟨j + 1, by omega, rfl, by go_num, ho4, hb4⟩
      case measure => omega
    · have e : j = m - 1 := by omega
      subst e
      have hji : ¬ ((m - 1 : Nat) : Int) + 1 < (m : Int) := by omega
      rw [Hzf.out] at ho
      go_wp2
      go_loopg [5, 7] n (fun gk v i wr => ∃ k : Nat, k ≤ n ∧ gk = n - k ∧ i = .int .i64 k ∧ Own 3 tEnc wr w.heap.size 34 v (zs m ++ (l.take k).flatMap stL) ∧ Below w.heap.size w wr)
      case atStart => exact ⟨0, Nat.zero_le _, rfl, rfl, by simpa using ho, hb⟩
      case round =>
        clear ho hb hsz
        obtain ⟨k, hk, rfl, rfl, ho, hb⟩ := hrel
        have hsz := hb.size
        by_cases hlt : k < n
        · obtain ⟨b, off, x, y, z, u, rfl, hbB, hx, c0, c1, c2, c3⟩ := (hl.below (flat_lasts _) hb (Nat.le_refl _) (Nat.le_refl _)).atL hlt
          have hbw : b < w.heap.size := hbB
          have hbr : b < wr.heap.size := by omega
          have hki : (k : Int) < (n : Int) := by omega
          have hk0 : (0 : Int) ≤ (k : Int) := by omega
          have hft := flat_take hx
          have hol := okL_iff (Hok.out k _ hx)
          have hfl := flat_len (l.take k)
          rw [List.length_take] at hfl
          have hPl : (zs m ++ (l.take k).flatMap stL).length ≤ 4200 := by rw [List.length_append]; omega
          have hft2 : zs m ++ (l.take (k + 1)).flatMap stL = zs m ++ (l.take k).flatMap stL ++ stL (x, y, z, u) := by rw [hft, List.append_assoc]
          obtain ⟨P, hP⟩ : ∃ P, zs m ++ (l.take k).flatMap stL = P := ⟨_, rfl⟩
          rw [hP] at ho hft2 hPl
          have Hft := Lib.hid hft2
          simp only at hol
          have hwu : IntKind.i64.wrap (-u) = -u := IntWalk.i64_in _ (by omega)
          have hlen1 : (P ++ [(x, y, z)]).length ≤ 4201 := by rw [List.length_append]; simp; omega
          have hcase : (u = -1 ∧ decide (0 ≤ u) = false) ∨ (u ≠ -1 ∧ decide (0 ≤ u) = true) := by
            simp only [decide_eq_false_iff_not, decide_eq_true_eq]; omega
          clear hft hft2 hx hP hol
          go_wp2
          go_region_held3 (fun w' => w'.cell? ⟨b, off + k * 4, none⟩ = some (.int .i64 x) ∧ w'.cell? ⟨b, off + k * 4 + 1, none⟩ = some (.int .i64 y) ∧ w'.cell? ⟨b, off + k * 4 + 2, none⟩ = some (.int .i64 z))
            (first | exact ⟨c0, c1, c2⟩ | exact ⟨(World.cell?_alloc_lt _ _ _ hbr).trans c0, (World.cell?_alloc_lt _ _ _ hbr).trans c1, (World.cell?_alloc_lt _ _ _ hbr).trans c2⟩ | exact ⟨d0, d1, d2⟩ | go_keep)
            (first
              | (refine step_app1 tSized (by rfl) _ _ 24 (by rfl) w.heap.size 34 i0 _ 24 Try.underlying24 hi0 hz0 hz1 hz2 rfl _ P (by rfl) ho.drew (x, y, z) _ rfl wr.heap.size rfl (by rfl) (by omega) (by omega) hsz ?_
                 intro v5 w5 ho5 hk5 hn5 hB5
                 have hb5 := hB5 _ _ (Nat.le_refl _) hb.drew
                 have d0 := ((hb5.cell (p := ⟨b, off + k * 4, none⟩) hbw).trans (hb.cell hbw).symm).trans c0
                 have d1 := ((hb5.cell (p := ⟨b, off + k * 4 + 1, none⟩) hbw).trans (hb.cell hbw).symm).trans c1
                 have d2 := ((hb5.cell (p := ⟨b, off + k * 4 + 2, none⟩) hbw).trans (hb.cell hbw).symm).trans c2
                 have d3 := ((hb5.cell (p := ⟨b, off + k * 4 + 3, none⟩) hbw).trans (hb.cell hbw).symm).trans c3))
          have hsz5 := hb5.size
          have hbr5 : b < w5.heap.size := by omega
          clear hk5 hn5 hB5 ho
          rcases hcase with ⟨hu, hd⟩ | ⟨hu, hd⟩
          · have hst : P ++ stL (x, y, z, u) = P ++ [(x, y, z)] := by simp [stL, hu]
            have Hst := Lib.hid (Hft.out.trans hst)
            clear hst hu
            go_wp2
            go_roundg (n - (k + 1))
            case rel => exact ⟨k + 1, by omega, rfl, by go_num, by rw [Hst.out]; exact ho5, hb5⟩
            case measure => omega
          · have hst : P ++ stL (x, y, z, u) = (P ++ [(x, y, z)]) ++ [(y, x, -u)] := by simp [stL, hu]
            have Hst := Lib.hid (Hft.out.trans hst)
            obtain ⟨P2, hP2⟩ : ∃ P2, P ++ [(x, y, z)] = P2 := ⟨_, rfl⟩
            rw [hP2] at ho5 hlen1 Hst
            clear hst hu hP2
            go_wp2
            go_region_held3 (fun w' => w'.cell? ⟨b, off + k * 4, none⟩ = some (.int .i64 x) ∧ w'.cell? ⟨b, off + k * 4 + 1, none⟩ = some (.int .i64 y) ∧ w'.cell? ⟨b, off + k * 4 + 3, none⟩ = some (.int .i64 u))
              (first | exact ⟨d0, d1, d3⟩ | exact ⟨(World.cell?_alloc_lt _ _ _ hbr5).trans d0, (World.cell?_alloc_lt _ _ _ hbr5).trans d1, (World.cell?_alloc_lt _ _ _ hbr5).trans d3⟩ | exact ⟨f0, f1, f3⟩ | go_keep)
              (first
                | (refine step_app1 tSized (by rfl) _ _ 24 (by rfl) w.heap.size 34 i0 _ 24 Try.underlying24 hi0 hz0 hz1 hz2 rfl _ P2 (by rfl) ho5.drew (y, x, -u) _ rfl w5.heap.size rfl (by rfl) (by omega) (by omega) hsz5 ?_
                   intro v6 w6 ho6 hk6 hn6 hB6
                   have hb6 := hB6 _ _ (Nat.le_refl _) hb5.drew
                   have f0 := ((hb6.cell (p := ⟨b, off + k * 4, none⟩) hbw).trans (hb5.cell hbw).symm).trans d0
                   have f1 := ((hb6.cell (p := ⟨b, off + k * 4 + 1, none⟩) hbw).trans (hb5.cell hbw).symm).trans d1
                   have f3 := ((hb6.cell (p := ⟨b, off + k * 4 + 3, none⟩) hbw).trans (hb5.cell hbw).symm).trans d3))
            go_wp2
            go_roundg (n - (k + 1))
            case rel => exact ⟨k + 1, by omega, rfl, by go_num, by rw [Hst.out]; exact ho6, hb6⟩
            case measure => omega
        · have e : k = n := by omega
          subst e
          have hlt : l.take k = l := List.take_of_length_le (by rw [Hlen.out]; omega)
          rw [hlt] at ho
          clear hlt
          go_wp2
          go_ret
          exact ⟨_, rfl, ho, hb⟩
end Go.Proofs.Ythmnkmomgaamlaa
