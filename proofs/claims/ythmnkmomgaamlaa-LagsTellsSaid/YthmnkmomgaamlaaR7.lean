/- Walks over slices.Index, slices.Contains and Refute of package lags. Conditions stand in each theorem. -/
import Derived.Test.YthmnkmomgaamlaaR2
import Derived.Test.YthmnkmomgaamlaaLa
namespace Go.Proofs.Ythmnkmomgaamlaa
open Go.RowKit
set_option linter.unusedVariables false

def IndexPost (w : World) (all : List St) (s : St) (e : Ending) (w' : World) : Prop := ∃ r : Int, e = .returned (.int .i64 r) ∧ decide (0 ≤ r) = all.contains s ∧ Below w.heap.size w w'
set_option maxRecDepth 100000 in
theorem index_any (A : Option Addr) (n cap : Nat) (all : List St) (s0 s1 s2 : Int) (w : World) (hl : RdT w w.heap.size A n cap all) :
  Calls Try.prog 32 #[.slice A n cap, .agg #[.int .i64 s0, .int .i64 s1, .int .i64 s2]] w (IndexPost w all (s0, s1, s2)) := by
  have hcaps := hl.caps
  have hlen := hl.len
  have HY : RowKit.Hid (∀ k : Nat, all[k]? = some (s0, s1, s2) → all.contains (s0, s1, s2) = true) := Lib.hid fun k h => List.contains_iff_mem.2 (List.mem_of_getElem? h)
  have HN : RowKit.Hid ((∀ k, k < n → all[k]? ≠ some (s0, s1, s2)) → all.contains (s0, s1, s2) = false) := Lib.hid fun h => by
    cases hc : all.contains (s0, s1, s2)
    · rfl
    · obtain ⟨k, hk⟩ := List.mem_iff_getElem?.1 (List.contains_iff_mem.1 hc)
      exact absurd hk (h k (by have := (List.getElem?_eq_some_iff.1 hk).1; omega))
  clear hlen
  unfold IndexPost
  generalize all.contains (s0, s1, s2) = CC at *
  have hb0 : Below w.heap.size w (w.alloc (.cells #[.int .i64 s0, .int .i64 s1, .int .i64 s2] 35)) := (Below.refl w.heap.size w).alloc (Nat.le_refl _) _
  have e0 : (w.alloc (.cells #[.int .i64 s0, .int .i64 s1, .int .i64 s2] 35)).cell? ⟨w.heap.size, 0, none⟩ = some (.int .i64 s0) := new_cell rfl rfl
  have e1 : (w.alloc (.cells #[.int .i64 s0, .int .i64 s1, .int .i64 s2] 35)).cell? ⟨w.heap.size, 1, none⟩ = some (.int .i64 s1) := new_cell rfl rfl
  have e2 : (w.alloc (.cells #[.int .i64 s0, .int .i64 s1, .int .i64 s2] 35)).cell? ⟨w.heap.size, 2, none⟩ = some (.int .i64 s2) := new_cell rfl rfl
  go_enter Try.func32, Try.ntmps32
  go_wp2
  have hl1 := hl.up (flat_lasts _) hb0
  generalize w.alloc (.cells #[.int .i64 s0, .int .i64 s1, .int .i64 s2] 35) = w1 at *
  go_loopg [8] n (fun gk i wr => ∃ k : Nat, k ≤ n ∧ gk = n - k ∧ i = .int .i64 k ∧ (∀ j, j < k → all[j]? ≠ some (s0, s1, s2)) ∧ ∃ q, wr = w1.drewN q)
  case atStart => exact ⟨0, Nat.zero_le _, rfl, rfl, (fun j h => absurd h (by omega)), dr_zero w1⟩
  case round =>
    obtain ⟨k, hk, rfl, rfl, hall, hq⟩ := hrel
    have Hall := Lib.hid hall; have Hq := Lib.hid hq; clear hall hq
    by_cases hlt : k < n
    · obtain ⟨b, off, x, y, z, rfl, hbB, hx, c0, c1, c2⟩ := hl1.atT hlt
      have hki : (k : Int) < (n : Int) := by omega
      have hk0 : (0 : Int) ≤ (k : Int) := by omega
      have c0' := (dr_cell Hq.out ⟨b, off + k * 3, none⟩).trans c0
      have c1' := (dr_cell Hq.out ⟨b, off + k * 3 + 1, none⟩).trans c1
      have c2' := (dr_cell Hq.out ⟨b, off + k * 3 + 2, none⟩).trans c2
      have e0' := (dr_cell Hq.out ⟨w.heap.size, 0, none⟩).trans e0
      have e1' := (dr_cell Hq.out ⟨w.heap.size, 1, none⟩).trans e1
      have e2' := (dr_cell Hq.out ⟨w.heap.size, 2, none⟩).trans e2
      have hc : (s0 = x ∧ s1 = y ∧ s2 = z) ∨ ((s0 == x) = false) ∨ ((s0 == x) = true ∧ (s1 == y) = false) ∨ ((s0 == x) = true ∧ (s1 == y) = true ∧ (s2 == z) = false) := by
        simp only [beq_iff_eq, beq_eq_false_iff_ne, ne_eq]; omega
      rcases hc with ⟨rfl, rfl, rfl⟩ | hc
      · have hC := HY.out k hx
        have HC := Lib.hid hC
        have q0 : (s0 == s0) = true := by simp
        have q1 : (s1 == s1) = true := by simp
        have q2 : (s2 == s2) = true := by simp
        clear hC hx
        go_wp2
        go_quiet (fail)
        go_wp2
        go_ret
        obtain ⟨q, hq⟩ := dr_more Hq.out nq
        exact ⟨_, rfl, by rw [HC.out]; simp, by rw [hq]; exact below_drewN hb0 _⟩
      · have hne : all[k]? ≠ some (s0, s1, s2) := fun h => by
          rw [hx] at h
          injection h with h
          injection h with h1 h2
          injection h2 with h2 h3
          subst h1; subst h2; subst h3
          simp at hc
        have Hne := Lib.hid hne
        clear hne hx
        rcases hc with q0 | ⟨q0, q1⟩ | ⟨q0, q1, q2⟩
        all_goals
          go_wp2
          go_quiet (fail)
          go_wp2
          go_roundg (n - (k + 1))
          case rel => exact ⟨k + 1, by omega, rfl, by go_num, (fun j hj => by
            by_cases e : j = k
            · subst e; exact Hne.out
            · exact Hall.out j (by omega)), dr_more Hq.out _⟩
          case measure => omega
    · have e : k = n := by omega
      subst e
      have hC := HN.out Hall.out
      have HC := Lib.hid hC
      clear hC
      go_wp2
      go_ret
      obtain ⟨q, rfl⟩ := Hq.out
      exact ⟨-1, rfl, by rw [HC.out]; rfl, below_drewN hb0 _⟩
theorem contains_any (A : Option Addr) (n cap : Nat) (all : List St) (s0 s1 s2 : Int) (w : World) (hl : RdT w w.heap.size A n cap all) :
  Calls Try.prog 30 #[.slice A n cap, .agg #[.int .i64 s0, .int .i64 s1, .int .i64 s2]] w fun e w' => e = .returned (.bool (all.contains (s0, s1, s2))) ∧ Below w.heap.size w w' := by
  have hb0 : Below w.heap.size w (w.alloc (.cells #[.int .i64 s0, .int .i64 s1, .int .i64 s2] 35)) := (Below.refl w.heap.size w).alloc (Nat.le_refl _) _
  have e0 : (w.alloc (.cells #[.int .i64 s0, .int .i64 s1, .int .i64 s2] 35)).cell? ⟨w.heap.size, 0, none⟩ = some (.int .i64 s0) := new_cell rfl rfl
  have e1 : (w.alloc (.cells #[.int .i64 s0, .int .i64 s1, .int .i64 s2] 35)).cell? ⟨w.heap.size, 1, none⟩ = some (.int .i64 s1) := new_cell rfl rfl
  have e2 : (w.alloc (.cells #[.int .i64 s0, .int .i64 s1, .int .i64 s2] 35)).cell? ⟨w.heap.size, 2, none⟩ = some (.int .i64 s2) := new_cell rfl rfl
  have hl1 := hl.up (flat_lasts _) hb0
  go_enter Try.func30, Try.ntmps30
  go_wp2_with fail
  refine (index_any A n cap all s0 s1 s2 _ hl1).mono ?_
  rintro e w2 ⟨r, rfl, hr, hb2⟩
  have Hr := Lib.hid hr
  clear hr
  go_wp2
  go_ret
  exact ⟨by rw [← Hr.out]; rfl, hb0.trans (hb2.mono hb0.size)⟩
end Go.Proofs.Ythmnkmomgaamlaa
