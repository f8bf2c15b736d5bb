
/- Words for the laws of layer 4. Conditions stand in each theorem. -/
import Derived.Test.YtkeajohkpmabcaaDoorRs
namespace Go.Proofs.YtkeajohkpmabcaaDoor
open Go.RowKit
set_option linter.unusedVariables false
set_option linter.unusedSimpArgs false

set_option maxRecDepth 100000 in
set_option maxHeartbeats 1000000 in
theorem few_any (s : Int) (A : Option Addr) (n cap : Nat) (k : Int) (w : World) (hn : n ≤ 140737488351232) :
    Calls Tryd.prog 10 #[.agg #[.int .i64 s, .slice A n cap], .int .i64 k] w fun e w' => e = .returned (.bool (decide ((n : Int) ≤ k))) ∧ Below w.heap.size w w' := by
  have K := St.start w
  have r := K.raw
  go_enter Tryd.func10, Tryd.ntmps10
  go_wp2_with (first | (apply K.alloc; rfl; rfl; (first | with_reducible exact big_zero | with_reducible exact frac_zero); clear K r; (first | ((fail_if_success revert b0); intro W b0 K) | ((fail_if_success revert b1); intro W b1 K) | ((fail_if_success revert b2); intro W b2 K) | ((fail_if_success revert b3); intro W b3 K) | ((fail_if_success revert b4); intro W b4 K) | ((fail_if_success revert b5); intro W b5 K) | ((fail_if_success revert b6); intro W b6 K) | ((fail_if_success revert b7); intro W b7 K) | ((fail_if_success revert b8); intro W b8 K) | ((fail_if_success revert b9); intro W b9 K) | ((fail_if_success revert b10); intro W b10 K) | ((fail_if_success revert b11); intro W b11 K) | ((fail_if_success revert b12); intro W b12 K) | ((fail_if_success revert b13); intro W b13 K) | ((fail_if_success revert b14); intro W b14 K) | ((fail_if_success revert b15); intro W b15 K) | ((fail_if_success revert b16); intro W b16 K) | ((fail_if_success revert b17); intro W b17 K) | ((fail_if_success revert b18); intro W b18 K) | ((fail_if_success revert b19); intro W b19 K) | ((fail_if_success revert b20); intro W b20 K) | ((fail_if_success revert b21); intro W b21 K)); have r := K.raw; simp only [Raw, RawC, and_true, true_and, Nat.zero_add, Nat.reduceAdd] at r) | (apply K.box; rfl; rfl; rfl; clear K r; (first | ((fail_if_success revert b0); intro W b0 K) | ((fail_if_success revert b1); intro W b1 K) | ((fail_if_success revert b2); intro W b2 K) | ((fail_if_success revert b3); intro W b3 K) | ((fail_if_success revert b4); intro W b4 K) | ((fail_if_success revert b5); intro W b5 K) | ((fail_if_success revert b6); intro W b6 K) | ((fail_if_success revert b7); intro W b7 K) | ((fail_if_success revert b8); intro W b8 K) | ((fail_if_success revert b9); intro W b9 K) | ((fail_if_success revert b10); intro W b10 K) | ((fail_if_success revert b11); intro W b11 K) | ((fail_if_success revert b12); intro W b12 K) | ((fail_if_success revert b13); intro W b13 K) | ((fail_if_success revert b14); intro W b14 K) | ((fail_if_success revert b15); intro W b15 K) | ((fail_if_success revert b16); intro W b16 K) | ((fail_if_success revert b17); intro W b17 K) | ((fail_if_success revert b18); intro W b18 K) | ((fail_if_success revert b19); intro W b19 K) | ((fail_if_success revert b20); intro W b20 K) | ((fail_if_success revert b21); intro W b21 K)); have r := K.raw; simp only [Raw, RawC, and_true, true_and, Nat.zero_add, Nat.reduceAdd] at r) | (apply K.storeA; rfl; rfl; rfl; rfl; rfl; (repeat (first | with_reducible exact Upd.head _ | with_reducible apply Upd.tail)); (first | with_reducible exact big_size | with_reducible exact frac_size); rfl; rfl; rfl; clear K r; intro W K; have r := K.raw; simp only [Raw, RawC, and_true, true_and, Nat.zero_add, Nat.reduceAdd] at r))
  go_ret
  exact ⟨rfl, K.1⟩
theorem St.bel {w W : World} {L : List Blk} {D : List Hl} (h : St w L D W) : Below w.heap.size w W := h.1
/-- a right big integer of at most k digits -/
theorem few_bd {s : Int} {A : Option Addr} {n cap : Nat} {l : List Int} {W : World} {k : Nat} (hl : RdI W W.heap.size A n cap l) (h : rightB s l = true) (hn : n ≤ k) : ((bval s l).natAbs : Int) < pw k := by
  have h1 := (Std.of_right h).2
  rw [h1] at hl
  exact digs_len.1 (by rw [hl.len]; exact hn)
theorem fits_lt {z : Int} {k : Nat} (h : (z.natAbs : Int) < pw k) (hk : k ≤ 60) : fits z = true := fits_iff.2 (by have := pw_le hk; omega)
theorem pw_mul_lt {x y : Int} {j k : Nat} (hx : (x.natAbs : Int) < pw j) (hy : (y.natAbs : Int) < pw k) : ((x * y).natAbs : Int) < pw (j + k) := by
  rw [Int.natAbs_mul, pw_add]
  have h1 : (0 : Int) ≤ x.natAbs := by omega
  have h2 : (0 : Int) ≤ y.natAbs := by omega
  have h3 := Int.mul_le_mul_of_nonneg_left (show (y.natAbs : Int) ≤ pw k by omega) h1
  have h4 := Int.mul_lt_mul_of_pos_right hx (pw_pos k)
  rw [Int.natCast_mul]
  omega
theorem pw_add_lt {x y : Int} {j k m : Nat} (hx : (x.natAbs : Int) < pw j) (hy : (y.natAbs : Int) < pw k) (hj : j < m) (hk : k < m) : ((x + y).natAbs : Int) < pw m := by
  obtain ⟨m, rfl⟩ : ∃ i, m = i + 1 := ⟨m - 1, by omega⟩
  have h1 := pw_le (show j ≤ m by omega)
  have h2 := pw_le (show k ≤ m by omega)
  have h3 : pw (m + 1) = 1048576 * pw m := rfl
  have := pw_pos m
  omega
theorem pw_sub_lt {x y : Int} {j k m : Nat} (hx : (x.natAbs : Int) < pw j) (hy : (y.natAbs : Int) < pw k) (hj : j < m) (hk : k < m) : ((x - y).natAbs : Int) < pw m := by
  rw [Int.sub_eq_add_neg]
  exact pw_add_lt hx (by rw [Int.natAbs_neg]; exact hy) hj hk
end Go.Proofs.YtkeajohkpmabcaaDoor
