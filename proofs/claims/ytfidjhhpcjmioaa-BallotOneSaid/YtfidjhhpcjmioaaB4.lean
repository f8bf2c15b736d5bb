/- Walks over slices.Repeat of one element, as often as some small number says; and math/bits.Mul there. Conditions stand in each theorem. -/
import Derived.Test.YtfidjhhpcjmioaaB3
import Derived.Laws.Bits64b
import Derived.Laws.CopyRow
import Derived.Laws.CopyOwn
namespace Go.Proofs.Ytfidjhhpcjmioaa
open Go.RowKit
set_option linter.unusedVariables false

theorem low32 (a : Nat) (h : a < 4294967296) : bits .and .u64 (a : Int) 4294967295 = (a : Int) := by
  have h1 := bits_and_u64_nat a 4294967295 (by omega) (by omega)
  rw [show a &&& 4294967295 = a % 4294967296 from Nat.and_two_pow_sub_one_eq_mod a 32, Nat.mod_eq_of_lt h] at h1
  exact h1
theorem wrap_u64s (a : Int) (h0 : 0 ≤ a) (h : a ≤ 1000000) : IntKind.u64.wrap a = a := by rw [IntKind.wrap_u64]; omega

theorem mul64_one (t : Nat) (ht : t ≤ 1000000) (w : World) : Calls Try.prog 56 #[.int .u64 1, .int .u64 t] w fun e w' => e = .returned (.tuple #[.int .u64 0, .int .u64 t]) ∧ w = w' := by
  have k1 : bits .and .u64 1 4294967295 = 1 := low32 1 (by omega)
  have k0 : bits .and .u64 0 4294967295 = 0 := low32 0 (by omega)
  have kt := low32 t (by omega)
  have dt : (t : Int) / 4294967296 = 0 := by omega
  have wt := wrap_u64s t (by omega) (by omega)
  go_enter Try.func56, Try.ntmps56
  go_wp2
  go_ret2
  exact ⟨rfl, rfl⟩
theorem mul_one (t : Nat) (ht : t ≤ 1000000) (w : World) : Calls Try.prog 53 #[.int .u64 1, .int .u64 t] w fun e w' => e = .returned (.tuple #[.int .u64 0, .int .u64 t]) ∧ w = w' := by
  go_enter Try.func53, Try.ntmps53
  go_wp2_with (go_at_call 56; refine (mul64_one t ht _).mono ?_; rintro e w1 ⟨rfl, rfl⟩)
  go_ret2
  exact ⟨rfl, rfl⟩
end Go.Proofs.Ytfidjhhpcjmioaa
