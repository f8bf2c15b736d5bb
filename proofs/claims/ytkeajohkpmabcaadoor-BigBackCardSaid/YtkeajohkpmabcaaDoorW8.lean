/- Walk over checked of package big. Conditions stand in the theorem. -/
import Derived.Test.YtkeajohkpmabcaaDoorW3
namespace Go.Proofs.YtkeajohkpmabcaaDoor
open Go.RowKit
set_option linter.unusedVariables false

/-- what checked returns: 0 where it is not right, or too great -/
def ckE (right : Bool) (n : Nat) : Int := if right = false then 1 else if 60 < n then 6 else 0
set_option maxRecDepth 100000 in
set_option maxHeartbeats 1000000 in
theorem checked_any (right : Bool) (s : Int) (A : Option Addr) (n cap : Nat) (w : World) :
    Calls Tryd.prog 26 #[.bool right, .agg #[.int .i64 s, .slice A n cap]] w fun e w' => e = .returned (.tuple #[if right = true ∧ n ≤ 60 then .agg #[.int .i64 s, .slice A n cap] else .agg #[.int .i64 0, .slice none 0 0], .int .i64 (ckE right n)]) ∧ Below w.heap.size w w' := by
  have HB := Lib.hid (fun o => (Below.refl w.heap.size w).alloc (Nat.le_refl _) o)
  have HB2 := Lib.hid (fun o o2 => ((Below.refl w.heap.size w).alloc (Nat.le_refl _) o).alloc (by simp) o2)
  cases right
  · have e1 : ckE false n = 1 := by unfold ckE; rw [if_pos rfl]
    rw [e1, if_neg (by simp)]
    clear e1
    go_enter Tryd.func26, Tryd.ntmps26
    go_wp2
    exact bodyPost_ret (v := .tuple #[.agg #[.int .i64 0, .slice none 0 0], .int .i64 1]) (by simp [results, Tryd.results26, go_sem]) rfl ⟨rfl, HB2.out _ _⟩
  · by_cases hn : n ≤ 60
    · have e1 : ckE true n = 0 := by unfold ckE; rw [if_neg (by simp), if_neg (by omega)]
      have hd : decide ((60 : Int) < (n : Int)) = false := by simp; omega
      rw [e1, if_pos ⟨rfl, hn⟩]
      clear e1 hn
      go_enter Tryd.func26, Tryd.ntmps26
      go_wp2
      exact bodyPost_ret (v := .tuple #[.agg #[.int .i64 s, .slice A n cap], .int .i64 0]) (by simp [results, Tryd.results26, go_sem]) rfl ⟨rfl, HB2.out _ _⟩
    · have e1 : ckE true n = 6 := by unfold ckE; rw [if_neg (by simp), if_pos (by omega)]
      have hd : decide ((60 : Int) < (n : Int)) = true := by simp; omega
      rw [e1, if_neg (by intro h; exact hn h.2)]
      clear e1 hn
      go_enter Tryd.func26, Tryd.ntmps26
      go_wp2
      exact bodyPost_ret (v := .tuple #[.agg #[.int .i64 0, .slice none 0 0], .int .i64 6]) (by simp [results, Tryd.results26, go_sem]) rfl ⟨rfl, HB2.out _ _⟩
end Go.Proofs.YtkeajohkpmabcaaDoor
