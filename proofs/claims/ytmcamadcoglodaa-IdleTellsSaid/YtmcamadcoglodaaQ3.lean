/- Walks over slices.Index, slices.Contains and assigns of package idle. Conditions stand in each theorem. -/
import Derived.Test.YtmcamadcoglodaaQ2
namespace Go.Proofs.Ytmcamadcoglodaa
open Go.RowKit
set_option linter.unusedVariables false

theorem idxN_any (A : Option Addr) (n cap : Nat) (l : List Int) (y : Int) (w : World) (hl : RdI w w.heap.size A n cap l) :
  Calls Try.prog 42 #[.slice A n cap, .int .i64 y] w (IdxPost w (l.all fun x => decide (x ≠ y))) := by
  have hcaps := hl.caps
  have hlen := hl.len
  have Hlen := Lib.hid hlen; clear hlen
  go_enter Try.func42, Try.ntmps42
  go_wp2
  go_loopg [8] n (fun gk i wr => ∃ k : Nat, k ≤ n ∧ gk = n - k ∧ i = .int .i64 k ∧ (∀ j x, j < k → l[j]? = some x → x ≠ y) ∧ w = wr)
  case atStart => exact ⟨0, Nat.zero_le _, rfl, rfl, (fun j x h => absurd h (by omega)), rfl⟩
  case round =>
    obtain ⟨k, hk, rfl, rfl, hall, rfl⟩ := hrel
    have Hall := Lib.hid hall; clear hall
    by_cases hlt : k < n
    · obtain ⟨b, off, x, rfl, hbB, hx, c0⟩ := hl.atI hlt
      have hki : (k : Int) < (n : Int) := by omega
      have hk0 : (0 : Int) ≤ (k : Int) := by omega
      have Hx := Lib.hid hx; clear hx
      by_cases hxy : x = y
      · have Hno := Lib.hid (show (l.all fun x => decide (x ≠ y)) = false by
          rw [List.all_eq_false]; exact ⟨x, List.mem_of_getElem? Hx.out, by simp [hxy]⟩)
        have hd : (y == x) = true := by simp [hxy]
        clear hxy
        go_wp2
        go_ret
        exact ⟨(k : Int), rfl, by omega, by omega, by rw [Hno.out]; simp, rfl⟩
      · have Hxy := Lib.hid hxy
        have hd : (y == x) = false := by simp; omega
        clear hxy
        go_wp2
        go_roundg (n - (k + 1))
        case rel => exact ⟨k + 1, by omega, rfl, by go_num, (fun j z hj hz => by
          by_cases e : j = k
          · subst e; rw [Hx.out] at hz; cases hz; exact Hxy.out
          · exact Hall.out j z (by omega) hz), rfl⟩
        case measure => omega
    · have e : k = n := by omega
      subst e
      have Hyes := Lib.hid (show (l.all fun x => decide (x ≠ y)) = true by
        rw [List.all_eq_true]
        intro x hx
        obtain ⟨j, hj, rfl⟩ := List.mem_iff_getElem.1 hx
        exact decide_eq_true (Hall.out j _ (by rw [Hlen.out] at hj; exact hj) (List.getElem?_eq_getElem hj)))
      go_wp2
      go_ret
      exact ⟨-1, rfl, by omega, by omega, by rw [Hyes.out]; rfl, rfl⟩
theorem hasN_any (A : Option Addr) (n cap : Nat) (l : List Int) (y : Int) (w : World) (hl : RdI w w.heap.size A n cap l) :
  Calls Try.prog 30 #[.slice A n cap, .int .i64 y] w fun e w' => e = .returned (.bool (!l.all fun x => decide (x ≠ y))) ∧ w = w' := by
  have Hidx := Lib.hid (idxN_any A n cap l y w hl)
  generalize (l.all fun x => decide (x ≠ y)) = b at *
  go_enter Try.func30, Try.ntmps30
  go_wp2_with (go_at_call 42; refine Hidx.out.mono ?_; rintro e w1 ⟨i, rfl, hi1, hi2, hi3, rfl⟩)
  go_ret
  exact ⟨rfl, rfl⟩
end Go.Proofs.Ytmcamadcoglodaa
