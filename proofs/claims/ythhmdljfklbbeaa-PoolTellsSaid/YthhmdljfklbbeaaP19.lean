/- Walks over Right and total of the reference of layer 36. Conditions stand in each theorem. -/
import Derived.Test.YthhmdljfklbbeaaP17
namespace Go.Proofs.Ythhmdljfklbbeaa
open Go.RowKit
set_option linter.unusedVariables false

set_option maxRecDepth 100000 in
theorem rright_any (p : Pl) (w : World) : Calls Try.prog 19 #[plV p] w fun e w' => e = .returned (.bool (rightF p)) ∧ Below w.heap.size w w' := by
  obtain ⟨mo, pr, ms, co, wi, to⟩ := p
  have H1 := Lib.hid (fun w => rin_any mo 0 1000000000000000 w)
  have H2 := Lib.hid (fun w => rin_any pr 0 1000000000000000 w)
  have H3 := Lib.hid (fun w => rin_any to 0 1000000000000000 w)
  have H4 := Lib.hid (fun w => rin_any ms 1 1000000000000000 w)
  have H5 := Lib.hid (fun w => rin_any co 1 1000 w)
  have H6 := Lib.hid (fun w => rin_any wi 1 1000 w)
  have e : rightF ⟨mo, pr, ms, co, wi, to⟩ = (inB 0 1000000000000000 mo && (inB 0 1000000000000000 pr && (inB 0 1000000000000000 to && (inB 1 1000000000000000 ms && (inB 1 1000 co && inB 1 1000 wi))))) := by
    simp [rightF, r1, r2, r3, r4, Bool.and_assoc]
  rw [e]
  generalize inB 0 1000000000000000 mo = b1 at *
  generalize inB 0 1000000000000000 pr = b2 at *
  generalize inB 0 1000000000000000 to = b3 at *
  generalize inB 1 1000000000000000 ms = b4 at *
  generalize inB 1 1000 co = b5 at *
  generalize inB 1 1000 wi = b6 at *
  clear e
  have hb := (Below.refl w.heap.size w).alloc (Nat.le_refl _) (.cells (plC ⟨mo, pr, ms, co, wi, to⟩) 23)
  simp only [plV, plC] at *
  go_enter Try.func19, Try.ntmps19
  go_wp2_with fail
  refine (H1.out _).mono ?_
  rintro e w1 ⟨rfl, rfl⟩
  cases b1
  · go_wp2
    go_ret
    exact ⟨rfl, hb⟩
  go_wp2_with fail
  refine (H2.out _).mono ?_
  rintro e w2 ⟨rfl, rfl⟩
  cases b2
  · go_wp2
    go_ret
    exact ⟨rfl, hb⟩
  go_wp2_with fail
  refine (H3.out _).mono ?_
  rintro e w3 ⟨rfl, rfl⟩
  cases b3
  · go_wp2
    go_ret
    exact ⟨rfl, hb⟩
  go_wp2_with fail
  refine (H4.out _).mono ?_
  rintro e w4 ⟨rfl, rfl⟩
  cases b4
  · go_wp2
    go_ret
    exact ⟨rfl, hb⟩
  go_wp2_with fail
  refine (H5.out _).mono ?_
  rintro e w5 ⟨rfl, rfl⟩
  cases b5
  · go_wp2
    go_ret
    exact ⟨rfl, hb⟩
  go_wp2_with fail
  refine (H6.out _).mono ?_
  rintro e w6 ⟨rfl, rfl⟩
  go_wp2
  go_ret
  exact ⟨by simp, hb⟩

theorem rtotal_any (A : Option Addr) (n cap : Nat) (cl : List (List Int)) (w : World) (hl : RdII w w.heap.size A n cap cl) (hS : SumBd cl n) :
  Calls Try.prog 27 #[.slice A n cap] w fun e w' => e = .returned (.int .i64 (sumN (sI cl) n)) ∧ w = w' := by
  have hcaps := hl.caps
  have HS := Lib.hid hS; clear hS
  go_enter Try.func27, Try.ntmps27
  go_wp2
  go_loopg [3, 4] n (fun gk s i wr => ∃ k : Nat, k ≤ n ∧ gk = n - k ∧ i = .int .i64 k ∧ s = .int .i64 (sumN (sI cl) k) ∧ w = wr)
  case atStart => exact ⟨0, Nat.zero_le _, rfl, rfl, rfl, rfl⟩
  case round =>
    obtain ⟨k, hk, rfl, rfl, rfl, rfl⟩ := hrel
    by_cases hlt : k < n
    · obtain ⟨b, off, A', n', cap', l, rfl, hbB, hx, c0, hl'⟩ := hl.atII hlt
      have hki : (k : Int) < (n : Int) := by omega
      have hk0 : (0 : Int) ≤ (k : Int) := by omega
      have e := clAt_eq hx
      have hlen := hl'.len
      have hS := HS.out k hlt
      rw [e, hlen] at hS
      have HSk := Lib.hid hS
      have He : RowKit.Hid (sumN (sI cl) (k + 1) = sumN (sI cl) k + sumN (gi l) n') := Lib.hid (by rw [sumN, sI, e, lsum, hlen])
      have hcaps' := hl'.caps
      clear hS e hx hlen
      go_wp2
      go_loopg [3, 5] n' (fun gk s i wr => ∃ j : Nat, j ≤ n' ∧ gk = n' - j ∧ i = .int .i64 j ∧ s = .int .i64 (sumN (sI cl) k + sumN (gi l) j) ∧ w = wr)
      case atStart => exact ⟨0, Nat.zero_le _, rfl, rfl, by simp [sumN], rfl⟩
      case round =>
        obtain ⟨j, hj, rfl, rfl, rfl, rfl⟩ := hrel
        by_cases hlt2 : j < n'
        · obtain ⟨b', off', x, rfl, hbB', hx, c1⟩ := hl'.atI hlt2
          have hdj : decide (j < n') = true := by simp; omega
          have hji : (j : Int) < (n' : Int) := by omega
          have hj0 : (0 : Int) ≤ (j : Int) := by omega
          have h1 := HSk.out j hj
          have h2 := HSk.out (j + 1) (by omega)
          have e : sumN (gi l) (j + 1) = sumN (gi l) j + x := by rw [sumN, gi_eq hx]
          rw [e] at h2
          have He2 := Lib.hid e
          clear e hx
          generalize sumN (gi l) j = S2 at *
          generalize sumN (sI cl) k = S1 at *
          obtain ⟨S, hSe⟩ : ∃ S, S1 + S2 = S := ⟨_, rfl⟩
          rw [← Int.add_assoc, hSe] at h2
          rw [hSe] at h1 ⊢
          obtain ⟨h11, h12⟩ := h1
          obtain ⟨h21, h22⟩ := h2
          have hw : IntKind.i64.wrap (S + x) = S + x := IntWalk.i64_in _ (by omega)
          have Hse := Lib.hid hSe
          clear hSe
          go_wp2
          go_roundg (n' - (j + 1))
          case rel => exact ⟨j + 1, by omega, rfl, by go_num, by rw [He2.out, ← Int.add_assoc, Hse.out], rfl⟩
          case measure => omega
        · have e : j = n' := by omega
          subst e
          have hdj : decide (j < j) = false := by simp
          go_wp2
          go_roundg (n - (k + 1))
          case rel => exact ⟨k + 1, by omega, rfl, by go_num, by rw [He.out], rfl⟩
          case measure => omega
    · have e : k = n := by omega
      subst e
      go_wp2
      go_ret
      exact ⟨rfl, rfl⟩
end Go.Proofs.Ythhmdljfklbbeaa
