
/- Walks over stableCmpFunc, SortStableFunc of package slices, at most 19 elements, by a comparison of rests. Conditions stand in each theorem. -/
import Derived.Test.YtinfcngkbdiddaaCi
namespace Go.Proofs.Ytinfcngkbdiddaa
open Go.RowKit
set_option linter.unusedVariables false
set_option linter.unusedSimpArgs false

set_option maxRecDepth 100000 in
set_option maxHeartbeats 4000000 in
theorem stable_any (g n cap : Nat) (p : Addr) (r : Nat → Rat) (w0 : World) (L : List Blk) (D : List Hl) (hn : 1 ≤ n) (hn3 : n ≤ 19) (hn2 : n ≤ cap ∧ cap ≤ 1000) (HC : ∀ (d : Nat → Nat) W, St w0 ((g, ordA n d, 3) :: L) D W → ∀ a b : Nat, a < n → b < n → Calls Try.prog 30 #[.int .i64 a, .int .i64 b, .pointer (some p)] W fun e W' => e = .returned (.int .i64 (cmpQ (r b) (r a))) ∧ Below W.heap.size W W') (w : World) (K : St w0 ((g, ordA n (fun k => k), 3) :: L) D w) :
    Calls Try.prog 59 #[.slice (some ⟨g, 0, none⟩) n cap, .int .i64 n, .func (.func 30) #[] #[.pointer (some p)]] w fun e w' => e = .returned (.tuple #[]) ∧ ∃ d, Ord n r d ∧ St w0 ((g, ordA n d, 3) :: L) D w' := by
  have HI := Lib.hid (ins_any g n cap p r w0 L D hn hn2 HC w K)
  clear HC K
  go_enter Try.func59, Try.ntmps59
  have h20 : ¬ (20 : Int) ≤ (n : Int) := by omega
  have h20d : decide ((20 : Int) ≤ (n : Int)) = false := decide_eq_false h20
  have h21 : ¬ (20 : Int) < (n : Int) := by omega
  have h21d : decide ((20 : Int) < (n : Int)) = false := decide_eq_false h21
  go_wp2
  go_loopg [7, 8] 0 (fun gk s7 s8 wr => gk = 0 ∧ s7 = .int .i64 0 ∧ s8 = .int .i64 20 ∧ wr = w)
  case atStart => exact ⟨rfl, rfl, rfl, rfl⟩
  case round =>
    obtain ⟨rfl, rfl, rfl, hw⟩ := hrel
    subst hw
    go_wp2_with fail
    refine HI.out.mono ?_
    rintro e w1 ⟨rfl, d, hO, K⟩
    have HO := Lib.hid hO
    clear hO HI
    go_wp2_with fail
    go_loopg [6] 0 (fun gk s6 wr => gk = 0 ∧ s6 = .int .i64 20 ∧ wr = w1)
    case atStart => exact ⟨rfl, rfl, rfl⟩
    case round =>
      obtain ⟨rfl, rfl, hw⟩ := hrel
      subst hw
      go_wp2
      go_returns
      exact ⟨rfl, d, HO.out, K⟩
set_option maxRecDepth 100000 in
set_option maxHeartbeats 4000000 in
theorem sort_any (g n cap : Nat) (p : Addr) (r : Nat → Rat) (w0 : World) (L : List Blk) (D : List Hl) (hn : 1 ≤ n) (hn3 : n ≤ 19) (hn2 : n ≤ cap ∧ cap ≤ 1000) (HC : ∀ (d : Nat → Nat) W, St w0 ((g, ordA n d, 3) :: L) D W → ∀ a b : Nat, a < n → b < n → Calls Try.prog 30 #[.int .i64 a, .int .i64 b, .pointer (some p)] W fun e W' => e = .returned (.int .i64 (cmpQ (r b) (r a))) ∧ Below W.heap.size W W') (w : World) (K : St w0 ((g, ordA n (fun k => k), 3) :: L) D w) :
    Calls Try.prog 29 #[.slice (some ⟨g, 0, none⟩) n cap, .func (.func 30) #[] #[.pointer (some p)]] w fun e w' => e = .returned (.tuple #[]) ∧ ∃ d, Ord n r d ∧ St w0 ((g, ordA n d, 3) :: L) D w' := by
  have HI := Lib.hid (stable_any g n cap p r w0 L D hn hn3 hn2 HC w K)
  clear HC K
  go_enter Try.func29, Try.ntmps29
  go_wp2_with fail
  refine HI.out.mono ?_
  rintro e w1 ⟨rfl, d, hO, K⟩
  go_wp2
  go_returns
  exact ⟨rfl, d, hO, K⟩
end Go.Proofs.Ytinfcngkbdiddaa
