/- Walks over package pool: in, Right, sum. Conditions stand in each theorem. -/
import Derived.Test.YthhmdljfklbbeaaProg
import Derived.Test.YthhmdljfklbbeaaApp
import Derived.Test.YthhmdljfklbbeaaStep
import Derived.Test.YthhmdljfklbbeaaPm
import Derived.LoopTactic
import Derived.Deep.QuietTactic
import Derived.BigQuiet
import Derived.Deep.LoopGhost
import Derived.IntWalk
import Derived.Handy
import Derived.Shelf.Abstract
namespace Go.Proofs.Ythhmdljfklbbeaa
open Go.RowKit
set_option linter.unusedVariables false

theorem below_drewN {B : Nat} {a w : World} (h : Below B a w) (n : Nat) : Below B a (w.drewN n) := ⟨h.os, h.tape, h.output, h.size, h.block⟩

/-- a number in its bounds -/
def inB (lo hi x : Int) : Bool := decide (lo ≤ x) && decide (x ≤ hi)
/-- the place of the first number of l out of its bounds, from k on -/
def idxOut (lo hi : Int) (l : List Int) : Int := if l.all (inB lo hi) then -1 else 0

theorem inclo_any (lo hi x : Int) (B1 B2 : Nat) (w : World) (h1 : w.cell? ⟨B1, 0, none⟩ = some (.int .i64 lo)) (h2 : w.cell? ⟨B2, 0, none⟩ = some (.int .i64 hi)) :
  Calls Try.prog 34 #[.int .i64 x, .pointer (some ⟨B1, 0, none⟩), .pointer (some ⟨B2, 0, none⟩)] w fun e w' => e = .returned (.bool (!inB lo hi x)) ∧ w = w' := by
  by_cases hx : x < lo
  · have hd : (!inB lo hi x) = true := by simp [inB]; omega
    rw [hd]
    go_enter Try.func34, Try.ntmps34
    go_wp2
    go_ret
    exact ⟨rfl, rfl⟩
  · have hd : (!inB lo hi x) = decide (hi < x) := by rw [Bool.eq_iff_iff]; simp [inB]; omega
    have hd0 : decide (x < lo) = false := by simpa using hx
    rw [hd]
    go_enter Try.func34, Try.ntmps34
    go_wp2
    go_ret
    exact ⟨rfl, rfl⟩

/-- IndexFunc with this closure: a place, or -1 -/
def IdxPost (w : World) (b : Bool) (e : Ending) (w' : World) : Prop := ∃ i : Int, e = .returned (.int .i64 i) ∧ -1 ≤ i ∧ i ≤ 140737488351232 ∧ decide (0 ≤ i) = !b ∧ w = w'
theorem index_any (lo hi : Int) (B1 B2 : Nat) (A : Option Addr) (n cap : Nat) (l : List Int) (w : World) (hl : RdI w w.heap.size A n cap l) (h1 : w.cell? ⟨B1, 0, none⟩ = some (.int .i64 lo)) (h2 : w.cell? ⟨B2, 0, none⟩ = some (.int .i64 hi)) :
  Calls Try.prog 38 #[.slice A n cap, .func (.func 34) #[] #[.pointer (some ⟨B1, 0, none⟩), .pointer (some ⟨B2, 0, none⟩)]] w (IdxPost w (l.all (inB lo hi))) := by
  have hcaps := hl.caps
  have hlen := hl.len
  have eg := enters_of Try.func34 (by kernel_rfl) rfl
  have Hlen := Lib.hid hlen; clear hlen
  go_enter Try.func38, Try.ntmps38
  go_wp2
  go_loopg [8] n (fun gk i wr => ∃ k : Nat, k ≤ n ∧ gk = n - k ∧ i = .int .i64 k ∧ (∀ j x, j < k → l[j]? = some x → inB lo hi x = true) ∧ w = wr)
  case atStart => exact ⟨0, Nat.zero_le _, rfl, rfl, (fun j x h => absurd h (by omega)), rfl⟩
  case round =>
    obtain ⟨k, hk, rfl, rfl, hall, rfl⟩ := hrel
    have Hall := Lib.hid hall; clear hall
    by_cases hlt : k < n
    · obtain ⟨b, off, x, rfl, hbB, hx, c0⟩ := hl.atI hlt
      have hki : (k : Int) < (n : Int) := by omega
      have hk0 : (0 : Int) ≤ (k : Int) := by omega
      have Hx := Lib.hid hx; clear hx
      cases hin : inB lo hi x
      · have Hin := Lib.hid hin
        have Hno := Lib.hid (show l.all (inB lo hi) = false by
          rw [List.all_eq_false]; exact ⟨x, List.mem_of_getElem? Hx.out, by simp [hin]⟩)
        clear hin
        go_wp2_with (go_at_call 34; refine (inclo_any lo hi x B1 B2 _ h1 h2).mono ?_; rw [Hin.out]; rintro e w1 ⟨rfl, rfl⟩)
        go_ret
        exact ⟨(k : Int), rfl, by omega, by omega, by rw [Hno.out]; simp, rfl⟩
      · have Hin := Lib.hid hin
        clear hin
        go_wp2_with (go_at_call 34; refine (inclo_any lo hi x B1 B2 _ h1 h2).mono ?_; rw [Hin.out]; rintro e w1 ⟨rfl, rfl⟩)
        go_roundg (n - (k + 1))
        case rel => exact ⟨k + 1, by omega, rfl, by go_num, (fun j y hj hy => by
          by_cases e : j = k
          · subst e; rw [Hx.out] at hy; cases hy; exact Hin.out
          · exact Hall.out j y (by omega) hy), rfl⟩
        case measure => omega
    · have e : k = n := by omega
      subst e
      have Hyes := Lib.hid (show l.all (inB lo hi) = true by
        rw [List.all_eq_true]
        intro x hx
        obtain ⟨j, hj, rfl⟩ := List.mem_iff_getElem.1 hx
        exact Hall.out j _ (by rw [Hlen.out] at hj; exact hj) (List.getElem?_eq_getElem hj))
      go_wp2
      go_ret
      exact ⟨-1, rfl, by omega, by omega, by rw [Hyes.out]; rfl, rfl⟩

theorem contains_any (lo hi : Int) (B1 B2 : Nat) (A : Option Addr) (n cap : Nat) (l : List Int) (w : World) (hl : RdI w w.heap.size A n cap l) (h1 : w.cell? ⟨B1, 0, none⟩ = some (.int .i64 lo)) (h2 : w.cell? ⟨B2, 0, none⟩ = some (.int .i64 hi)) :
  Calls Try.prog 33 #[.slice A n cap, .func (.func 34) #[] #[.pointer (some ⟨B1, 0, none⟩), .pointer (some ⟨B2, 0, none⟩)]] w fun e w' => e = .returned (.bool (!l.all (inB lo hi))) ∧ w = w' := by
  have Hidx := Lib.hid (index_any lo hi B1 B2 A n cap l w hl h1 h2)
  generalize l.all (inB lo hi) = b at *
  go_enter Try.func33, Try.ntmps33
  go_wp2_with (go_at_call 38; refine Hidx.out.mono ?_; rintro e w1 ⟨i, rfl, hi1, hi2, hi3, rfl⟩)
  go_ret
  exact ⟨rfl, rfl⟩

theorem in_any (lo hi : Int) (A : Option Addr) (n cap : Nat) (l : List Int) (w : World) (hl : RdI w w.heap.size A n cap l) :
  Calls Try.prog 25 #[.int .i64 lo, .int .i64 hi, .slice A n cap] w fun e w' => e = .returned (.bool (l.all (inB lo hi))) ∧ Below w.heap.size w w' := by
  have Hc := Lib.hid (fun B1 B2 w => contains_any lo hi B1 B2 A n cap l w)
  generalize l.all (inB lo hi) = b at *
  go_enter Try.func25, Try.ntmps25
  go_wp2_with (go_at_call 33; refine (Hc.out _ _ _ (hl.below (flat_lasts _) (((Below.refl w.heap.size w).alloc (Nat.le_refl _) _).alloc (by simp) _) (Nat.le_refl _) (by simp <;> omega)) (by simp) (by simp)).mono ?_; rintro e w1 ⟨rfl, rfl⟩)
  go_ret
  exact ⟨by simp, ((Below.refl w.heap.size w).alloc (Nat.le_refl _) _).alloc (by simp) _⟩
end Go.Proofs.Ythhmdljfklbbeaa
