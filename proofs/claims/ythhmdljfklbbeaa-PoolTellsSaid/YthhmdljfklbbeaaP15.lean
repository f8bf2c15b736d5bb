/- Walk over Few of the reference of layer 36, with what it says. Conditions stand in the theorem. -/
import Derived.Test.YthhmdljfklbbeaaPs
namespace Go.Proofs.Ythhmdljfklbbeaa
open Go.RowKit
set_option linter.unusedVariables false

def FewPost (w : World) (n : Nat) (e : Ending) (w' : World) : Prop := ∃ b : Bool, e = .returned (.bool b) ∧ (b = true → n ≤ 16) ∧ Below w.heap.size w w'
theorem few_len (p : Pl) (A : Option Addr) (n cap : Nat) (cl : List (List Int)) (w : World) (hl : RdII w w.heap.size A n cap cl) :
  Calls Try.prog 9 #[plV p, .slice A n cap] w (FewPost w n) := by
  have hcaps := hl.caps
  obtain ⟨mo, pr, ms, co, wi, to⟩ := p
  simp only [plV, plC] at *
  go_enter Try.func9, Try.ntmps9
  go_wp2
  go_loopg [5] n (fun gk i wr => ∃ k : Nat, k ≤ n ∧ gk = n - k ∧ i = .int .i64 k ∧ wr.cell? ⟨w.heap.size, 3, none⟩ = some (.int .i64 co) ∧ Below w.heap.size w wr)
  case atStart => exact ⟨0, Nat.zero_le _, rfl, rfl, new_cell rfl rfl, (Below.refl _ _).alloc (Nat.le_refl _) _⟩
  case round =>
    obtain ⟨k, hk, rfl, rfl, c3, hb⟩ := hrel
    by_cases hlt : k < n
    · obtain ⟨b, off, A', n', cap', l, rfl, hbB, hcl, k0, hl'⟩ := (hl.below ii_lasts hb (Nat.le_refl _) (Nat.le_refl _)).atII hlt
      have hcaps' := hl'.caps
      have hki : (k : Int) < (n : Int) := by omega
      have hk0 : (0 : Int) ≤ (k : Int) := by omega
      clear hcl
      by_cases h16 : (k : Int) ≤ 16
      · by_cases h12 : (12 : Int) < (n' : Int)
        · go_wp2
          go_ret
          exact ⟨_, rfl, (fun h => by cases h), hb⟩
        · go_wp2
          go_roundg (n - (k + 1))
          case rel => exact ⟨k + 1, by omega, rfl, by go_num, c3, hb⟩
          case measure => omega
      · have hd16 : decide ((k : Int) ≤ 16) = false := by simpa using h16
        have hn16 : decide ((n : Int) ≤ 16) = false := by simp; omega
        go_wp2
        go_ret
        exact ⟨_, rfl, (fun h => by first | cases h | (simp at h; omega)), hb⟩
    · have e : k = n := by omega
      subst e
      by_cases hn16 : (k : Int) ≤ 16
      · have hd16 : decide ((k : Int) ≤ 16) = true := by simpa using hn16
        by_cases h12 : co ≤ 12
        · go_wp2
          go_ret
          exact ⟨_, rfl, (fun _ => by omega), hb⟩
        · have hd12 : decide (co ≤ 12) = false := by simpa using h12
          go_wp2
          go_ret
          exact ⟨_, rfl, (fun _ => by omega), hb⟩
      · have hd16 : decide ((k : Int) ≤ 16) = false := by simpa using hn16
        go_wp2
        go_ret
        exact ⟨_, rfl, (fun h => by first | cases h | (simp at h; omega)), hb⟩
end Go.Proofs.Ythhmdljfklbbeaa
