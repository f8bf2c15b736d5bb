/- Walk over money of the reference of layer 36. Conditions stand in the theorem. -/
import Derived.Test.YthhmdljfklbbeaaP19
import Derived.Test.YthhmdljfklbbeaaPu
namespace Go.Proofs.Ythhmdljfklbbeaa
open Go.RowKit
set_option linter.unusedVariables false

def MoneyPost (w : World) (L : List Int) (e : Ending) (w' : World) : Prop := ∃ v, e = .returned v ∧ Own 1 iEnc w' w.heap.size 3 v L ∧ Below w.heap.size w w'
set_option maxRecDepth 100000 in
set_option maxHeartbeats 1000000 in
theorem rmoney_any (p : Pl) (A : Option Addr) (n cap : Nat) (cl : List (List Int)) (w : World) (hl : RdII w w.heap.size A n cap cl) (hn : n ≤ 1000000) (hS : MnyBd p cl n) :
  Calls Try.prog 30 #[plV p, .slice A n cap] w (MoneyPost w (ofF n (fun j => mny p cl (j + 1)))) := by
  obtain ⟨i0, hi0, hz0, hz1, hz2⟩ := info_parts int_info
  have hcaps := hl.caps
  have hall : ∃ M : Nat → Int, (∀ j, M (j + 1) = M j + (p.pr - sI cl j)) ∧ M 0 = p.mo ∧ (∀ i, i < n → ∀ j, j ≤ (clAt cl i).length → -4000000000000000000 ≤ M i + p.pr - sumN (gi (clAt cl i)) j ∧ M i + p.pr - sumN (gi (clAt cl i)) j ≤ 4000000000000000000) ∧ ofF n (fun j => mny p cl (j + 1)) = ofF n (fun j => M (j + 1)) := ⟨mny p cl, fun _ => rfl, rfl, hS, rfl⟩
  obtain ⟨M, hMs, hM0, hMb, hL⟩ := hall
  rw [hL]
  clear hL hS
  have Hs := Lib.hid hMs; have H0 := Lib.hid hM0; have Hb := Lib.hid hMb
  clear hMs hM0 hMb
  obtain ⟨mo, pr, ms, co, wi, to⟩ := p
  simp only [plV, plC] at *
  have hb0 : Below w.heap.size w (w.alloc (.cells #[.int .i64 mo, .int .i64 pr, .int .i64 ms, .int .i64 co, .int .i64 wi, .int .i64 to] 23)) := (Below.refl w.heap.size w).alloc (Nat.le_refl _) _
  have c0 : (w.alloc (.cells #[.int .i64 mo, .int .i64 pr, .int .i64 ms, .int .i64 co, .int .i64 wi, .int .i64 to] 23)).cell? ⟨w.heap.size, 1, none⟩ = some (.int .i64 pr) := new_cell rfl rfl
  go_enter Try.func30, Try.ntmps30
  go_wp2
  have hl1 := hl.up ii_lasts hb0
  have hlt1 : w.heap.size < (w.alloc (.cells #[.int .i64 mo, .int .i64 pr, .int .i64 ms, .int .i64 co, .int .i64 wi, .int .i64 to] 23)).heap.size := by simp
  generalize w.alloc (.cells #[.int .i64 mo, .int .i64 pr, .int .i64 ms, .int .i64 co, .int .i64 wi, .int .i64 to] 23) = w1 at *
  have C0 := Lib.hid c0
  clear c0
  go_loopg [5, 6, 7] n (fun gk v m i wr => ∃ j : Nat, j ≤ n ∧ gk = n - j ∧ i = .int .i64 j ∧ m = .int .i64 (M j) ∧ Own 1 iEnc wr w1.heap.size 3 v (ofF j (fun j => M (j + 1))) ∧ Below w1.heap.size w1 wr)
  case atStart => exact ⟨0, Nat.zero_le _, rfl, rfl, by rw [H0.out], Own.nil, Below.refl _ _⟩
  case round =>
    obtain ⟨j, hj, rfl, rfl, rfl, ho, hb⟩ := hrel
    by_cases hlt : j < n
    · obtain ⟨b, off, A', n', cap', l, rfl, hbB, hx, k0, hl'⟩ := (hl1.up ii_lasts hb).atII hlt
      have hji : (j : Int) < (n : Int) := by omega
      have hj0 : (0 : Int) ≤ (j : Int) := by omega
      have hle := clAt_eq hx
      have hbd := Hb.out j hlt
      rw [hle, hl'.len] at hbd
      have hsj := Hs.out j
      rw [sI, hle, lsum, hl'.len] at hsj
      have Hsj := Lib.hid hsj; have Hbd := Lib.hid hbd
      have c1 := (hb.cell (p := ⟨w.heap.size, 1, none⟩) hlt1).trans C0.out
      have hcaps' := hl'.caps
      have h0 := hbd 0 (by omega)
      simp only [sumN] at h0
      have hw1 : IntKind.i64.wrap (M j + pr) = M j + pr := IntWalk.i64_in _ (by omega)
      clear hx hle hbd hsj h0
      go_wp2
      go_loopg [6, 8] n' (fun gk m i w2 => ∃ k : Nat, k ≤ n' ∧ gk = n' - k ∧ i = .int .i64 k ∧ m = .int .i64 (M j + pr - sumN (gi l) k) ∧ wr = w2)
      case atStart => exact ⟨0, Nat.zero_le _, rfl, rfl, by simp [sumN], rfl⟩
      case round =>
        obtain ⟨k, hk, rfl, rfl, rfl, rfl⟩ := hrel
        by_cases hlt2 : k < n'
        · obtain ⟨b', off', x, rfl, hbB', hx, c2⟩ := hl'.atI hlt2
          have hdk : decide (k < n') = true := by simp; omega
          have hki : (k : Int) < (n' : Int) := by omega
          have hk0 : (0 : Int) ≤ (k : Int) := by omega
          have h2 := Hbd.out (k + 1) (by omega)
          have e : sumN (gi l) (k + 1) = sumN (gi l) k + x := by rw [sumN, gi_eq hx]
          rw [e] at h2
          have He := Lib.hid (show M j + pr - sumN (gi l) (k + 1) = M j + pr - sumN (gi l) k - x by omega)
          obtain ⟨Y, hY⟩ : ∃ y, M j + pr - sumN (gi l) k = y := ⟨_, rfl⟩
          rw [show M j + pr - (sumN (gi l) k + x) = M j + pr - sumN (gi l) k - x by omega, hY] at h2
          rw [hY]
          have HY := Lib.hid hY
          have hwY : IntKind.i64.wrap (Y - x) = Y - x := IntWalk.i64_in _ (by omega)
          clear hY e hx h2
          go_wp2
          go_roundg (n' - (k + 1))
          case rel => exact ⟨k + 1, by omega, rfl, by go_num, by rw [He.out, HY.out], rfl⟩
          case measure => omega
        · have e : k = n' := by omega
          subst e
          have hdk : decide (k < k) = false := by simp
          have hkk : M j + pr - sumN (gi l) k = M (j + 1) := by have := Hsj.out; omega
          rw [hkk]
          have hmore : ofF j (fun j => M (j + 1)) ++ [M (j + 1)] = ofF (j + 1) (fun j => M (j + 1)) := ofF_succ.symm
          obtain ⟨MX, hMX⟩ : ∃ x, M (j + 1) = x := ⟨_, rfl⟩
          have HMX := Lib.hid hMX
          have Hmore : RowKit.Hid (ofF j (fun j => M (j + 1)) ++ [MX] = ofF (j + 1) (fun j => M (j + 1))) := Lib.hid (by rw [← hMX]; exact hmore)
          rw [hMX]
          clear hmore hkk hMX
          have hsz := hb.size
          go_wp2_with (at_builtin
                       refine wpList_app _ iSized rfl _ _ 32 rfl w1.heap.size 3 i0 _ 8 Try.underlying32 hi0 hz0 hz1 hz2 rfl _ (ofF j (fun j => M (j + 1))) rfl (ho.alloc _) _ _ 1 1 [MX] rfl (Rd.new1 iSized wr MX #[.int .i64 MX] rfl 3) (by rw [ofF_len]; simp only [maxLen]; omega) (by rw [ofF_len]; omega) (by simp; omega) ?_
                       intro v4 w4 ho4 hg4 hx4
                       have hb4 : Below w1.heap.size w1 w4 := Own.grow (ho.alloc _) (Nat.le_refl _) (hb.alloc hsz _) (by simp; omega) hg4
                       rw [Hmore.out] at ho4)
          go_roundg (n - (j + 1))
          case rel => exact ⟨j + 1, by omega, rfl, by go_num, by rw [HMX.out], ho4, hb4⟩
          case measure => omega
    · have e : j = n := by omega
      subst e
      go_wp2
      go_ret
      exact ⟨_, rfl, ho.mono hb0.size, hb0.trans (hb.mono hb0.size)⟩
end Go.Proofs.Ythhmdljfklbbeaa
