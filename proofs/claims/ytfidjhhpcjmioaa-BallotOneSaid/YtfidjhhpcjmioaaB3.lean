/- Walk over Check of the reference of package ballot. Conditions stand in each theorem. -/
import Derived.Test.YtfidjhhpcjmioaaB2
import Derived.Test.YtfidjhhpcjmioaaR4
namespace Go.Proofs.Ytfidjhhpcjmioaa
open Go.RowKit
set_option linter.unusedVariables false

theorem memL_iff (l : List Crd) (m : Int) : ∀ j, m ∈ memL l j ↔ ∃ k, k < j ∧ (cdAt l k).1 = m
  | 0 => by simp [memL]
  | j + 1 => by
    rw [memL, List.mem_cons, memL_iff l m j]
    constructor
    · rintro (h | ⟨k, h1, h2⟩)
      · exact ⟨j, by omega, h.symm⟩
      · exact ⟨k, by omega, h2⟩
    · rintro ⟨k, h1, h2⟩
      by_cases e : k = j
      · subst e; exact Or.inl h2.symm
      · exact Or.inr ⟨k, by omega, h2⟩

theorem rcheck_any (A : Option Addr) (n cap : Nat) (l : List Crd) (t : Int) (w : World) (hl : RdC w w.heap.size A n cap l) :
  Calls Try.prog 33 #[.slice A n cap, .int .i64 t] w fun e w' => e = .returned (.int .i64 (checkF l t)) ∧ Below w.heap.size w w' := by
  have hlen := hl.len
  have hcaps := hl.caps
  by_cases h1 : t < 1
  · have he : checkF l t = 1 := by rw [checkF, if_pos (Or.inl h1)]
    rw [he]
    go_enter Try.func33, Try.ntmps33
    go_wp2
    go_ret
    exact ⟨rfl, Below.refl _ _⟩
  have d1 : decide (t < 1) = false := by simp; omega
  by_cases h2 : 20 < t
  · have he : checkF l t = 1 := by rw [checkF, if_pos (Or.inr (Or.inl h2))]
    rw [he]
    go_enter Try.func33, Try.ntmps33
    go_wp2
    go_ret
    exact ⟨rfl, Below.refl _ _⟩
  have d2 : decide (20 < t) = false := by simp; omega
  by_cases h3 : 4000 < n
  · have he : checkF l t = 1 := by rw [checkF, if_pos (Or.inr (Or.inr (by rw [hlen]; exact h3)))]
    rw [he]
    have d3 : decide (4000 < n) = true := by simp; omega
    have d4 : decide ((4000 : Int) < (n : Int)) = true := by simp; omega
    go_enter Try.func33, Try.ntmps33
    go_wp2
    go_ret
    exact ⟨rfl, Below.refl _ _⟩
  have d3 : decide (4000 < n) = false := by simp; omega
  have d4 : decide ((4000 : Int) < (n : Int)) = false := by simp; omega
  have he : checkF l t = chkA l t n := by rw [checkF, if_neg (by rw [hlen]; omega), hlen]
  rw [he]
  go_enter Try.func33, Try.ntmps33
  go_wp2
  go_loopg [5] n (fun gk i wr => ∃ j : Nat, j ≤ n ∧ gk = n - j ∧ i = .int .i64 j ∧ chkA l t j = 0 ∧ Below w.heap.size w wr)
  case atStart => exact ⟨0, Nat.zero_le _, rfl, rfl, rfl, Below.refl _ _⟩
  case round =>
    obtain ⟨j, hj, rfl, rfl, h0, hb⟩ := hrel
    by_cases hlt : j < n
    · obtain ⟨b, off, m, sh, A', n', cap', rfl, hbB, hcd, c0, c1, hsh⟩ := (hl.below cdE_lasts hb (Nat.le_refl _) (Nat.le_refl _)).atC hlt
      have hc := cdAt_eq hcd
      have hji : (j : Int) < (n : Int) := by omega
      have hj0 : (0 : Int) ≤ (j : Int) := by omega
      have hBw : w.heap.size ≤ wr.heap.size := hb.size
      have hsh' : RdP wr wr.heap.size A' n' cap' sh := hsh.below (flat_lasts _) (Below.refl wr.heap.size wr) hBw hBw
      have hjw : IntKind.i64.wrap ((j : Int) + 1) = (j : Int) + 1 := IntWalk.i64_in _ (by omega)
      cases hC : cardF (m, sh) t
      · have HR := Lib.hid (chkA_form h0 (by rw [hc]; exact hC) hlt)
        have HC := Lib.hid hC
        clear hC h0 hcd hc he
        go_wp2_with (first
          | (go_at_call 49; refine (rright_any m A' n' cap' sh t _ hsh' (by omega)).mono ?_; rw [HC.out]; rintro e w1 ⟨rfl, hb1⟩))
        go_ret
        exact ⟨congrArg (fun z => Ending.returned (Value.int .i64 z)) HR.out.symm, hb.trans (hb1.mono (by omega))⟩
      · have hm : 0 ≤ m ∧ m < 4000 := by simp [cardF, memF] at hC; omega
        obtain ⟨m1, m2⟩ := hm
        have HN := Lib.hid (fun h => chkA_next h0 (by rw [hc]; exact hC) (by rw [hc]; exact h))
        have HT := Lib.hid (fun h => chkA_twice h0 (by rw [hc]; exact hC) (by rw [hc]; exact h) hlt)
        have HC := Lib.hid hC
        clear hC h0 hcd hc he
        go_wp2_with (first
            | (go_at_call 49; refine (rright_any m A' n' cap' sh t _ hsh' (by omega)).mono ?_; rw [HC.out]; rintro e w1 ⟨rfl, hb1⟩
               have hbb := hb.trans (hb1.mono (by omega))
               have c0' : w1.cell? ⟨b, off + j * 2, none⟩ = some (.int .i64 m) := (hb1.cell (by show b < wr.heap.size; omega)).trans c0))
        go_loopg [6] j (fun gk u wq => ∃ k : Nat, k ≤ j ∧ gk = j - k ∧ u = .int .i64 k ∧ (∀ q, q < k → (cdAt l q).1 ≠ m) ∧ Below w.heap.size w wq)
        case atStart => exact ⟨0, Nat.zero_le _, rfl, rfl, fun q hq => absurd hq (by omega), hbb⟩
        case round =>
          obtain ⟨k, hk, rfl, rfl, hne, hbq⟩ := hrel
          by_cases hkj : k < j
          · obtain ⟨b2, off2, m', sh', A'', n'', cap'', he2, hbB2, hcd2, c02, c12, hsh2⟩ := (hl.below cdE_lasts hbq (Nat.le_refl _) (Nat.le_refl _)).atC (show k < n by omega)
            injection he2 with he2
            injection he2 with e1 e2 e3
            subst e1 e2
            have hc2 := cdAt_eq hcd2
            have c0q : wr.cell? ⟨b, off + j * 2, none⟩ = some (.int .i64 m) := (hbq.cell hbB).trans ((hb.cell hbB).symm.trans c0)
            have hki : (k : Int) < (j : Int) := by omega
            have hki2 : (k : Int) < (n : Int) := by omega
            have hk0 : (0 : Int) ≤ (k : Int) := by omega
            have hkw : IntKind.i64.wrap ((k : Int) + 1) = (k : Int) + 1 := IntWalk.i64_in _ (by omega)
            clear c0 c1 c0' hsh2 hcd2
            by_cases hmm : m' = m
            · have HT2 := Lib.hid (HT.out (by rw [memL_iff]; exact ⟨k, hkj, by rw [hc2]; exact hmm⟩))
              have e1 : (m' == m) = true := by simpa using hmm
              clear hne
              go_wp2_with fail
              go_quiet (fail)
              go_wp2
              go_ret
              exact ⟨congrArg (fun z => Ending.returned (Value.int .i64 z)) HT2.out.symm, below_drewN hbq _⟩
            · have e1 : (m' == m) = false := by simpa using hmm
              have HE := Lib.hid (show ∀ q, q < k + 1 → (cdAt l q).1 ≠ m from fun q hq => by
                by_cases e : q = k
                · subst e; rw [hc2]; exact hmm
                · exact hne q (by omega))
              clear hne
              go_wp2_with fail
              go_quiet (fail)
              go_wp2
              go_roundg (j - (k + 1))
              case rel => exact ⟨k + 1, by omega, rfl, by go_num, HE.out, below_drewN hbq _⟩
              case measure => omega
          · have e : k = j := by omega
            subst e
            have hN := HN.out (by rw [memL_iff]; rintro ⟨q, h1, h2⟩; exact hne q h1 h2)
            have HN2 := Lib.hid hN
            clear hN hne
            go_wp2
            go_roundg (n - (k + 1))
            case rel => exact ⟨k + 1, by omega, rfl, by go_num, HN2.out, hbq⟩
            case measure => omega
    · have e : j = n := by omega
      subst e
      go_wp2
      go_ret
      exact ⟨by rw [h0]; rfl, hb⟩
end Go.Proofs.Ytfidjhhpcjmioaa
