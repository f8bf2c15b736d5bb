/- Walk over Right of package idle. Conditions stand in the theorem. -/
import Derived.Test.YtmcamadcoglodaaQ1
import Derived.Laws.EntriesVeiled
namespace Go.Proofs.Ytmcamadcoglodaa
open Go.RowKit
set_option linter.unusedVariables false

theorem right_all {cl : List (List Int)} : rightC cl = (decide (1 ≤ cl.length ∧ cl.length ≤ 20) && (decide (cl.length ≤ wid cl ∧ wid cl ≤ 40) && cl.all (rowL (wid cl)))) := by
  unfold rightC
  have e : (List.range cl.length).all (rowC cl) = cl.all (rowL (wid cl)) := by
    rw [Bool.eq_iff_iff, List.all_eq_true, List.all_eq_true]
    refine ⟨fun h x hx => ?_, fun h i hi => ?_⟩
    · obtain ⟨k, hk⟩ := List.mem_iff_getElem?.1 hx
      have := h k (List.mem_range.2 (List.getElem?_eq_some_iff.1 hk).1)
      unfold rowC at this
      rw [clAt_eq hk] at this
      exact this
    · have hi := List.mem_range.1 hi
      have h2 := h _ (List.getElem_mem hi)
      unfold rowC
      rw [clAt_eq (List.getElem?_eq_getElem hi)]
      exact h2
  rw [e]
set_option maxRecDepth 100000 in
set_option maxHeartbeats 1000000 in
theorem right_any (A : Option Addr) (n cap : Nat) (cl : List (List Int)) (w : World) (hl : RdII w w.heap.size A n cap cl) :
    Calls Try.prog 11 #[.slice A n cap] w fun e w' => e = .returned (.bool (rightC cl)) ∧ Below w.heap.size w w' := by
  have hcaps := hl.caps
  have hlen := hl.len
  have hb1 : Below w.heap.size w (w.alloc (.cells #[.slice A n cap] 22)) := (Below.refl w.heap.size w).alloc (Nat.le_refl _) _
  have k0 : (w.alloc (.cells #[.slice A n cap] 22)).cell? ⟨w.heap.size, 0, none⟩ = some (.slice A n cap) := new_cell rfl rfl
  have hl1 := hl.up ii_lasts hb1
  have hs1 : w.heap.size < (w.alloc (.cells #[.slice A n cap] 22)).heap.size := by simp
  by_cases hn : 1 ≤ n ∧ n ≤ 20
  case neg =>
    have hF : rightC cl = false := by rw [right_all, hlen, decide_eq_false hn]; rfl
    have hd : decide ((n : Int) < 1) = true ∨ (decide ((n : Int) < 1) = false ∧ decide ((20 : Int) < (n : Int)) = true) := by
      simp only [decide_eq_true_eq, decide_eq_false_iff_not]; omega
    rw [hF]
    clear hF hn hlen
    rcases hd with hd | ⟨hd1, hd2⟩
    all_goals
      go_enter Try.func11, Try.ntmps11
      go_wp2_with fail
      go_quiet (fail)
      go_wp2
      go_ret
      exact ⟨rfl, below_drewN hb1 _⟩
  obtain ⟨n1, n20⟩ := hn
  obtain ⟨b, off, A0, n0, cap0, x0, hA, hbB, hx0, c0, r0⟩ := hl1.atII (k := 0) (by omega)
  have hw0 : wid cl = n0 := by rw [wid, clAt_eq hx0]; exact r0.len
  have hcap0 := r0.caps
  have hn0 : (0 : Int) < (n : Int) := by omega
  have hn00 : 0 < n := by omega
  have hd1 : decide ((n : Int) < 1) = false := by simp; omega
  have hd2 : decide ((20 : Int) < (n : Int)) = false := by simp; omega
  rw [Nat.add_zero] at c0
  by_cases hn2 : n ≤ n0 ∧ n0 ≤ 40
  case neg =>
    have hF : rightC cl = false := by rw [right_all, hlen, hw0, decide_eq_false hn2, Bool.false_and, Bool.and_false]
    have hd : decide (n0 < n) = true ∨ (decide (n0 < n) = false ∧ decide ((40 : Int) < (n0 : Int)) = true) := by
      simp only [decide_eq_true_eq, decide_eq_false_iff_not]; omega
    rw [hF]
    subst hA
    clear hF hn2 hlen hx0 hw0
    rcases hd with hd | ⟨hd3, hd4⟩
    all_goals
      go_enter Try.func11, Try.ntmps11
      go_wp2_with fail
      generalize w.alloc (.cells #[.slice (some ⟨b, off, none⟩) n cap] 22) = w1 at *
      go_quiet (fail)
      go_wp2
      go_ret
      exact ⟨rfl, below_drewN hb1 _⟩
  obtain ⟨n2, n40⟩ := hn2
  have hT : rightC cl = cl.all (rowL (wid cl)) := by rw [right_all, hlen, hw0, decide_eq_true ⟨n1, n20⟩, decide_eq_true ⟨n2, n40⟩, Bool.true_and, Bool.true_and]
  have hd3 : decide (n0 < n) = false := by simp; omega
  have hd4 : decide ((40 : Int) < (n0 : Int)) = false := by simp; omega
  have Hcon := Lib.hid (fun B1 B2 w => conR_any A n cap cl B1 B2 w)
  rw [hT]
  generalize cl.all (rowL (wid cl)) = bb at *
  subst hA
  clear hT hlen hx0 hw0
  go_enter Try.func11, Try.ntmps11
  go_wp2_with fail
  generalize w.alloc (.cells #[.slice (some ⟨b, off, none⟩) n cap] 22) = w1 at *
  go_quiet (fail)
  rename_i nq
  have hb2 := below_drewN hb1 nq
  have hl2 : RdII (w1.drewN nq) (w1.drewN nq).heap.size (some ⟨b, off, none⟩) n cap cl := Rd.drewN ii_lasts hl1 nq
  have k1 : (w1.drewN nq).cell? ⟨w.heap.size, 0, none⟩ = some (.slice (some ⟨b, off, none⟩) n cap) := k0
  have hs2 : w.heap.size < (w1.drewN nq).heap.size := hs1
  clear hb1 hl1 k0 hs1 c0
  generalize w1.drewN nq = w2 at *
  have hb3 := hb2.alloc hb2.size (.cells #[.func (.func 34) #[] #[]] 60)
  have hb3' : Below w2.heap.size w2 (w2.alloc (.cells #[.func (.func 34) #[] #[]] 60)) := (Below.refl w2.heap.size w2).alloc (Nat.le_refl _) _
  have hl3 := hl2.up ii_lasts hb3'
  have k2 := (hb3'.cell (p := ⟨w.heap.size, 0, none⟩) hs2).trans k1
  have k3 : (w2.alloc (.cells #[.func (.func 34) #[] #[]] 60)).cell? ⟨w2.heap.size, 0, none⟩ = some (.func (.func 34) #[] #[]) := new_cell rfl rfl
  go_wp2_with fail
  refine (Hcon.out _ _ _ hl3 k2 k3).mono ?_
  rintro e w4 ⟨rfl, rfl⟩
  go_wp2
  go_ret
  exact ⟨by simp, hb3⟩
end Go.Proofs.Ytmcamadcoglodaa
