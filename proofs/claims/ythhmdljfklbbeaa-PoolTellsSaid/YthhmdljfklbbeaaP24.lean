/- Walk over Solvent of the reference of layer 36. Conditions stand in the theorem. -/
import Derived.Test.YthhmdljfklbbeaaP23
namespace Go.Proofs.Ythhmdljfklbbeaa
open Go.RowKit
set_option linter.unusedVariables false

set_option maxRecDepth 100000 in
set_option maxHeartbeats 1000000 in
theorem rsolvent_any (p : Pl) (k : Int) (w : World) :
  Calls Try.prog 13 #[plV p, .int .i64 k] w (SolvPost w (solvB p k) (solvL p k) (solvE p k)) := by
  have Hright := Lib.hid (fun w => rright_any p w)
  have Hin := Lib.hid (fun w => rin_any k 0 1000 w)
  have hbx : Below w.heap.size w (w.alloc (.cells (plC p) 23)) := (Below.refl w.heap.size w).alloc (Nat.le_refl _) _
  have hcx : ∀ w1, Below (w.alloc (.cells (plC p) 23)).heap.size (w.alloc (.cells (plC p) 23)) w1 → (∀ (j : Nat) u, (plC p)[j]? = some u → w1.cell? ⟨w.heap.size, j, none⟩ = some u) ∧ Below w.heap.size w w1 ∧ w.heap.size < w1.heap.size := fun w1 hb => ⟨fun j u hu => (hb.cell (p := ⟨w.heap.size, j, none⟩) (by simp)).trans (new_cell rfl hu), hbx.trans (hb.mono (by simp)), by have := hb.size; simp at this; omega⟩
  have Hcx := Lib.hid hcx
  clear hcx hbx
  cases hr : rightF p
  · have h1 : argF p k = false := by simp [argF, hr]
    have hB : solvB p k = false := by simp [solvB, h1]
    have hL : solvL p k = [] := by simp [solvL, h1]
    have hE : solvE p k = 1 := by simp [solvE, h1]
    rw [hB, hL, hE]
    have Hr := Lib.hid hr
    clear h1 hB hL hE hr
    obtain ⟨mo, pr, ms, co, wi, to⟩ := p
    simp only [plV, plC] at *
    go_enter Try.func13, Try.ntmps13
    go_wp2_with (go_at_call 19; refine (Hright.out _).mono ?_; rw [Hr.out]; rintro e w1 ⟨rfl, hb1⟩)
    go_ret3
    exact ⟨_, _, _, rfl, Rd.nil, (Hcx.out _ hb1).2.1⟩
  cases hi : inB 0 1000 k
  · have h1 : argF p k = false := by simp [argF, hi]
    have hB : solvB p k = false := by simp [solvB, h1]
    have hL : solvL p k = [] := by simp [solvL, h1]
    have hE : solvE p k = 1 := by simp [solvE, h1]
    rw [hB, hL, hE]
    rw [hi] at Hin
    have Hr := Lib.hid hr
    clear h1 hB hL hE hr hi
    obtain ⟨mo, pr, ms, co, wi, to⟩ := p
    simp only [plV, plC] at *
    go_enter Try.func13, Try.ntmps13
    go_wp2_with (first
      | (go_at_call 19; refine (Hright.out _).mono ?_; rw [Hr.out]; rintro e w1 ⟨rfl, hb1⟩)
      | (go_at_call 26; refine (Hin.out _).mono ?_; rintro e w2 ⟨rfl, rfl⟩))
    go_ret3
    exact ⟨_, _, _, rfl, Rd.nil, (Hcx.out _ hb1).2.1⟩
  have hA : argF p k = true := by simp [argF, hr, hi]
  rw [hi] at Hin
  have hkb : 0 ≤ k ∧ k ≤ 1000 := by simpa [inB] using hi
  obtain ⟨k, rfl⟩ := Int.eq_ofNat_of_zero_le hkb.1
  have hk : k ≤ 1000 := by omega
  have hB : solvB p (k : Int) = decide (fb p k = 0) := by simp [solvB, hA]
  have hL : solvL p (k : Int) = grL p (fb p k) := by simp [solvL, hA]
  have hE : solvE p (k : Int) = 0 := by simp [solvE, hA]
  rw [hB, hL, hE]
  have hgr : ∀ w, Calls Try.prog 28 #[plV p, .int .i64 k] w fun e w' => ∃ A cap, e = .returned (.slice A k cap) ∧ RdII w' w'.heap.size A k cap (grL p k) ∧ Below w.heap.size w w' := fun w => rgreedy_any p k w hr hk
  have Hgr := Lib.hid hgr
  have Hmoney := Lib.hid (fun A cap w h => rmoney_any p A k cap (grL p k) w h (by omega) (adm_mnyBd hr hk (adm_grL hr k k (Nat.le_refl _))))
  have Hmny := Lib.hid (fun j (hj : j < k) => gr_mny hr hj)
  have Htake := Lib.hid (fun j (hj : j ≤ k) => gr_take p hj)
  have Hstep := Lib.hid (fun j h => fb_step (p := p) (j := j) h)
  have Hst := Lib.hid (fun j (h : fb p (j + 1) ≠ 0) (hj : j < k) => fb_stays h k (by omega))
  have Hf0 := Lib.hid (show fb p 0 = 0 from rfl)
  have Hr := Lib.hid hr
  clear hA hB hL hE hr hi hkb hgr
  obtain ⟨mo, pr, ms, co, wi, to⟩ := p
  simp only [plV, plC] at *
  go_enter Try.func13, Try.ntmps13
  go_wp2_with (first
    | (go_at_call 19; refine (Hright.out _).mono ?_; rw [Hr.out]; rintro e w1 ⟨rfl, hb1⟩
       obtain ⟨hc1, hb01, hl1⟩ := Hcx.out _ hb1
       have c0 := hc1 0 _ rfl; have c1 := hc1 1 _ rfl; have c2 := hc1 2 _ rfl; have c3 := hc1 3 _ rfl; have c4 := hc1 4 _ rfl; have c5 := hc1 5 _ rfl
       clear hc1 hb1)
    | (go_at_call 26; refine (Hin.out _).mono ?_; rintro e w2 ⟨rfl, rfl⟩)
    | (go_at_call 28; refine (Hgr.out _).mono ?_; rintro e w3 ⟨A, cap, rfl, r3, hb3⟩
       have d0 := (hb3.cell (p := ⟨w.heap.size, 0, none⟩) hl1).trans c0
       have d1 := (hb3.cell (p := ⟨w.heap.size, 1, none⟩) hl1).trans c1
       have d2 := (hb3.cell (p := ⟨w.heap.size, 2, none⟩) hl1).trans c2
       have d3 := (hb3.cell (p := ⟨w.heap.size, 3, none⟩) hl1).trans c3
       have d4 := (hb3.cell (p := ⟨w.heap.size, 4, none⟩) hl1).trans c4
       have d5 := (hb3.cell (p := ⟨w.heap.size, 5, none⟩) hl1).trans c5
       have hb03 := hb01.trans (hb3.mono hb01.size)
       clear c0 c1 c2 c3 c4 c5 hb3)
    | (go_at_call 30; refine (Hmoney.out A cap _ r3).mono ?_; rintro e w4 ⟨v4, rfl, ho4, hb4⟩
       have r4 := r3.up ii_lasts hb4
       have hb04 := hb03.trans (hb4.mono hb03.size)
       obtain ⟨A4, c4', rfl, rm⟩ := ho4.rd iSized (by rw [ofF_len]; omega)
       rw [ofF_len] at rm ⊢
       clear d0 d1 d2 d3 d4 d5 ho4 hb4 r3))
  have hcap := r4.caps
  have hcap2 := rm.caps
  go_loopg [9] k (fun gk i wr => ∃ j : Nat, j ≤ k ∧ gk = k - j ∧ i = .int .i64 j ∧ fb ⟨mo, pr, ms, co, wi, to⟩ j = 0 ∧ w4 = wr)
  case atStart => exact ⟨0, Nat.zero_le _, rfl, rfl, Hf0.out, rfl⟩
  case round =>
    obtain ⟨j, hj, rfl, rfl, hfj, rfl⟩ := hrel
    have Hfj := Lib.hid hfj
    clear hfj
    by_cases hlt : j < k
    · obtain ⟨b, off, x, rfl, hbB, hx, k0⟩ := rm.atI hlt
      obtain ⟨-, ex⟩ := ofF_get_some hx
      rw [Hmny.out j hlt] at ex
      have hji : (j : Int) < (k : Int) := by omega
      have hj0 : (0 : Int) ≤ (j : Int) := by omega
      have hfn := Hstep.out j Hfj.out
      have hwj : IntKind.i64.wrap ((j : Int) + 1) = (j : Int) + 1 := IntWalk.i64_in _ (by omega)
      by_cases hbad : x < 0
      · have hne : fb ⟨mo, pr, ms, co, wi, to⟩ (j + 1) = j + 1 := by
          rw [hfn, if_pos (by omega)]
        have hk' := (Hst.out j (by rw [hne]; omega) hlt).trans hne
        have Hk := Lib.hid hk'
        have ht := Htake.out (j + 1) (by omega)
        have rt := r4.take (k := j + 1) (by omega)
        rw [ht] at rt
        have hs0 : (0 : Int) ≤ (j : Int) + 1 := by omega
        have hs1 : (j : Int) + 1 ≤ (cap : Int) := by omega
        have hdx : decide (x < 0) = true := by simpa using hbad
        have htn : ((j : Int) + 1).toNat = j + 1 := by omega
        clear hne hk' ht hfn ex hx
        go_wp2
        go_quiet (fail)
        go_wp2
        go_ret3
        refine ⟨A, j + 1, cap, ?_, ?_, below_drewN hb04 _⟩
        · rw [Hk.out]; simp
        · rw [Hk.out]; exact Rd.drewN ii_lasts rt _
      · have hz : fb ⟨mo, pr, ms, co, wi, to⟩ (j + 1) = 0 := by
          rw [hfn, if_neg (by omega)]
        have Hz := Lib.hid hz
        have hdx : decide (x < 0) = false := by simpa using hbad
        clear hz hfn ex hx
        go_wp2
        go_roundg (k - (j + 1))
        case rel => exact ⟨j + 1, by omega, rfl, by go_num, Hz.out, rfl⟩
        case measure => omega
    · have e : j = k := by omega
      subst e
      go_wp2
      go_ret3
      refine ⟨none, 0, 0, ?_, ?_, hb04⟩
      · rw [Hfj.out]; rfl
      · rw [Hfj.out]; exact Rd.nil
end Go.Proofs.Ythhmdljfklbbeaa
