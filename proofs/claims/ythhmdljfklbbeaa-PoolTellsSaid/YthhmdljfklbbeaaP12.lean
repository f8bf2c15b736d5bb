/- Walk over Solvent of package pool. Conditions stand in the theorem. -/
import Derived.Test.YthhmdljfklbbeaaP11
namespace Go.Proofs.Ythhmdljfklbbeaa
open Go.RowKit
set_option linter.unusedVariables false

/-- the least number of periods, at most k, whose worst claims empty the pool; 0, if there is none -/
def fb (p : Pl) : Nat → Nat
  | 0 => 0
  | k + 1 => if fb p k ≠ 0 then fb p k else if p.mo + ((k : Int) + 1) * p.pr < worstF p (k + 1) then k + 1 else 0
theorem fb_stays {p : Pl} {k : Nat} (h : fb p k ≠ 0) : ∀ n, k ≤ n → fb p n = fb p k
  | 0, hk => by rw [show k = 0 by omega]
  | n + 1, hk => by
    by_cases e : k = n + 1
    · rw [e]
    · have h1 := fb_stays h n (by omega)
      rw [fb, if_pos (by rw [h1]; exact h), h1]
def grL (p : Pl) (n : Nat) : List (List Int) := ofF n (fun i => partsL p.ms (grP p i))
def solvB (p : Pl) (k : Int) : Bool := argF p k && decide (fb p k.toNat = 0)
def solvL (p : Pl) (k : Int) : List (List Int) := if argF p k then grL p (fb p k.toNat) else []
def solvE (p : Pl) (k : Int) : Int := if argF p k then 0 else 1
def SolvPost (w : World) (b : Bool) (L : List (List Int)) (er : Int) (e : Ending) (w' : World) : Prop := ∃ A m cap, e = .returned (.tuple #[.bool b, .slice A m cap, .int .i64 er]) ∧ RdII w' w'.heap.size A m cap L ∧ Below w.heap.size w w'

set_option maxRecDepth 100000 in
set_option maxHeartbeats 1000000 in
theorem solvent_any (p : Pl) (k : Int) (w : World) (hk : -9223372036854775808 ≤ k ∧ k ≤ 9223372036854775807) :
  Calls Try.prog 12 #[plV p, .int .i64 k] w (SolvPost w (solvB p k) (solvL p k) (solvE p k)) := by
  have Hright := Lib.hid (fun w => right_any p w)
  have Hin := Lib.hid (fun A n cap l w hl => in_any 0 1000 A n cap l w hl)
  have hbx : Below w.heap.size w (w.alloc (.cells (plC p) 23)) := (Below.refl w.heap.size w).alloc (Nat.le_refl _) _
  have hcx : ∀ w1, Below (w.alloc (.cells (plC p) 23)).heap.size (w.alloc (.cells (plC p) 23)) w1 → (∀ (j : Nat) u, (plC p)[j]? = some u → w1.cell? ⟨w.heap.size, j, none⟩ = some u) ∧ Below w.heap.size w w1 ∧ w.heap.size < w1.heap.size := fun w1 hb => ⟨fun j u hu => (hb.cell (p := ⟨w.heap.size, j, none⟩) (by simp)).trans (new_cell rfl hu), hbx.trans (hb.mono (by simp)), by have := hb.size; simp at this; omega⟩
  have Hcx := Lib.hid hcx
  clear hcx hbx
  cases hr : rightF p
  · have h1 : argF p k = false := by simp [argF, hr]
    have hB : solvB p k = false := by simp [solvB, h1]
    have hL : solvL p k = [] := by simp [solvL, h1]
    have hE : solvE p k = 1 := by simp [solvE, h1]
    rw [hB, hL, hE]
    have Hr := Lib.hid hr
    clear h1 hB hL hE hr
    obtain ⟨mo, pr, ms, co, wi, to⟩ := p
    simp only [plV, plC] at *
    go_enter Try.func12, Try.ntmps12
    go_wp2_with (go_at_call 18; refine (Hright.out _).mono ?_; rw [Hr.out]; rintro e w1 ⟨rfl, hb1⟩)
    go_ret3
    exact ⟨_, _, _, rfl, Rd.nil, (Hcx.out _ hb1).2.1⟩
  cases hi : inB 0 1000 k
  · have h1 : argF p k = false := by simp [argF, hi]
    have hB : solvB p k = false := by simp [solvB, h1]
    have hL : solvL p k = [] := by simp [solvL, h1]
    have hE : solvE p k = 1 := by simp [solvE, h1]
    rw [hB, hL, hE]
    have Hr := Lib.hid hr
    have Hi := Lib.hid (show [k].all (inB 0 1000) = false by simp [hi])
    clear h1 hB hL hE hr hi
    obtain ⟨mo, pr, ms, co, wi, to⟩ := p
    simp only [plV, plC] at *
    go_enter Try.func12, Try.ntmps12
    go_wp2_with (first
      | (go_at_call 18; refine (Hright.out _).mono ?_; rw [Hr.out]; rintro e w1 ⟨rfl, hb1⟩)
      | (go_at_call 25; refine (Hin.out _ 1 1 [k] _ (Rd.litI (w := w1) 3 [k] _ 1 rfl rfl (by omega))).mono ?_; rw [Hi.out]; rintro e w2 ⟨rfl, hb2⟩))
    go_ret3
    obtain ⟨-, h1, -⟩ := Hcx.out _ hb1
    exact ⟨_, _, _, rfl, Rd.nil, (h1.alloc h1.size _).trans (hb2.mono (by have := h1.size; simp; omega))⟩
  have hA : argF p k = true := by simp [argF, hr, hi]
  have hkb : 0 ≤ k ∧ k ≤ 1000 := by simpa [inB] using hi
  obtain ⟨k, rfl⟩ := Int.eq_ofNat_of_zero_le hkb.1
  have hB : solvB p (k : Int) = decide (fb p k = 0) := by simp [solvB, hA]
  have hL : solvL p (k : Int) = grL p (fb p k) := by simp [solvL, hA]
  have hE : solvE p (k : Int) = 0 := by simp [solvE, hA]
  rw [hB, hL, hE]
  have hWn : ∀ j : Nat, j < k → argF p ((j : Int) + 1) = true := fun j hj => by simp [argF, hr, inB]; omega
  have hworst : ∀ (j : Nat) w, j < k → Calls Try.prog 10 #[plV p, .int .i64 ((j : Int) + 1)] w fun e w' => e = .returned (.tuple #[.int .i64 (worstF p (j + 1)), .int .i64 0]) ∧ Below w.heap.size w w' := fun j w hj => by
    have h := worst_any p ((j : Int) + 1) w (by omega)
    rw [hWn j hj, show ((j : Int) + 1).toNat = j + 1 by omega] at h
    exact h
  have hgreedy := fun n w hn => greedy_any p n w hr hn
  have hfb := fun (j : Nat) (h : fb p j = 0) => (show fb p (j + 1) = if p.mo + ((j : Int) + 1) * p.pr < worstF p (j + 1) then j + 1 else 0 by rw [fb, if_neg (by simp [h])])
  have hst := fun (j : Nat) (h : fb p (j + 1) ≠ 0) (hj : j < k) => fb_stays h k (by omega)
  have hgl : ∀ n, grL p n = ofF n (fun i => partsL p.ms (grP p i)) := fun n => rfl
  have hf0 : fb p 0 = 0 := rfl
  have Hr := Lib.hid hr
  have Hi := Lib.hid (show [(k : Int)].all (inB 0 1000) = true by simp [hi])
  have Hworst := Lib.hid hworst; have Hgreedy := Lib.hid hgreedy; have Hfb := Lib.hid hfb; have Hst := Lib.hid hst
  have Hf0 := Lib.hid hf0
  obtain ⟨⟨p11, p12⟩, ⟨p21, p22⟩, ⟨p31, p32⟩, ⟨p41, p42⟩, ⟨p51, p52⟩, ⟨p61, p62⟩⟩ := rightF_iff hr
  have hwb : ∀ j, j < k → 0 ≤ worstF p (j + 1) := fun j hj => by
    have h0 := (grP_facts hr).2
    have := sumN_mono (f := grP p) (n := j + 1) (fun i _ => (h0 i).1.1) 0 (by omega)
    exact this
  have Hwb := Lib.hid hwb
  clear hA hB hL hE hWn hworst hgreedy hfb hst hf0 hr hi hwb hgl
  obtain ⟨mo, pr, ms, co, wi, to⟩ := p
  simp only [plV, plC] at *
  go_enter Try.func12, Try.ntmps12
  go_wp2_with (first
      | (go_at_call 18; refine (Hright.out _).mono ?_; rw [Hr.out]; rintro e w1 ⟨rfl, hb1⟩
         obtain ⟨hc1, hb01, hl1⟩ := Hcx.out _ hb1
         have c0 := hc1 0 _ rfl; have c1 := hc1 1 _ rfl; have c2 := hc1 2 _ rfl; have c3 := hc1 3 _ rfl; have c4 := hc1 4 _ rfl; have c5 := hc1 5 _ rfl
         clear hc1 hb1)
      | (go_at_call 25; refine (Hin.out _ 1 1 [(k : Int)] _ (Rd.litI (w := w1) 3 [(k : Int)] _ 1 rfl rfl (by omega))).mono ?_; rw [Hi.out]; rintro e w2 ⟨rfl, hb2⟩
         have hk2 : Below w1.heap.size w1 w2 := ((Below.refl w1.heap.size w1).alloc (Nat.le_refl _) _).trans (hb2.mono (by simp))
         have hb02 := hb01.trans (hk2.mono hb01.size)
         have hl2 := Nat.lt_of_lt_of_le hl1 hk2.size
         have e0 := (hk2.cell (p := ⟨w.heap.size, 0, none⟩) hl1).trans c0
         have e1 := (hk2.cell (p := ⟨w.heap.size, 1, none⟩) hl1).trans c1
         have e2 := (hk2.cell (p := ⟨w.heap.size, 2, none⟩) hl1).trans c2
         have e3 := (hk2.cell (p := ⟨w.heap.size, 3, none⟩) hl1).trans c3
         have e4 := (hk2.cell (p := ⟨w.heap.size, 4, none⟩) hl1).trans c4
         have e5 := (hk2.cell (p := ⟨w.heap.size, 5, none⟩) hl1).trans c5
         clear c0 c1 c2 c3 c4 c5 hb2 hk2))
  have E := Lib.hid (And.intro e0 (And.intro e1 (And.intro e2 (And.intro e3 (And.intro e4 e5)))))
  clear e0 e1 e2 e3 e4 e5
  go_loopg [7] k (fun gk i wr => ∃ j : Nat, j ≤ k ∧ gk = k - j ∧ i = .int .i64 ((j : Int) + 1) ∧ fb ⟨mo, pr, ms, co, wi, to⟩ j = 0 ∧ Below w2.heap.size w2 wr)
  case atStart => exact ⟨0, Nat.zero_le _, rfl, by simp, Hf0.out, Below.refl _ _⟩
  case round =>
    obtain ⟨j, hj, rfl, rfl, hfj, hb⟩ := hrel
    have Hfj := Lib.hid hfj; clear hfj
    have hb0 := hb02.trans (hb.mono hb02.size)
    by_cases hlt : j < k
    · obtain ⟨e0, e1, e2, e3, e4, e5⟩ := E.out
      have d0 := (hb.cell (p := ⟨w.heap.size, 0, none⟩) hl2).trans e0
      have d1 := (hb.cell (p := ⟨w.heap.size, 1, none⟩) hl2).trans e1
      have d2 := (hb.cell (p := ⟨w.heap.size, 2, none⟩) hl2).trans e2
      have d3 := (hb.cell (p := ⟨w.heap.size, 3, none⟩) hl2).trans e3
      have d4 := (hb.cell (p := ⟨w.heap.size, 4, none⟩) hl2).trans e4
      have d5 := (hb.cell (p := ⟨w.heap.size, 5, none⟩) hl2).trans e5
      have hlr := Nat.lt_of_lt_of_le hl2 hb.size
      clear e0 e1 e2 e3 e4 e5
      have hji : (j : Int) + 1 ≤ (k : Int) := by omega
      obtain ⟨x1, x2⟩ := mul_bd2 (a := (j : Int) + 1) (b := pr) (by omega) (show (j : Int) + 1 ≤ 1000 by omega) p21 p22
      have hfn := Hfb.out j Hfj.out
      obtain ⟨PP, hPP⟩ : ∃ x, ((j : Int) + 1) * pr = x := ⟨_, rfl⟩
      rw [hPP] at x1 x2 hfn
      have hw1 : IntKind.i64.wrap PP = PP := IntWalk.i64_in _ (by omega)
      have hw2 : IntKind.i64.wrap (mo + PP) = mo + PP := IntWalk.i64_in _ (by omega)
      have hwo := fun w => Hworst.out j w hlt
      have Hwo := Lib.hid hwo
      have Hfn := Lib.hid hfn
      clear hwo hfn
      generalize worstF ⟨mo, pr, ms, co, wi, to⟩ (j + 1) = WW at *
      by_cases hbad : mo + PP < WW
      · have hne : fb ⟨mo, pr, ms, co, wi, to⟩ (j + 1) = j + 1 := by rw [Hfn.out, if_pos hbad]
        have Hk := Lib.hid ((Hst.out j (by rw [hne]; omega) hlt).trans hne)
        clear hne
        go_wp2_with fail
        refine (Hwo.out _).mono ?_
        rintro e w3 ⟨rfl, hb3⟩
        have f0 := (hb3.cell (p := ⟨w.heap.size, 0, none⟩) hlr).trans d0
        have f1 := (hb3.cell (p := ⟨w.heap.size, 1, none⟩) hlr).trans d1
        have f2 := (hb3.cell (p := ⟨w.heap.size, 2, none⟩) hlr).trans d2
        have f3 := (hb3.cell (p := ⟨w.heap.size, 3, none⟩) hlr).trans d3
        have f4 := (hb3.cell (p := ⟨w.heap.size, 4, none⟩) hlr).trans d4
        have f5 := (hb3.cell (p := ⟨w.heap.size, 5, none⟩) hlr).trans d5
        have hb03 := hb0.trans (hb3.mono hb0.size)
        go_wp2_with fail
        refine (Hgreedy.out (j + 1) w3 (by omega)).mono ?_
        rintro e w4 ⟨A, cap, rfl, hr4, hb4⟩
        go_wp2_with fail
        go_ret3
        refine ⟨A, j + 1, cap, ?_, ?_, hb03.trans (hb4.mono hb03.size)⟩
        · rw [Hk.out]; simp
        · rw [Hk.out]; exact hr4
      · have hdb : decide (mo + PP < WW) = false := by simpa using hbad
        have hz : fb ⟨mo, pr, ms, co, wi, to⟩ (j + 1) = 0 := by rw [Hfn.out, if_neg hbad]
        have Hz := Lib.hid hz; clear hz
        go_wp2_with fail
        refine (Hwo.out _).mono ?_
        rintro e w3 ⟨rfl, hb3⟩
        have f0 := (hb3.cell (p := ⟨w.heap.size, 0, none⟩) hlr).trans d0
        have f1 := (hb3.cell (p := ⟨w.heap.size, 1, none⟩) hlr).trans d1
        have hb23 := hb.trans (hb3.mono hb.size)
        go_wp2
        go_roundg (k - (j + 1))
        case rel => exact ⟨j + 1, by omega, rfl, by go_num, Hz.out, hb23⟩
        case measure => omega
    · have e : j = k := by omega
      subst e
      go_wp2
      go_ret3
      refine ⟨none, 0, 0, ?_, ?_, hb0⟩
      · rw [Hfj.out]; rfl
      · rw [Hfj.out]; exact Rd.nil
end Go.Proofs.Ythhmdljfklbbeaa
