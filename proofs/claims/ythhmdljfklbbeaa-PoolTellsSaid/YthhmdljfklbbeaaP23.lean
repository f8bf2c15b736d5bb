/- Walks over Worst and Run of the reference of layer 36. Conditions stand in each theorem. -/
import Derived.Test.YthhmdljfklbbeaaP20
import Derived.Test.YthhmdljfklbbeaaP21
import Derived.Test.YthhmdljfklbbeaaP22
namespace Go.Proofs.Ythhmdljfklbbeaa
open Go.RowKit
set_option linter.unusedVariables false

set_option maxRecDepth 100000 in
theorem rworst_any (p : Pl) (n : Int) (w : World) :
  Calls Try.prog 11 #[plV p, .int .i64 n] w fun e w' => e = .returned (.tuple #[.int .i64 (if argF p n then worstF p n.toNat else 0), .int .i64 (if argF p n then 0 else 1)]) ∧ Below w.heap.size w w' := by
  have Hright := Lib.hid (fun w => rright_any p w)
  have Hin := Lib.hid (fun w => rin_any n 0 1000 w)
  have hbx : Below w.heap.size w (w.alloc (.cells (plC p) 23)) := (Below.refl w.heap.size w).alloc (Nat.le_refl _) _
  have hcx : ∀ w1, Below (w.alloc (.cells (plC p) 23)).heap.size (w.alloc (.cells (plC p) 23)) w1 → (∀ (j : Nat) u, (plC p)[j]? = some u → w1.cell? ⟨w.heap.size, j, none⟩ = some u) ∧ Below w.heap.size w w1 ∧ w.heap.size < w1.heap.size := fun w1 hb => ⟨fun j u hu => (hb.cell (p := ⟨w.heap.size, j, none⟩) (by simp)).trans (new_cell rfl hu), hbx.trans (hb.mono (by simp)), by have := hb.size; simp at this; omega⟩
  have Hcx := Lib.hid hcx
  clear hcx hbx
  cases hr : rightF p
  · have hF : argF p n = false := by simp [argF, hr]
    rw [hF]
    have Hr := Lib.hid hr
    clear hF hr
    obtain ⟨mo, pr, ms, co, wi, to⟩ := p
    simp only [plV, plC] at *
    go_enter Try.func11, Try.ntmps11
    go_wp2_with (go_at_call 19; refine (Hright.out _).mono ?_; rw [Hr.out]; rintro e w1 ⟨rfl, hb1⟩)
    go_ret2
    exact ⟨rfl, (Hcx.out _ hb1).2.1⟩
  cases hi : inB 0 1000 n
  · have hF : argF p n = false := by simp [argF, hi]
    rw [hF]
    rw [hi] at Hin
    have Hr := Lib.hid hr
    clear hF hr hi
    obtain ⟨mo, pr, ms, co, wi, to⟩ := p
    simp only [plV, plC] at *
    go_enter Try.func11, Try.ntmps11
    go_wp2_with (first
      | (go_at_call 19; refine (Hright.out _).mono ?_; rw [Hr.out]; rintro e w1 ⟨rfl, hb1⟩)
      | (go_at_call 26; refine (Hin.out _).mono ?_; rintro e w2 ⟨rfl, rfl⟩))
    go_ret2
    exact ⟨rfl, (Hcx.out _ hb1).2.1⟩
  have hF : argF p n = true := by simp [argF, hr, hi]
  rw [hF]
  rw [hi] at Hin
  have hnb : 0 ≤ n ∧ n ≤ 1000 := by simpa [inB] using hi
  obtain ⟨n, rfl⟩ := Int.eq_ofNat_of_zero_le hnb.1
  have hn : n ≤ 1000 := by omega
  have Hgr := Lib.hid (fun w => rgreedy_any p n w hr hn)
  have htot : ∀ A cap w, RdII w w.heap.size A n cap (grL p n) → Calls Try.prog 27 #[.slice A n cap] w fun e w' => e = .returned (.int .i64 (worstF p n)) ∧ w = w' := fun A cap w h => by
    have h1 := rtotal_any A n cap (grL p n) w h (gr_sumBd hr hn)
    rw [sum_grL hr (Nat.le_refl _)] at h1
    exact h1
  have Htot := Lib.hid htot
  have Hr := Lib.hid hr
  simp only [Int.toNat_natCast, if_true]
  generalize worstF p n = WW at *
  unfold GreedyPost at Hgr
  change RowKit.Hid (∀ w, Calls _ _ _ w fun e w' => ∃ A cap, e = .returned (.slice A n cap) ∧ RdII w' w'.heap.size A n cap (grL p n) ∧ Below w.heap.size w w') at Hgr
  generalize grL p n = GL at *
  clear hF hr hi hnb htot
  obtain ⟨mo, pr, ms, co, wi, to⟩ := p
  simp only [plV, plC] at *
  go_enter Try.func11, Try.ntmps11
  go_wp2_with (first
    | (go_at_call 19; refine (Hright.out _).mono ?_; rw [Hr.out]; rintro e w1 ⟨rfl, hb1⟩
       obtain ⟨hc1, hb01, hl1⟩ := Hcx.out _ hb1
       have c0 := hc1 0 _ rfl; have c1 := hc1 1 _ rfl; have c2 := hc1 2 _ rfl; have c3 := hc1 3 _ rfl; have c4 := hc1 4 _ rfl; have c5 := hc1 5 _ rfl
       clear hc1 hb1)
    | (go_at_call 26; refine (Hin.out _).mono ?_; rintro e w2 ⟨rfl, rfl⟩)
    | (go_at_call 28; refine (Hgr.out _).mono ?_; rintro e w3 ⟨A, cap, rfl, r3, hb3⟩)
    | (go_at_call 27; refine (Htot.out A cap _ r3).mono ?_; rintro e w4 ⟨rfl, rfl⟩))
  go_ret2
  exact ⟨rfl, hb01.trans (hb3.mono hb01.size)⟩

set_option maxRecDepth 100000 in
theorem rrun_any (p : Pl) (A : Option Addr) (n cap : Nat) (cl : List (List Int)) (w : World) (hl : RdII w w.heap.size A n cap cl) :
  Calls Try.prog 15 #[plV p, .slice A n cap] w (RunPost w (runL p cl) (runE p cl)) := by
  have hcaps := hl.caps
  have hlen := hl.len
  have Hright := Lib.hid (fun w => rright_any p w)
  have Hadmits := Lib.hid (fun w hl => radmits_any p A n cap cl w hl)
  have hbx : Below w.heap.size w (w.alloc (.cells (plC p) 23)) := (Below.refl w.heap.size w).alloc (Nat.le_refl _) _
  have hcx : ∀ w1, Below (w.alloc (.cells (plC p) 23)).heap.size (w.alloc (.cells (plC p) 23)) w1 → (∀ (j : Nat) u, (plC p)[j]? = some u → w1.cell? ⟨w.heap.size, j, none⟩ = some u) ∧ Below w.heap.size w w1 ∧ w.heap.size < w1.heap.size := fun w1 hb => ⟨fun j u hu => (hb.cell (p := ⟨w.heap.size, j, none⟩) (by simp)).trans (new_cell rfl hu), hbx.trans (hb.mono (by simp)), by have := hb.size; simp at this; omega⟩
  have Hcx := Lib.hid hcx
  clear hcx hbx
  cases hr : rightF p
  · have hE : runE p cl = 1 := by simp [runE, hr]
    have hL : runL p cl = [] := by simp [runL, admF, hr]
    rw [hE, hL]
    have Hr := Lib.hid hr
    clear hE hL hr
    obtain ⟨mo, pr, ms, co, wi, to⟩ := p
    simp only [plV, plC] at *
    go_enter Try.func15, Try.ntmps15
    go_wp2_with (go_at_call 19; refine (Hright.out _).mono ?_; rw [Hr.out]; rintro e w1 ⟨rfl, hb1⟩)
    go_ret2
    exact ⟨_, rfl, Own.nil, (Hcx.out _ hb1).2.1⟩
  by_cases h1000 : 1000 < n
  · have hE : runE p cl = 1 := by simp [runE, hr, hlen]; omega
    have hL : runL p cl = [] := by simp [runL, admF, hr, hlen]; omega
    rw [hE, hL]
    have Hr := Lib.hid hr
    have hd : decide ((1000 : Int) < (n : Int)) = true := by simp; omega
    clear hE hL hr
    obtain ⟨mo, pr, ms, co, wi, to⟩ := p
    simp only [plV, plC] at *
    go_enter Try.func15, Try.ntmps15
    go_wp2_with (go_at_call 19; refine (Hright.out _).mono ?_; rw [Hr.out]; rintro e w1 ⟨rfl, hb1⟩)
    go_ret2
    exact ⟨_, rfl, Own.nil, (Hcx.out _ hb1).2.1⟩
  have hd : decide ((1000 : Int) < (n : Int)) = false := by simp; omega
  cases ha : admN p cl n
  · have hE : runE p cl = 30 := by simp [runE, hr, hlen, ha]; omega
    have hF : admF p cl = false := by simp [admF, hlen, ha]
    have hL : runL p cl = [] := by simp [runL, hF]
    rw [hE, hL]
    have Hr := Lib.hid hr
    have HF := Lib.hid hF
    clear hE hL hr ha hF
    obtain ⟨mo, pr, ms, co, wi, to⟩ := p
    simp only [plV, plC] at *
    go_enter Try.func15, Try.ntmps15
    go_wp2_with (first
      | (go_at_call 19; refine (Hright.out _).mono ?_; rw [Hr.out]; rintro e w1 ⟨rfl, hb1⟩
         obtain ⟨hc1, hb01, hl1⟩ := Hcx.out _ hb1
         have c0 := hc1 0 _ rfl; have c1 := hc1 1 _ rfl; have c2 := hc1 2 _ rfl; have c3 := hc1 3 _ rfl; have c4 := hc1 4 _ rfl; have c5 := hc1 5 _ rfl
         clear hc1 hb1)
      | (go_at_call 21; refine (Hadmits.out _ (hl.up ii_lasts hb01)).mono ?_; rw [HF.out]; rintro e w2 ⟨rfl, hb2⟩))
    go_ret2
    exact ⟨_, rfl, Own.nil, hb01.trans (hb2.mono hb01.size)⟩
  · have hE : runE p cl = 0 := by simp [runE, hr, hlen, ha]; omega
    have hF : admF p cl = true := by simp [admF, hlen, ha, hr]; omega
    have hL : runL p cl = ofF n (fun j => mny p cl (j + 1)) := by simp [runL, hF, hlen]
    rw [hE, hL]
    have Hmoney := Lib.hid (fun w h => rmoney_any p A n cap cl w h (by omega) (adm_mnyBd hr (by omega) ha))
    have Hr := Lib.hid hr
    have HF := Lib.hid hF
    generalize ofF n (fun j => mny p cl (j + 1)) = ML at *
    clear hE hL hr ha hF
    obtain ⟨mo, pr, ms, co, wi, to⟩ := p
    simp only [plV, plC] at *
    go_enter Try.func15, Try.ntmps15
    go_wp2_with (first
      | (go_at_call 19; refine (Hright.out _).mono ?_; rw [Hr.out]; rintro e w1 ⟨rfl, hb1⟩
         obtain ⟨hc1, hb01, hl1⟩ := Hcx.out _ hb1
         have c0 := hc1 0 _ rfl; have c1 := hc1 1 _ rfl; have c2 := hc1 2 _ rfl; have c3 := hc1 3 _ rfl; have c4 := hc1 4 _ rfl; have c5 := hc1 5 _ rfl
         clear hc1 hb1)
      | (go_at_call 21; refine (Hadmits.out _ (hl.up ii_lasts hb01)).mono ?_; rw [HF.out]; rintro e w2 ⟨rfl, hb2⟩
         have d0 := (hb2.cell (p := ⟨w.heap.size, 0, none⟩) hl1).trans c0
         have d1 := (hb2.cell (p := ⟨w.heap.size, 1, none⟩) hl1).trans c1
         have d2 := (hb2.cell (p := ⟨w.heap.size, 2, none⟩) hl1).trans c2
         have d3 := (hb2.cell (p := ⟨w.heap.size, 3, none⟩) hl1).trans c3
         have d4 := (hb2.cell (p := ⟨w.heap.size, 4, none⟩) hl1).trans c4
         have d5 := (hb2.cell (p := ⟨w.heap.size, 5, none⟩) hl1).trans c5
         have hb02 := hb01.trans (hb2.mono hb01.size)
         clear c0 c1 c2 c3 c4 c5 hb2)
      | (go_at_call 30; refine (Hmoney.out _ (hl.up ii_lasts hb02)).mono ?_; rintro e w3 ⟨v3, rfl, ho3, hb3⟩))
    go_ret2
    exact ⟨_, rfl, ho3.mono hb02.size, hb02.trans (hb3.mono hb02.size)⟩
end Go.Proofs.Ythhmdljfklbbeaa
