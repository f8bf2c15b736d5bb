/- Walk over Admits of package pool. Conditions stand in the theorem. -/
import Derived.Test.YthhmdljfklbbeaaP5
namespace Go.Proofs.Ythhmdljfklbbeaa
open Go.RowKit
set_option linter.unusedVariables false

theorem claim_at (H : Nat) (p : Pl) (cl : List (List Int)) (i : Nat) (v : Value) (w : World) (hp : rightF p = true) (hadm : admN p cl (i + 1) = true) (hi : i ≤ 1000) (hw : Win w H p v i (sI cl) (sumN (sI cl) i - sumN (sI cl) (wb p.wi.toNat i))) :
  Calls Try.prog 37 #[.int .i64 (sI cl i), .pointer (some ⟨H + 1, 0, none⟩), .pointer (some ⟨H + 2, 0, none⟩)] w fun e w' => e = .returned (.tuple #[]) ∧ (∃ v', Win w' H p v' (i + 1) (sI cl) (sumN (sI cl) (i + 1) - sumN (sI cl) (i + 1 - p.wi.toNat))) ∧ Kept (fun b => H + 1 ≤ b) w w' := by
  have h1 := win_bd (admN_le hadm (Nat.le_succ i)) hp
  have h2 := win_bd hadm hp
  have h3 := (admN_at hadm (Nat.lt_succ_self i)).2
  have h4 := h2.2.2 i (Nat.lt_succ_self i)
  obtain ⟨_, _, hto, _, _, hwi⟩ := rightF_iff hp
  have hmono := sumN_mono (f := sI cl) (n := i) (fun j hj => (h1.2.2 j hj).1) (wb p.wi.toNat i) (by unfold wb; omega)
  refine (claim_any H p v i (sI cl) _ (sI cl i) w hw hi ⟨by omega, by unfold winS at h3; rw [sumN] at h3; omega⟩ h4).mono fun e w' ⟨he, v', hw', hk, _⟩ => ⟨he, ⟨v', hw'.congr (fun j hj => ?_) ?_⟩, hk.mono fun b _ hb => ?_⟩
  · by_cases hji : j < i
    · rw [if_pos hji]
    · rw [if_neg hji, show j = i by omega]
  · rw [sumN]; unfold wb; omega
  · rcases hb with rfl | rfl | hb
    · exact Nat.le_refl _
    · omega
    · have := (hw.own.lt b hb).1; omega
theorem left_at (H : Nat) (p : Pl) (cl : List (List Int)) (i : Nat) (v : Value) (w : World) (hp : rightF p = true) (hadm : admN p cl i = true) (hi : i ≤ 1000) (hw : Win w H p v i (sI cl) (sumN (sI cl) i - sumN (sI cl) (i - p.wi.toNat))) :
  Calls Try.prog 36 #[.pointer (some ⟨H + 1, 0, none⟩), .pointer (some ⟨H, 0, none⟩), .pointer (some ⟨H + 2, 0, none⟩)] w fun e w' => e = .returned (.int .i64 (p.to - (sumN (sI cl) i - sumN (sI cl) (wb p.wi.toNat i)))) ∧ Win w' H p v i (sI cl) (sumN (sI cl) i - sumN (sI cl) (wb p.wi.toNat i)) ∧ Kept (fun b => b = H + 2) w w' := by
  have h1 := win_bd hadm hp
  obtain ⟨_, _, hto, _, _, hwi⟩ := rightF_iff hp
  have h := left_any H p v i (sI cl) _ w hw hwi hto hi h1.2.2 ⟨h1.1, h1.2.1⟩
  unfold LeftPost at h
  rw [winN_eq hwi.1] at h
  exact h

set_option maxRecDepth 100000 in
set_option maxHeartbeats 1000000 in
theorem admits_any (p : Pl) (A : Option Addr) (n cap : Nat) (cl : List (List Int)) (w : World) (hl : RdII w w.heap.size A n cap cl) :
  Calls Try.prog 20 #[plV p, .slice A n cap] w fun e w' => e = .returned (.bool (admF p cl)) ∧ Below w.heap.size w w' := by
  have hcaps := hl.caps
  have hlen := hl.len
  have Hright := Lib.hid (fun w => right_any p w)
  have Hrest := Lib.hid (fun w => rest_any p w)
  have hbx : Below w.heap.size w (w.alloc (.cells (plC p) 23)) := (Below.refl w.heap.size w).alloc (Nat.le_refl _) _
  have hcx : ∀ w1, Below (w.alloc (.cells (plC p) 23)).heap.size (w.alloc (.cells (plC p) 23)) w1 → (∀ (j : Nat) u, (plC p)[j]? = some u → w1.cell? ⟨w.heap.size, j, none⟩ = some u) ∧ Below w.heap.size w w1 ∧ w.heap.size < w1.heap.size := fun w1 hb => ⟨fun j u hu => (hb.cell (p := ⟨w.heap.size, j, none⟩) (by simp)).trans (new_cell rfl hu), hbx.trans (hb.mono (by simp)), by have := hb.size; simp at this; omega⟩
  have Hcx := Lib.hid hcx
  clear hcx hbx
  cases hr : rightF p
  · have hF : admF p cl = false := by simp [admF, hr]
    have HF := Lib.hid hF
    have Hr := Lib.hid hr
    clear hF hr
    obtain ⟨mo, pr, ms, co, wi, to⟩ := p
    simp only [plV, plC] at *
    go_enter Try.func20, Try.ntmps20
    go_wp2_with (go_at_call 18; refine (Hright.out _).mono ?_; rw [Hr.out]; rintro e w1 ⟨rfl, hb1⟩)
    go_ret
    exact ⟨by rw [HF.out]; rfl, (Hcx.out _ hb1).2.1⟩
  by_cases h1000 : 1000 < n
  · have hF : admF p cl = false := by simp [admF, hlen]; omega
    have HF := Lib.hid hF
    have Hr := Lib.hid hr
    have hd : decide ((1000 : Int) < (n : Int)) = true := by simp; omega
    clear hF hr
    obtain ⟨mo, pr, ms, co, wi, to⟩ := p
    simp only [plV, plC] at *
    go_enter Try.func20, Try.ntmps20
    go_wp2_with (go_at_call 18; refine (Hright.out _).mono ?_; rw [Hr.out]; rintro e w1 ⟨rfl, hb1⟩)
    go_ret
    exact ⟨by rw [HF.out]; rfl, (Hcx.out _ hb1).2.1⟩
  have hd : decide ((1000 : Int) < (n : Int)) = false := by simp; omega
  have hF : admF p cl = admN p cl n := by simp [admF, hlen, hr]; omega
  rw [hF]
  clear hF
  have Hr := Lib.hid hr
  have hb6 := rightF_iff hr
  have Hlen := Lib.hid hlen
  clear hlen hr
  have Hin := Lib.hid (fun hi A n cap l w hl => in_any 1 hi A n cap l w hl)
  have Hsum := Lib.hid (fun A n cap l w hl => psum_any A n cap l w hl)
  have Hleft := Lib.hid (fun H i v w ha hi hw => left_at H p cl i v w Hr.out ha hi hw)
  have Hclaim := Lib.hid (fun H i v w ha hi hw => claim_at H p cl i v w Hr.out ha hi hw)
  obtain ⟨mo, pr, ms, co, wi, to⟩ := p
  simp only [plV, plC] at *
  obtain ⟨⟨p11, p12⟩, ⟨p21, p22⟩, ⟨p31, p32⟩, ⟨p41, p42⟩, ⟨p51, p52⟩, ⟨p61, p62⟩⟩ := hb6
  obtain ⟨W, rfl⟩ := Int.eq_ofNat_of_zero_le (show 0 ≤ wi by omega)
  simp only [Int.toNat_natCast] at *
  go_enter Try.func20, Try.ntmps20
  go_wp2_with (first
    | (go_at_call 18; refine (Hright.out _).mono ?_; rw [Hr.out]; rintro e w1 ⟨rfl, hb1⟩
       obtain ⟨hc1, hb01, hl1⟩ := Hcx.out _ hb1
       have c0 := hc1 0 _ rfl; have c1 := hc1 1 _ rfl; have c2 := hc1 2 _ rfl; have c3 := hc1 3 _ rfl; have c4 := hc1 4 _ rfl; have c5 := hc1 5 _ rfl
       clear hc1 hb1)
    | (go_at_call 32; refine (Hrest.out _).mono ?_; rintro e w2 ⟨rfl, hwin, hb2⟩
       have d2 := (hb2.cell (p := ⟨w.heap.size, 2, none⟩) hl1).trans c2
       have d3 := (hb2.cell (p := ⟨w.heap.size, 3, none⟩) hl1).trans c3
       have hb02 := hb01.trans (hb2.mono hb01.size)
       have hl2 := hb2.size
       clear c0 c1 c2 c3 c4 c5))
  obtain ⟨H, hH⟩ : ∃ H, H = w1.heap.size := ⟨_, rfl⟩
  rw [← hH] at hwin hl1 ⊢
  have HH := Lib.hid hH
  clear hb2 hl2 hH
  have hH1 : w.heap.size < H := hl1
  go_loopg [24] n (fun gk i wr => ∃ (j : Nat) (v : Value), j ≤ n ∧ gk = n - j ∧ i = .int .i64 j ∧ admN ⟨mo, pr, ms, co, (W : Int), to⟩ cl j = true ∧ Win wr H ⟨mo, pr, ms, co, (W : Int), to⟩ v j (sI cl) (sumN (sI cl) j - sumN (sI cl) (j - W)) ∧ wr.cell? ⟨w.heap.size, 2, none⟩ = some (.int .i64 ms) ∧ wr.cell? ⟨w.heap.size, 3, none⟩ = some (.int .i64 co) ∧ Below w.heap.size w wr)
  case atStart => exact ⟨0, _, Nat.zero_le _, rfl, rfl, rfl, hwin.congr (fun j hj => absurd hj (by omega)) (by simp [sumN]), d2, d3, hb02⟩
  case round =>
    obtain ⟨j, v, hj, rfl, rfl, hadm, hw, e2, e3, hb⟩ := hrel
    have Hadm := Lib.hid hadm
    by_cases hlt : j < n
    · obtain ⟨b, off, A', n', cap', l, rfl, hbB, hcl, k0, hl'⟩ := (hl.below ii_lasts hb (Nat.le_refl _) (Nat.le_refl _)).atII hlt
      have hcaps' := hl'.caps
      have hok : okP ⟨mo, pr, ms, co, (W : Int), to⟩ (clAt cl j) = (decide ((n' : Int) ≤ co) && l.all (inB 1 ms)) := by rw [clAt_eq hcl, okP, hl'.len]
      have Hok := Lib.hid hok
      have Hbad := Lib.hid (fun h => admN_bad (p := ⟨mo, pr, ms, co, (W : Int), to⟩) (cl := cl) (i := j) h n hlt)
      have Hes := Lib.hid (show sI cl j = lsum l by unfold sI; rw [clAt_eq hcl])
      have Hlen' := Lib.hid hl'.len
      have hji : (j : Int) < (n : Int) := by omega
      have hj0 : (0 : Int) ≤ (j : Int) := by omega
      have hsz := hb.size
      have hl2 := hl'.below (flat_lasts _) (Below.refl w.heap.size wr) (Nat.le_refl _) hsz
      have Hcl := Lib.hid hcl
      clear hok hcl hadm
      by_cases hco : co < (n' : Int)
      · go_wp2
        go_ret
        exact ⟨congrArg (fun z => Ending.returned (Value.bool z)) (Hbad.out (by rw [Hok.out]; simp; omega)).symm, hb⟩
      have hdco : decide (co < (n' : Int)) = false := by simpa using hco
      cases hall : l.all (inB 1 ms)
      · have Hall := Lib.hid hall; clear hall
        go_wp2_with (go_at_call 25; refine (Hin.out ms A' n' cap' l _ hl2).mono ?_; rw [Hall.out]; rintro e w3 ⟨rfl, hb3⟩)
        go_ret
        exact ⟨congrArg (fun z => Ending.returned (Value.bool z)) (Hbad.out (by rw [Hok.out, Hall.out]; simp)).symm, hb.trans (hb3.mono hsz)⟩
      · have Hall := Lib.hid hall; clear hall
        have hokt : okP ⟨mo, pr, ms, co, (W : Int), to⟩ (clAt cl j) = true := by rw [Hok.out, Hall.out]; simp; omega
        have hS := okP_sum hokt Hr.out
        rw [clAt_eq Hcl.out, Hlen'.out] at hS
        have HS := Lib.hid hS
        have Hokt := Lib.hid hokt
        obtain ⟨hs1, hs2⟩ := hS n' (Nat.le_refl _)
        obtain ⟨S, hSS⟩ : ∃ S, S = lsum l := ⟨_, rfl⟩
        have hsum1 : 0 ≤ S ∧ S ≤ 1000000000000000000 := by rw [hSS]; unfold lsum; rw [Hlen'.out]; exact ⟨hs1, hs2⟩
        obtain ⟨hsum11, hsum12⟩ := hsum1
        have HSS := Lib.hid hSS
        obtain ⟨wb1, wb2, wb3⟩ := win_bd Hadm.out Hr.out
        simp only [Int.toNat_natCast] at wb1 wb2
        have hXe := winN_eq (p := ⟨mo, pr, ms, co, (W : Int), to⟩) (cl := cl) (i := j) p61
        simp only [Int.toNat_natCast] at hXe
        have hmn := sumN_mono (f := sI cl) (n := j) (fun i hi => (wb3 i hi).1) (wb W j) (by unfold wb; omega)
        have hmn2 := sumN_mono (f := sI cl) (n := wb W j) (fun i hi => (wb3 i (by unfold wb at hi; omega)).1) (j - W) (by unfold wb; omega)
        obtain ⟨X, hX⟩ : ∃ X, X = sumN (sI cl) j - sumN (sI cl) (wb W j) := ⟨_, rfl⟩
        have hXb : 0 ≤ X ∧ X ≤ 1000000000000000 := by omega
        obtain ⟨hX1, hX2⟩ := hXb
        have HX := Lib.hid hX
        have Hwin := Lib.hid (show winS ⟨mo, pr, ms, co, (W : Int), to⟩ cl j = X + S by unfold winS; simp only [Int.toNat_natCast]; rw [sumN, Hes.out, ← HSS.out, HX.out]; omega)
        have hl1' := fun w3 hw3 => Hleft.out H j v w3 Hadm.out (by omega) hw3
        rw [← hX] at hl1'
        have Hl1 := Lib.hid hl1'
        clear hS hokt hs1 hs2 hSS wb1 wb2 wb3 hXe hmn hmn2 hX hl1'
        by_cases hle : X + S ≤ to
        · have hdl : decide (to - X < S) = false := by simp; omega
          have hadm' : admN ⟨mo, pr, ms, co, (W : Int), to⟩ cl (j + 1) = true := by
            rw [admN, Hadm.out, Hokt.out, Hwin.out]; simpa using hle
          have hcl' := fun v w4 hw4 => Hclaim.out H j v w4 hadm' (by omega) hw4
          rw [Hes.out, ← HSS.out, ← HX.out] at hcl'
          have Hcl' := Lib.hid hcl'; have Hadm' := Lib.hid hadm'
          clear hcl' hadm'
          go_wp2_with fail
          refine (Hin.out ms A' n' cap' l _ hl2).mono ?_
          rw [Hall.out]
          rintro e w3 ⟨rfl, hb3⟩
          have hl3 := hl2.up (flat_lasts _) hb3
          have hw3 := hw.below hb3
          have hb03 := hb.trans (hb3.mono hsz)
          go_wp2_with fail
          refine (Hsum.out A' n' cap' l _ hl3 HS.out).mono ?_
          rw [← HSS.out]
          rintro e _ ⟨rfl, rfl⟩
          go_wp2_with fail
          refine (Hl1.out w3 hw3).mono ?_
          rintro e w4 ⟨rfl, hw4, hk4⟩
          have hb4 : Below w.heap.size w3 w4 := hk4.below hb03.size (fun i hi => by omega)
          have hl4 := hl3.keptS hk4 (Nat.le_refl _) hk4.size (fun hp bb off he => by
            obtain ⟨b2, off2, he2, hlt2, -⟩ := hl'.2.2.2 hp
            rw [he] at he2
            injection he2 with he2
            injection he2 with he2
            omega)
          have hb04 := hb03.trans hb4
          go_wp2_with fail
          refine (Hsum.out A' n' cap' l _ hl4 HS.out).mono ?_
          rw [← HSS.out]
          rintro e _ ⟨rfl, rfl⟩
          go_wp2_with fail
          refine (Hcl'.out v w4 hw4).mono ?_
          rintro e w5 ⟨rfl, ⟨v5, hw5⟩, hk5⟩
          have hb5 : Below w.heap.size w4 w5 := hk5.below hb04.size (fun i hi => by omega)
          have hb05 := hb04.trans hb5
          have f2 := (hb3.cell (p := ⟨w.heap.size, 2, none⟩) (by show w.heap.size < _; have := hw.lt; omega)).trans e2
          have f3 := (hb3.cell (p := ⟨w.heap.size, 3, none⟩) (by show w.heap.size < _; have := hw.lt; omega)).trans e3
          have g2 := (hk4.cell (p := ⟨w.heap.size, 2, none⟩) (by show w.heap.size < _; have := hw3.lt; omega) (by show ¬ w.heap.size = _; omega)).trans f2
          have g3 := (hk4.cell (p := ⟨w.heap.size, 3, none⟩) (by show w.heap.size < _; have := hw3.lt; omega) (by show ¬ w.heap.size = _; omega)).trans f3
          have h2 := (hk5.cell (p := ⟨w.heap.size, 2, none⟩) (by show w.heap.size < _; have := hw4.lt; omega) (by show ¬ H + 1 ≤ w.heap.size; omega)).trans g2
          have h3 := (hk5.cell (p := ⟨w.heap.size, 3, none⟩) (by show w.heap.size < _; have := hw4.lt; omega) (by show ¬ H + 1 ≤ w.heap.size; omega)).trans g3
          clear hw hw3 hw4 e2 e3 f2 f3 g2 g3 hl3 hl4 hl2 hl' hk4 hk5
          go_wp2
          go_roundg (n - (j + 1))
          case rel => exact ⟨j + 1, v5, by omega, rfl, by go_num, Hadm'.out, hw5, h2, h3, hb05⟩
          case measure => omega
        · have hdl : decide (to - X < S) = true := by simp; omega
          go_wp2_with fail
          refine (Hin.out ms A' n' cap' l _ hl2).mono ?_
          rw [Hall.out]
          rintro e w3 ⟨rfl, hb3⟩
          have hl3 := hl2.up (flat_lasts _) hb3
          have hw3 := hw.below hb3
          have hb03 := hb.trans (hb3.mono hsz)
          go_wp2_with fail
          refine (Hsum.out A' n' cap' l _ hl3 HS.out).mono ?_
          rw [← HSS.out]
          rintro e _ ⟨rfl, rfl⟩
          go_wp2_with fail
          refine (Hl1.out w3 hw3).mono ?_
          rintro e w4 ⟨rfl, hw4, hk4⟩
          have hb4 : Below w.heap.size w3 w4 := hk4.below hb03.size (fun i hi => by omega)
          go_wp2_with fail
          go_ret
          exact ⟨congrArg (fun z => Ending.returned (Value.bool z)) (Hbad.out (by rw [Hwin.out]; simp; omega)).symm, hb03.trans hb4⟩
    · have e : j = n := by omega
      subst e
      go_wp2
      go_ret
      exact ⟨by rw [Hadm.out]; rfl, hb⟩
end Go.Proofs.Ythhmdljfklbbeaa
