/- Walk over Admits of the reference of layer 36. Conditions stand in the theorem. -/
import Derived.Test.YthhmdljfklbbeaaP19
import Derived.Test.YthhmdljfklbbeaaPu
import Derived.Lib.MinMax
namespace Go.Proofs.Ythhmdljfklbbeaa
open Go.RowKit
set_option linter.unusedVariables false

set_option maxRecDepth 100000 in
set_option maxHeartbeats 1000000 in
theorem radmits_any (p : Pl) (A : Option Addr) (n cap : Nat) (cl : List (List Int)) (w : World) (hl : RdII w w.heap.size A n cap cl) :
  Calls Try.prog 21 #[plV p, .slice A n cap] w fun e w' => e = .returned (.bool (admF p cl)) ∧ Below w.heap.size w w' := by
  obtain ⟨i0, hi0, hz0, hz1, hz2⟩ := info_parts int_info
  have hcaps := hl.caps
  have hlen := hl.len
  have Hright := Lib.hid (fun w => rright_any p w)
  have hbx : Below w.heap.size w (w.alloc (.cells (plC p) 23)) := (Below.refl w.heap.size w).alloc (Nat.le_refl _) _
  have hcx : ∀ w1, Below (w.alloc (.cells (plC p) 23)).heap.size (w.alloc (.cells (plC p) 23)) w1 → (∀ (j : Nat) u, (plC p)[j]? = some u → w1.cell? ⟨w.heap.size, j, none⟩ = some u) ∧ Below w.heap.size w w1 ∧ w.heap.size < w1.heap.size := fun w1 hb => ⟨fun j u hu => (hb.cell (p := ⟨w.heap.size, j, none⟩) (by simp)).trans (new_cell rfl hu), hbx.trans (hb.mono (by simp)), by have := hb.size; simp at this; omega⟩
  have Hcx := Lib.hid hcx
  clear hcx hbx
  cases hr : rightF p
  · have hF : admF p cl = false := by simp [admF, hr]
    have HF := Lib.hid hF
    have Hr := Lib.hid hr
    clear hF hr
    obtain ⟨mo, pr, ms, co, wi, to⟩ := p
    simp only [plV, plC] at *
    go_enter Try.func21, Try.ntmps21
    go_wp2_with (go_at_call 19; refine (Hright.out _).mono ?_; rw [Hr.out]; rintro e w1 ⟨rfl, hb1⟩)
    go_ret
    exact ⟨by rw [HF.out]; rfl, (Hcx.out _ hb1).2.1⟩
  by_cases h1000 : 1000 < n
  · have hF : admF p cl = false := by simp [admF, hlen]; omega
    have HF := Lib.hid hF
    have Hr := Lib.hid hr
    have hd : decide ((1000 : Int) < (n : Int)) = true := by simp; omega
    clear hF hr
    obtain ⟨mo, pr, ms, co, wi, to⟩ := p
    simp only [plV, plC] at *
    go_enter Try.func21, Try.ntmps21
    go_wp2_with (go_at_call 19; refine (Hright.out _).mono ?_; rw [Hr.out]; rintro e w1 ⟨rfl, hb1⟩)
    go_ret
    exact ⟨by rw [HF.out]; rfl, (Hcx.out _ hb1).2.1⟩
  have hd : decide ((1000 : Int) < (n : Int)) = false := by simp; omega
  have hF : admF p cl = admN p cl n := by simp [admF, hlen, hr]; omega
  rw [hF]
  clear hF
  have Hr := Lib.hid hr
  have hb6 := rightF_iff hr
  have Hrs := Lib.hid (fun A' n' cap' l w h => rsum_any p A' n' cap' l w hr h)
  have Hneg := Lib.hid (fun i (h : sumR p (clAt cl i) < 0) (hi : i < n) => admN_bad (sumR_neg hr h) n hi)
  have Hpos := Lib.hid (fun i (h : 0 ≤ sumR p (clAt cl i)) => sumR_pos hr h)
  have Hover := Lib.hid (fun i (h : p.to < winS p cl i) (hi : i < n) => admN_bad (p := p) (cl := cl) (i := i) (by rw [decide_eq_false (by omega), Bool.and_false]) n hi)
  have Hge := Lib.hid (fun i (h : admN p cl i = true) => win_ge hr h)
  have Hnext := Lib.hid (fun i (h : admN p cl i = true) (h1 : okP p (clAt cl i) = true) (h2 : winS p cl i ≤ p.to) => (show admN p cl (i + 1) = true by rw [admN, h, h1, decide_eq_true h2]; rfl))
  have Hwin := Lib.hid (fun i => (show winS p cl i = sumN (sI cl) (i + 1) - sumN (sI cl) (wb p.wi.toNat i) from rfl))
  have Hlen := Lib.hid hlen
  clear hlen hr
  obtain ⟨mo, pr, ms, co, wi, to⟩ := p
  simp only [plV, plC] at *
  obtain ⟨⟨p11, p12⟩, ⟨p21, p22⟩, ⟨p31, p32⟩, ⟨p41, p42⟩, ⟨p51, p52⟩, ⟨p61, p62⟩⟩ := hb6
  obtain ⟨W, rfl⟩ := Int.eq_ofNat_of_zero_le (show 0 ≤ wi by omega)
  simp only [Int.toNat_natCast] at *
  go_enter Try.func21, Try.ntmps21
  go_wp2_with (go_at_call 19; refine (Hright.out _).mono ?_; rw [Hr.out]; rintro e w1 ⟨rfl, hb1⟩)
  obtain ⟨hc1, hb01, hl1⟩ := Hcx.out _ hb1
  have Hce : RowKit.Hid (∀ wr, Below w1.heap.size w1 wr → ∀ (j : Nat) u, (#[.int .i64 mo, .int .i64 pr, .int .i64 ms, .int .i64 co, .int .i64 (W : Int), .int .i64 to] : Array Value)[j]? = some u → wr.cell? ⟨w.heap.size, j, none⟩ = some u) := Lib.hid (fun wr hb j u hu => (hb.cell (p := ⟨w.heap.size, j, none⟩) hl1).trans (hc1 j u hu))
  clear hc1 hb1
  have rl1 := hl.up ii_lasts hb01
  go_loopg [5, 6] n (fun gk v i wr => ∃ (j : Nat), j ≤ n ∧ gk = n - j ∧ i = .int .i64 j ∧ admN ⟨mo, pr, ms, co, (W : Int), to⟩ cl j = true ∧ Own 1 iEnc wr w1.heap.size 3 v (ofF j (sI cl)) ∧ Below w1.heap.size w1 wr)
  case atStart => exact ⟨0, Nat.zero_le _, rfl, rfl, rfl, Own.nil, Below.refl _ _⟩
  case round =>
    obtain ⟨j, hj, rfl, rfl, hadm, ho, hb⟩ := hrel
    have Hadm := Lib.hid hadm
    have hb0 := hb01.trans (hb.mono hb01.size)
    by_cases hlt : j < n
    · obtain ⟨b, off, A', n', cap', l, rfl, hbB, hx, k0, hl'⟩ := (rl1.up ii_lasts hb).atII hlt
      have hji : (j : Int) < (n : Int) := by omega
      have hj0 : (0 : Int) ≤ (j : Int) := by omega
      have hle := clAt_eq hx
      have hc := Hce.out wr hb
      have c0 := hc 0 _ rfl; have c1 := hc 1 _ rfl; have c2 := hc 2 _ rfl; have c3 := hc 3 _ rfl; have c4 := hc 4 _ rfl; have c5 := hc 5 _ rfl
      have hlr : w.heap.size < wr.heap.size := Nat.lt_of_lt_of_le hl1 hb.size
      have hrs := Hrs.out A' n' cap' l wr.drew (Rd.keep (flat_lasts _) hl' (Nat.le_refl _) (fun _ _ => rfl))
      have hneg := Hneg.out j
      have hpos := Hpos.out j
      rw [hle] at hneg hpos
      obtain ⟨SR, hSR⟩ : ∃ x, sumR ⟨mo, pr, ms, co, (W : Int), to⟩ l = x := ⟨_, rfl⟩
      rw [hSR] at hrs hneg hpos
      have Hrs' := Lib.hid hrs; have Hneg' := Lib.hid hneg; have Hpos' := Lib.hid hpos
      have Hle := Lib.hid hle
      clear hc hx hle hrs hSR hneg hpos hadm
      go_wp2
      go_region_held3 (fun w' => (w'.cell? ⟨w.heap.size, 0, none⟩ = some (.int .i64 mo) ∧ w'.cell? ⟨w.heap.size, 1, none⟩ = some (.int .i64 pr) ∧ w'.cell? ⟨w.heap.size, 2, none⟩ = some (.int .i64 ms) ∧ w'.cell? ⟨w.heap.size, 3, none⟩ = some (.int .i64 co) ∧ w'.cell? ⟨w.heap.size, 4, none⟩ = some (.int .i64 (W : Int)) ∧ w'.cell? ⟨w.heap.size, 5, none⟩ = some (.int .i64 to)) ∧ w'.cell? ⟨b, off + j, none⟩ = some (.slice A' n' cap'))
        (first | exact ⟨⟨c0, c1, c2, c3, c4, c5⟩, k0⟩ | exact ⟨⟨(hk.cell hlr).trans c0, (hk.cell hlr).trans c1, (hk.cell hlr).trans c2, (hk.cell hlr).trans c3, (hk.cell hlr).trans c4, (hk.cell hlr).trans c5⟩, (hk.cell hbB).trans k0⟩ | go_keep)
        (first
          | (go_at_call 23
             refine (Hrs'.out).mono ?_
             rintro e w' ⟨rfl, hbq⟩
             have hb' := hb.drew.trans (hbq.mono hb.size)
             have hk := (Below.refl wr.heap.size wr).drew.trans hbq
             clear hbq))
      have ho' := ho.below hk
      have hb0' := hb01.trans (hb'.mono hb01.size)
      clear c0 c1 c2 c3 c4 c5 k0 hl' hk ho
      have c5 := Hce.out w' hb' 5 _ rfl
      have c4 := Hce.out w' hb' 4 _ rfl
      by_cases hneg : SR < 0
      · have hbad := Hneg'.out hneg hlt
        have Hbad := Lib.hid hbad
        clear hbad
        go_wp2
        go_ret
        exact ⟨congrArg (fun z => Ending.returned (Value.bool z)) Hbad.out.symm, hb0'⟩
      obtain ⟨hok, hS⟩ := Hpos'.out (by omega)
      obtain ⟨hg1, hg2⟩ := Hge.out j Hadm.out
      by_cases hto : to < SR
      · have hbad := Hover.out j (by show to < _; omega) hlt
        have Hbad := Lib.hid hbad
        clear hbad hS
        go_wp2
        go_ret
        exact ⟨congrArg (fun z => Ending.returned (Value.bool z)) Hbad.out.symm, hb0'⟩
      have Hok := Lib.hid hok
      have Hg2 := Lib.hid hg2
      have hSR := hS.symm
      have hmore : ofF j (sI cl) ++ [SR] = ofF (j + 1) (sI cl) := by rw [ofF_succ, hSR]
      have Hmore := Lib.hid hmore
      have hsz' := hb'.size
      have HSR := Lib.hid hSR
      clear hS hSR hg1 hg2 hok hmore Hneg' Hpos'
      have hd1 : decide (SR < 0) = false := by simpa using hneg
      have hd2 : decide (to < SR) = false := by simpa using hto
      have hwW : IntKind.i64.wrap ((j : Int) - (W : Int)) = (j : Int) - (W : Int) := IntWalk.i64_in _ (by omega)
      have hwW1 : IntKind.i64.wrap ((j : Int) - (W : Int) + 1) = (j : Int) - (W : Int) + 1 := IntWalk.i64_in _ (by omega)
      go_wp2_with (at_builtin
                   refine wpList_app _ iSized rfl _ _ 32 rfl w1.heap.size 3 i0 _ 8 Try.underlying32 hi0 hz0 hz1 hz2 rfl _ (ofF j (sI cl)) rfl (ho'.alloc _) _ _ 1 1 [SR] rfl (Rd.new1 iSized w' SR #[.int .i64 SR] rfl 3) (by rw [ofF_len]; simp only [maxLen]; omega) (by rw [ofF_len]; omega) (by simp; omega) ?_
                   intro v4 w4 ho4 hg4 hx4
                   have hb4 : Below w1.heap.size w1 w4 := Own.grow (ho'.alloc _) (Nat.le_refl _) (hb'.alloc hsz' _) (by simp; omega) hg4
                   have e4 := Hce.out w4 hb4 4 _ rfl
                   have e5 := Hce.out w4 hb4 5 _ rfl
                   rw [Hmore.out] at ho4
                   obtain ⟨AL, cL, rfl, rL⟩ := ho4.rd iSized (by rw [ofF_len]; omega)
                   rw [ofF_len] at ho4 rL ⊢)
      obtain ⟨N, hN⟩ : ∃ N, j + 1 = N := ⟨_, rfl⟩
      rw [hN] at ho4 rL ⊢
      have hwbj : wb W j ≤ j := by unfold wb; omega
      have hrl := rL.caps
      go_loopg [8, 9] (j + 1 - wb W j) (fun gk win i wr => ∃ k : Nat, wb W j ≤ k ∧ k ≤ j + 1 ∧ gk = j + 1 - k ∧ i = .int .i64 k ∧ win = .int .i64 (sumN (sI cl) k - sumN (sI cl) (wb W j)) ∧ w4 = wr)
      case atStart => exact ⟨wb W j, Nat.le_refl _, by omega, rfl, by rw [wb_max], by simp, rfl⟩
      case round =>
        obtain ⟨k, hk1, hk2, rfl, rfl, rfl, rfl⟩ := hrel
        by_cases hkj : k ≤ j
        · obtain ⟨b, off, x, rfl, hbB, hx, c0⟩ := rL.atI (show k < N by omega)
          obtain ⟨-, ex⟩ := ofF_get_some hx
          have hdk : decide (k ≤ j) = true := by simpa using hkj
          have hki : (k : Int) < (N : Int) := by omega
          have hk0 : (0 : Int) ≤ (k : Int) := by omega
          have hq1 := Hg2.out k hk1 hkj
          have hq2 : 0 ≤ x ∧ x ≤ 1000000000000000 ∧ sumN (sI cl) (k + 1) = sumN (sI cl) k + x := by
            by_cases e : k = j
            · subst e
              have := HSR.out
              rw [sumN]; omega
            · have hq3 := Hg2.out (k + 1) (by omega) (by omega)
              rw [sumN] at hq3 ⊢
              have hq4 := Hg2.out k hk1 hkj
              have hq5 := (win_bd Hadm.out Hr.out).2.2 k (by omega)
              omega
          obtain ⟨q1, q2, hs⟩ := hq2
          obtain ⟨q3, q4, q5⟩ := hq1
          have Hs := Lib.hid (show sumN (sI cl) (k + 1) - sumN (sI cl) (wb W j) = sumN (sI cl) k - sumN (sI cl) (wb W j) + x by omega)
          clear hx ex hs
          obtain ⟨Y, hY⟩ : ∃ x, sumN (sI cl) k - sumN (sI cl) (wb W j) = x := ⟨_, rfl⟩
          rw [hY] at q3 q4 ⊢
          have HY := Lib.hid hY
          have hwY : IntKind.i64.wrap (Y + x) = Y + x := IntWalk.i64_in _ (by omega)
          clear hY
          go_wp2
          go_roundg (j + 1 - (k + 1))
          case rel => exact ⟨k + 1, by omega, by omega, rfl, by go_num, by rw [Hs.out, HY.out], rfl⟩
          case measure => omega
        · have e : k = j + 1 := by omega
          subst e
          have hdk : decide (j + 1 ≤ j) = false := by simp
          have hdk2 : decide ((j : Int) + 1 ≤ (j : Int)) = false := by simp; omega
          have hwn := Hwin.out j
          obtain ⟨Y, hY⟩ : ∃ x, sumN (sI cl) (j + 1) - sumN (sI cl) (wb W j) = x := ⟨_, rfl⟩
          rw [hY] at hwn ⊢
          have Hwn := Lib.hid hwn
          clear hY hwn
          by_cases hYt : to < Y
          · have hbad := Hover.out j (by rw [Hwn.out]; exact hYt) hlt
            have Hbad := Lib.hid hbad
            clear hbad
            go_wp2
            go_ret
            exact ⟨congrArg (fun z => Ending.returned (Value.bool z)) Hbad.out.symm, hb01.trans (hb4.mono hb01.size)⟩
          · have hdY : decide (to < Y) = false := by simpa using hYt
            have Hn := Lib.hid (Hnext.out j Hadm.out (by rw [Hle.out]; exact Hok.out) (by rw [Hwn.out]; show Y ≤ to; omega))
            go_wp2
            go_roundg (n - (j + 1))
            case rel => exact ⟨j + 1, by omega, rfl, by go_num, Hn.out, by rw [← hN] at ho4; rw [← hN]; exact ho4, hb4⟩
            case measure => omega
    · have e : j = n := by omega
      subst e
      go_wp2
      go_ret
      exact ⟨by rw [Hadm.out]; rfl, hb0⟩
end Go.Proofs.Ythhmdljfklbbeaa
