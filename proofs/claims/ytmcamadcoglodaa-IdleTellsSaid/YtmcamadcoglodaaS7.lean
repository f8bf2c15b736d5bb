/- Walks over Worst of the reference of layer 24, and more of its statements. Conditions stand in each theorem. -/
import Derived.Test.YtmcamadcoglodaaS6
import Derived.Test.YtmcamadcoglodaaTb
import Derived.StillTailTactics
namespace Go.Proofs.Ytmcamadcoglodaa
open Go.RowKit
set_option linter.unusedVariables false

theorem tabL_more {m n : Nat} {D : Nat → Nat → Int} : tabL m n D ++ [ofF n (D m)] = tabL (m + 1) n D := by
  unfold tabL
  rw [ofF_succ]
theorem assC_congr {cl cl' : List (List Int)} {ta : List Int} (h1 : cl.length = cl'.length) (h2 : wid cl = wid cl') : assC cl ta = assC cl' ta := by
  unfold assC okA
  rw [h1, h2]
def WorstPost (w : World) (n : Nat) (lo hi : List (List Int)) (ta : List Int) (e : Ending) (w' : World) : Prop := ∃ B c, e = .returned (.slice B n c) ∧ RdII w' w'.heap.size B n c (tabL n (wid lo) (worF lo hi ta)) ∧ Below w.heap.size w w'
set_option maxRecDepth 100000 in
set_option maxHeartbeats 4000000 in
theorem worst_any (A A2 A3 : Option Addr) (n cap n2 cap2 n3 cap3 : Nat) (lo hi : List (List Int)) (ta : List Int) (w : World) (hl : RdII w w.heap.size A n cap lo) (hh : RdII w w.heap.size A2 n2 cap2 hi) (ht : RdI w w.heap.size A3 n3 cap3 ta) (hb : bndC lo hi = true) (ha : assC lo ta = true) :
    Calls Try.prog 25 #[.slice A n cap, .slice A2 n2 cap2, .slice A3 n3 cap3] w (WorstPost w n lo hi ta) := by
  have hln := hl.len
  have hlh := hh.len
  have hlt3 := ht.len
  obtain ⟨b1, b2, b3, b4, b5⟩ := bnd_parts hb
  obtain ⟨⟨m1, m20⟩, ⟨v1, v40⟩, hrow⟩ := rightC_iff.1 b1
  obtain ⟨-, -, hrow2⟩ := rightC_iff.1 b2
  have hn2 : n2 = n := by omega
  have hn3 : n3 = n := by have := (assC_iff.1 ha).1; omega
  subst hn2 hn3
  obtain ⟨N, hN⟩ : ∃ N, wid lo = N := ⟨_, rfl⟩
  rw [hN] at v1 v40
  have Hrow := Lib.hid (fun i (hi' : i < n3) => (show (clAt lo i).length = N by rw [(rowC_iff.1 (hrow i (by omega))).1, hN]))
  have Hrow2 := Lib.hid (fun i (hi' : i < n3) => (show (clAt hi i).length = N by rw [(rowC_iff.1 (hrow2 i (by omega))).1, ← b4, hN]))
  have Hta := Lib.hid (fun i (hi' : i < n3) => (show 0 ≤ gi ta i ∧ gi ta i < (N : Int) from by rw [← hN]; exact ass_at ha (by omega)))
  have hpost : ∀ e w', (∃ B c, e = .returned (.slice B n3 c) ∧ RdII w' w'.heap.size B n3 c (tabL n3 N (worF lo hi ta)) ∧ Below w.heap.size w w') → WorstPost w n3 lo hi ta e w' := fun e w' h => by unfold WorstPost; rw [hN]; exact h
  have Hpost := Lib.hid hpost
  have hcap1 := hl.caps
  have hcap2 := hh.caps
  have hcap3 := ht.caps
  have hn20 : n3 ≤ 20 := by omega
  have hn1 : 1 ≤ n3 := by omega
  have hN1 : 1 ≤ N := by omega
  clear hb ha b1 b2 b3 b4 b5 hrow hrow2 hpost hN m1 m20 hln hlh hlt3
  generalize WorstPost w n3 lo hi ta = Q at *
  go_enter Try.func25, Try.ntmps25
  go_wp2
  go_loopg [7, 8] n3 (fun gk v i wr => ∃ (j : Nat) (S : Nat → Prop), j ≤ n3 ∧ gk = n3 - j ∧ i = .int .i64 j ∧ TbO wr w.heap.size S v (tabL j N (worF lo hi ta)) ∧ Below w.heap.size w wr)
  case atStart => exact ⟨0, _, Nat.zero_le _, rfl, rfl, TbO.nil _ _, Below.refl _ _⟩
  case round =>
    obtain ⟨j, S, hj, rfl, rfl, htb, hbel⟩ := hrel
    by_cases hlt : j < n3
    · obtain ⟨b, off, A', n', cap', x, rfl, hbB, hx, c1, r1⟩ := hl.atII hlt
      have hn' : n' = N := by
        have h1 := Hrow.out j hlt
        rw [clAt_eq hx, r1.len] at h1
        exact h1
      subst hn'
      have hxe : x = ofF n' (tb lo j) := by
        have h1 := row_ofF (Hrow.out j hlt)
        rw [clAt_eq hx] at h1
        exact h1
      subst hxe
      obtain ⟨b', off', A'', n'', cap'', y, rfl, hbB', hy, d1, s1⟩ := hh.atII hlt
      have hn'' : n'' = n' := by
        have h1 := Hrow2.out j hlt
        rw [clAt_eq hy, s1.len] at h1
        exact h1
      subst hn''
      have hyy : clAt hi j = y := clAt_eq hy
      obtain ⟨b3, off3, t, rfl, hbB3, hxt, t1⟩ := ht.atI hlt
      obtain ⟨ta0, ta1⟩ := Hta.out j hlt
      have hgt : gi ta j = t := gi_eq hxt
      rw [hgt] at ta0 ta1
      obtain ⟨X, rfl⟩ := Int.eq_ofNat_of_zero_le ta0
      have hX : X < n'' := by omega
      obtain ⟨b4, off4, yv, rfl, hbB4, hyv, y1⟩ := s1.atI hX
      have Hw := Lib.hid (show ∀ q, worF lo hi ta j q = if q = X then yv else tb lo j q from fun q => by
        unfold worF
        rw [hgt]
        by_cases e : q = X
        · subst e; rw [if_pos rfl, if_pos rfl, tb, hyy]; exact gi_eq hyv
        · rw [if_neg (by omega), if_neg e])
      have hcapr := r1.caps
      have hcapy := s1.caps
      have rr := r1.up (flat_lasts _) hbel
      have c1a := ((hbel.alloc hbel.size (.cells #[] 3)).cell (p := ⟨b, off + j, none⟩) hbB).trans c1
      have hji : (j : Int) < (n3 : Int) := by omega
      have hj0 : (0 : Int) ≤ (j : Int) := by omega
      have hX1 : (X : Int) < (n'' : Int) := by omega
      have hlenL : (tabL j n'' (worF lo hi ta)).length ≤ 1000000 := by rw [tabL_len]; omega
      obtain ⟨i0, hi0, hz0, hz1, hz2⟩ := info_parts int_info
      obtain ⟨is, his, hs0, hs1, hs2⟩ := info_parts slices_info
      have hB0 := hbel.size
      clear hx hy hxt hyv c1 hyy hgt
      go_wp2_with (at_builtin; refine wpList_row rfl _ _ 23 rfl i0 _ Try.underlying23 hi0 hz0 hz1 hz2 rfl _ rfl rfl _ n'' _ _ rfl rr (by omega) (by omega) ?_
                   intro g4 c4 wd ho4 hbd)
      have hg4 := ho4.lt g4 rfl
      have hbw := hbel.trans (hbd.mono hbel.size)
      have htb4 := htb.below hbd
      have hS4 : ∀ g, S g → g ≠ g4 := fun g h => by
        have h1 := (htb.1 g h).2
        omega
      have HS4 := Lib.hid hS4
      have hcap4 := ho4.capOf (by rw [ofF_len]; omega)
      obtain ⟨z0, z1⟩ := ho4.cellI hX
      have d1' := (hbw.cell (p := ⟨b', off' + j, none⟩) hbB').trans d1
      have t1' := (hbw.cell (p := ⟨b3, off3 + j, none⟩) hbB3).trans t1
      have y1' := (hbw.cell (p := ⟨b4, off4 + X, none⟩) hbB4).trans y1
      have hgw : w.heap.size ≤ g4 := by omega
      have hB4 := hbw.size
      clear hS4 htb rr c1a hbd hbel hB0 d1 t1 y1
      go_wp2_with fail
      go_still_tail 16, (by kernel_rfl)
      change wpList _ _ _ _ _ wd.drew
      refine wpList_st0 (w := wd.drew) rfl rfl _ _ _ rfl ⟨g4, X, none⟩ (.int .i64 yv) rfl rfl rfl int_size z0 z1 ?_
      intro w8 hw8
      have ho8 := (Own.drew ho4).setI (i := X) hX yv
      have hk8 : Kept (fun b => b = g4) wd.drew w8 := by rw [hw8]; exact (grown_kept (grown_set _ g4 X _)).mono (fun b _ e => by injection e with e; exact e.symm)
      rw [← hw8] at ho8
      have hb8 : Below w.heap.size w w8 := by rw [hw8]; exact hbw.drew.setCell hgw _
      rw [ofF_congr (g := worF lo hi ta j) (fun q hq => by rw [Hw.out])] at ho8
      have htb8 : TbO w8 w.heap.size S _ (tabL j n'' (worF lo hi ta)) := (htb4.drewN 1).keptS hk8 (fun g hg h => HS4.out g hg h)
      have hg8 : g4 < w8.heap.size := by have := hk8.size; have h2 : wd.drew.heap.size = wd.heap.size := rfl; omega
      have hB8 := hb8.size
      have rr4 : RdI w8 w8.heap.size (some ⟨g4, 0, none⟩) n'' c4 (ofF n'' (worF lo hi ta j)) := by
        obtain ⟨A2, cc2, hv, hr2⟩ := ho8.rd iSized (by rw [ofF_len]; omega)
        rw [ofF_len] at hv hr2
        injection hv with h1 h2 h3
        subst h1 h3
        exact hr2
      clear hw8 hk8 htb4 ho4 ho8 hbw z0 z1 d1' t1' y1' hB4
      go_wp2_with (at_builtin; refine wpList_push rfl _ _ 22 rfl w.heap.size is _ Try.underlying22 his hs0 hs1 hs2 rfl u7 (tabL j n'' (worF lo hi ta)) (by exact rfl) htb8 (some ⟨g4, 0, none⟩) n'' c4 _ rr4 (fun b off e => by injection e with e; injection e with e1 e2 e3; subst e1; exact ⟨fun h => HS4.out _ h rfl, hgw, hg8⟩) _ rfl (by exact rfl) hlenL hB8 ?_
                   intro v' w9 S' htb9 hk9 hS9 hbb9)
      rw [tabL_more] at htb9
      have hb9 := hbb9 w.heap.size w (Nat.le_refl _) hb8
      go_roundg (n3 - (j + 1))
      case rel => exact ⟨j + 1, S', by omega, rfl, by go_num, htb9, hb9⟩
      case measure => omega
    · have ee : j = n3 := by omega
      subst ee
      obtain ⟨B, c, he, hr⟩ := htb.rd (by rw [tabL_len]; omega)
      rw [tabL_len] at he hr
      subst he
      go_wp2
      exact Hpost.out _ _ ⟨B, c, rfl, hr, hbel⟩
def MorePost (w : World) (L : List (List Int)) (ta : List Int) (e : Ending) (w' : World) : Prop := ∃ T, First L.length (wid L) (tb L) T ∧ e = .returned (.tuple #[.int .i64 (costV L ta - costF L.length (tb L) T), .bool true]) ∧ Below w.heap.size w w'
set_option maxRecDepth 100000 in
set_option maxHeartbeats 2000000 in
theorem more_any (A A2 : Option Addr) (n cap n2 cap2 : Nat) (L : List (List Int)) (ta : List Int) (w : World) (hl : RdII w w.heap.size A n cap L) (ht : RdI w w.heap.size A2 n2 cap2 ta) (hr : rightC L = true) (ha : assC L ta = true) :
    Calls Try.prog 24 #[.slice A n cap, .slice A2 n2 cap2] w (MorePost w L ta) := by
  have hok : okC L ta = true := okC_iff.2 ⟨hr, ha⟩
  have hln := hl.len
  have Hsv := Lib.hid (fun w hl => (solve_any A n cap L w hl).mono fun e w' h => (show SolveYes w L.length (wid L) L e w' from by
    rcases h with ⟨h, -⟩ | ⟨-, h⟩
    · rw [hr] at h; cases h
    · exact h))
  have Hc := Lib.hid (fun w hl ht => pcost_any A A2 n cap n2 cap2 L ta w hl ht)
  rw [costE_ok hok] at Hc
  have Hc2 := Lib.hid (fun T (hT : As L.length (wid L) T) B l c w hl ht => (pcost_any A B n cap l c L (ofF L.length (fun r => ((T r : Nat) : Int))) w hl ht).mono fun e w' h => (show e = .returned (.tuple #[.int .i64 (costF L.length (tb L) T), .int .i64 0]) ∧ Below w.heap.size w w' from by
    obtain ⟨q1, q2⟩ := as_ok hr hT
    rw [q2, costE_ok q1] at h
    exact h))
  have hm20 := (rightC_iff.1 hr).1.2
  have Hbd := Lib.hid (fun T (hT : As L.length (wid L) T) => (show 0 ≤ costF L.length (tb L) T ∧ costF L.length (tb L) T ≤ (L.length : Int) * 1000000000 from cost_bd (n := wid L) (fun r k h1 h2 => right_at hr (i := r) (k := k) h1 h2) hT L.length (Nat.le_refl _)))
  have Hv := Lib.hid (show 0 ≤ costV L ta ∧ costV L ta ≤ (L.length : Int) * 1000000000 from by rw [costV_ok hok]; exact Hbd.out _ (ass_as ha))
  have Hpost := Lib.hid (fun T (hF : First L.length (wid L) (tb L) T) w' (hb : Below w.heap.size w w') => (show MorePost w L ta (.returned (.tuple #[.int .i64 (costV L ta - costF L.length (tb L) T), .bool true])) w' from ⟨T, hF, rfl, hb⟩))
  clear hln
  generalize costV L ta = V at *
  generalize MorePost w L ta = Q at *
  generalize L.length = m at *
  generalize wid L = N at *
  clear hok hr ha
  go_enter Try.func24, Try.ntmps24
  go_wp2_with fail
  refine (Hsv.out _ hl).mono ?_
  rintro e w1 ⟨T, R', K', g1, g2, g3, rfl, rT, -, -, hF, -, -, -, hb1⟩
  have Hp := Lib.hid (Hpost.out T hF)
  have hbd := Hbd.out T hF.1
  have Hc3 := Lib.hid (Hc2.out T hF.1)
  have hv := Hv.out
  generalize costF m (tb L) T = C at *
  clear hF Hpost Hbd Hc2 Hsv
  go_wp2_with fail
  have hbM := (Below.refl w1.heap.size w1).alloc (Nat.le_refl _) (.cells #[.slice (some ⟨g1, 0, none⟩) m m, .slice (some ⟨g2, 1, none⟩) m m, .slice (some ⟨g3, 1, none⟩) N N] 25)
  have pw := Hb.new w1 #[.slice (some ⟨g1, 0, none⟩) m m, .slice (some ⟨g2, 1, none⟩) m m, .slice (some ⟨g3, 1, none⟩) N N] 25
  have hb2 := hb1.trans (hbM.mono hb1.size)
  have rT := rT.up (flat_lasts _) hbM
  obtain ⟨gw, hgw⟩ : ∃ g, g = w1.heap.size := ⟨_, rfl⟩
  rw [← hgw] at pw ⊢
  clear hbM hb1 hgw
  generalize w1.alloc (.cells #[.slice (some ⟨g1, 0, none⟩) m m, .slice (some ⟨g2, 1, none⟩) m m, .slice (some ⟨g3, 1, none⟩) N N] 25) = w2 at *
  refine (Hc.out _ (hl.up ii_lasts hb2) (ht.up (flat_lasts _) hb2)).mono ?_
  rintro e w3 ⟨rfl, hb3⟩
  have hb03 := hb2.trans (hb3.mono hb2.size)
  have rT := rT.up (flat_lasts _) hb3
  have e0 := (pw.below hb3).cell (j := 0) (u := .slice (some ⟨g1, 0, none⟩) m m) rfl
  clear hb3 hb2 pw
  go_wp2_with fail
  refine (Hc3.out _ _ _ _ (hl.up ii_lasts hb03) rT).mono ?_
  rintro e w4 ⟨rfl, hb4⟩
  have hb04 := hb03.trans (hb4.mono hb03.size)
  have hw : IntKind.i64.wrap (V - C) = V - C := IntWalk.i64_in _ (by omega)
  clear hb4 hb03 hv hbd
  go_wp2
  exact Hp.out _ hb04
end Go.Proofs.Ytmcamadcoglodaa
