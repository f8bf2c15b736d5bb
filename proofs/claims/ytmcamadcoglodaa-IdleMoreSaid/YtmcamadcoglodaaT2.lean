/- Walk over the statement IdleMore. Conditions stand in the theorem. -/
import Derived.Test.YtmcamadcoglodaaS6
import Derived.Test.YtmcamadcoglodaaTb
import Derived.Test.YtmcamadcoglodaaOps
namespace Go.Proofs.Ytmcamadcoglodaa
open Go.RowKit
set_option linter.unusedVariables false

theorem ofF_snoc {α : Type} {f : Nat → α} {n : Nat} {x : α} (h : f n = x) : ofF n f ++ [x] = ofF (n + 1) f := by rw [ofF_succ, h]
theorem wide_row {cl : List (List Int)} {n i : Nat} {x : Nat → Int} : ofF n (tb cl i) ++ [x i] = ofF (n + 1) (wideF cl n x i) := by
  rw [ofF_more]
  refine ofF_congr fun k hk => ?_
  unfold wideF
  rfl
theorem tabL_more {m n : Nat} {D : Nat → Nat → Int} : tabL m n D ++ [ofF n (D m)] = tabL (m + 1) n D := by
  unfold tabL
  rw [ofF_succ]
def FitJ (b : Bool) (a j n' : Nat) (P : Nat → Prop) : Prop := b = true ↔ (a < j → ∀ q, q < n' → P q)
def FitK (b b' : Bool) (k : Nat) (P : Nat → Prop) : Prop := b' = true ↔ (b = true ∧ ∀ q, q < k → P q)
theorem fits_step {b b' : Bool} {a j k n' : Nat} {P : Nat → Prop} (hb : FitJ b a j n' P) (hb' : FitK b b' k P) (h : (j = a ∧ k = n') ∨ (j ≠ a ∧ k = 0)) : FitJ b' a (j + 1) n' P := by
  rcases h with ⟨rfl, rfl⟩ | ⟨h1, rfl⟩
  · refine ⟨fun h _ => (hb'.1 h).2, fun h => hb'.2 ⟨hb.2 fun h => absurd h (by omega), h (by omega)⟩⟩
  · refine ⟨fun h ha => hb.1 (hb'.1 h).1 (by omega), fun h => hb'.2 ⟨hb.2 fun h2 => h (by omega), fun q hq => absurd hq (by omega)⟩⟩
theorem fits_and {b b' b2 : Bool} {k : Nat} {P : Nat → Prop} (hb' : FitK b b' k P) (h2 : b2 = true ↔ (b' = true ∧ P k)) : FitK b b2 (k + 1) P := by
  refine ⟨fun h => ?_, fun h => h2.2 ⟨hb'.2 ⟨h.1, fun q hq => h.2 q (by omega)⟩, h.2 k (by omega)⟩⟩
  obtain ⟨h3, h4⟩ := h2.1 h
  obtain ⟨h5, h6⟩ := hb'.1 h3
  refine ⟨h5, fun q hq => ?_⟩
  by_cases e : q = k
  · subst e; exact h4
  · exact h6 q (by omega)
set_option maxRecDepth 100000 in
set_option maxHeartbeats 4000000 in
theorem idleMore_walk (A : Option Addr) (n cap : Nat) (cl : List (List Int)) (at_ : Int) (ad : Int) (A1 : Option Addr) (n1 cap1 : Nat) (col : List Int) (w : World) (hl : RdII w w.heap.size A n cap cl) (hat : 0 ≤ at_ ∧ at_ ≤ 255) (had : 0 ≤ ad ∧ ad ≤ 65535)
    (hcol : Rd 1 (flat u16Enc) w w.heap.size A1 n1 cap1 col) (hcb : ∀ y ∈ col, 0 ≤ y ∧ y ≤ 65535) :
    Calls Try.prog 6 #[.slice A n cap, .int .u8 at_, .int .u16 ad, .slice A1 n1 cap1] w fun e w' => e = .returned (.bool true) ∧ Below w.heap.size w w' := by
  have hln := hl.len
  have Hfew := Lib.hid (fun w hl => few_any A n cap cl w hl)
  have Hright := Lib.hid (fun w hl => right_any A n cap cl w hl)
  cases hfe : fewC cl
  · rw [hfe] at Hfew
    clear hfe
    go_enter Try.func6, Try.ntmps6
    go_wp2_with fail
    refine (small_any _).mono ?_
    rintro e w1 ⟨rfl, hb1⟩
    go_wp2_with fail
    refine (Hfew.out _ (hl.up ii_lasts hb1)).mono ?_
    rintro e _ ⟨rfl, rfl⟩
    go_wp2
    go_ret
    exact ⟨rfl, hb1⟩
  rw [hfe] at Hfew
  cases hr : rightC cl
  · rw [hr] at Hright
    clear hfe hr
    go_enter Try.func6, Try.ntmps6
    go_wp2_with fail
    refine (small_any _).mono ?_
    rintro e w1 ⟨rfl, hb1⟩
    go_wp2_with fail
    refine (Hfew.out _ (hl.up ii_lasts hb1)).mono ?_
    rintro e _ ⟨rfl, rfl⟩
    go_wp2_with fail
    refine (Hright.out _ (hl.up ii_lasts hb1)).mono ?_
    rintro e w2 ⟨rfl, hb2⟩
    go_wp2
    go_ret
    exact ⟨rfl, hb1.trans (hb2.mono hb1.size)⟩
  rw [hr] at Hright
  obtain ⟨⟨m1, m20⟩, ⟨v1, v40⟩, hrow⟩ := rightC_iff.1 hr
  rw [hln] at m1 v1
  have hn4 : n ≤ 4 := by have := (fewC_iff.1 hfe).1; omega
  clear hfe m20
  obtain ⟨b0, off0, A0, n0, cap0, x0, rfl, hbB, hx0, c0, r0⟩ := hl.atII (k := 0) (by omega)
  have hwid : wid cl = n0 := by rw [wid, clAt_eq hx0]; exact r0.len
  rw [Nat.add_zero] at c0
  have hn0 : (0 : Int) < (n : Int) := by omega
  have hn00 : 0 < n := by omega
  by_cases hw5 : n0 ≤ 5
  case neg =>
    have hd : decide ((5 : Int) < (n0 : Int)) = true := by simp; omega
    clear hr hrow v1 v40 hx0 r0 hwid hw5 m1
    go_enter Try.func6, Try.ntmps6
    go_wp2_with fail
    refine (small_any _).mono ?_
    rintro e w1 ⟨rfl, hb1⟩
    go_wp2_with fail
    refine (Hfew.out _ (hl.up ii_lasts hb1)).mono ?_
    rintro e _ ⟨rfl, rfl⟩
    go_wp2_with fail
    refine (Hright.out _ (hl.up ii_lasts hb1)).mono ?_
    rintro e w2 ⟨rfl, hb2⟩
    have hb := hb1.trans (hb2.mono hb1.size)
    have d0 := (hb.cell (p := ⟨b0, off0, none⟩) hbB).trans c0
    go_wp2
    go_ret
    exact ⟨rfl, hb⟩
  have hd5 : decide ((5 : Int) < (n0 : Int)) = false := by simp; omega
  have hn0p : 1 ≤ n0 := by omega
  -- the plain law
  obtain ⟨a, ha⟩ : ∃ a : Nat, at_.tmod (n : Int) = (a : Int) := ⟨(at_.tmod (n : Int)).toNat, by rw [Int.tmod_eq_emod_of_nonneg hat.1]; have := Int.emod_nonneg at_ (b := (n : Int)) (by omega); omega⟩
  have han : a < n := by
    rw [Int.tmod_eq_emod_of_nonneg hat.1] at ha
    have := Int.emod_lt_of_pos at_ (b := (n : Int)) (by omega)
    omega
  obtain ⟨X, hX⟩ : ∃ X : Nat → Int, ∀ i, X i = if i < n1 then gi col i else 0 := ⟨_, fun _ => rfl⟩
  have hlc := hcol.len
  have hXb : ∀ i, 0 ≤ X i ∧ X i ≤ 65535 := fun i => by
    rw [hX]
    split
    · rename_i h
      have h2 := List.getElem?_eq_getElem (show i < col.length by omega)
      rw [gi_eq h2]
      exact hcb _ (List.getElem_mem _)
    · omega
  have Hsv := Lib.hid (fun w hl => (solve_any (some ⟨b0, off0, none⟩) n cap cl w hl).mono fun e w' h => (show SolveYes w n n0 cl e w' from by
    rcases h with ⟨h, -⟩ | ⟨-, h⟩
    · rw [hr] at h; cases h
    · rw [hln, hwid] at h; exact h))
  have Hbest := Lib.hid (fun T (hF : First n n0 (tb cl) T) => (show costV cl (ofF n (fun r => ((T r : Nat) : Int))) = costF n (tb cl) T ∧ costE cl (ofF n (fun r => ((T r : Nat) : Int))) = 0 from by
    rw [← hln, ← hwid] at hF
    obtain ⟨q1, q2⟩ := as_ok hr hF.1
    rw [hln] at q1 q2
    exact ⟨q2, costE_ok q1⟩))
  have Hcost := Lib.hid (fun B l c ta w hl ht => pcost_any (some ⟨b0, off0, none⟩) B n cap l c cl ta w hl ht)
  have Hreg := Lib.hid (fun T (hF : First n n0 (tb cl) T) B l c w hl hl2 ht => (regret_any (some ⟨b0, off0, none⟩) (some ⟨b0, off0, none⟩) B n cap n cap l c cl cl (ofF n (fun r => ((T r : Nat) : Int))) w hl hl2 ht).mono fun e w' h => (show e = .returned (.tuple #[.int .i64 0, .int .i64 0]) ∧ Below w.heap.size w w' from by
    obtain ⟨r, er, rfl, hb, h⟩ := h
    have hF2 := hF
    rw [← hln, ← hwid] at hF2
    have hass : assC cl (ofF n (fun r => ((T r : Nat) : Int))) = true := by
      have := as_ass (cl := cl) rfl rfl hF2.1
      rw [hln] at this
      exact this
    rcases h with ⟨h, -⟩ | ⟨-, rfl, hy⟩
    · rw [regC, bnd_same hr, hass] at h; cases h
    · rw [hln, hwid] at hy
      have := reg_zero hF hy
      subst this
      exact ⟨rfl, hb⟩))
  -- the table with a column more
  have hwr : rightC (tabL n (n0 + 1) (wideF cl n0 X)) = true := by
    have := wide_right hr (by omega) hXb
    rw [hln, hwid] at this
    exact this
  have Hws := Lib.hid (fun B c w hl => (solve_any B n c (tabL n (n0 + 1) (wideF cl n0 X)) w hl).mono fun e w' h => (show SolveYes w n (n0 + 1) (tabL n (n0 + 1) (wideF cl n0 X)) e w' from by
    rcases h with ⟨h, -⟩ | ⟨-, h⟩
    · rw [hwr] at h; cases h
    · rw [tabL_len, tabL_wid (by omega)] at h; exact h))
  have Hwb := Lib.hid (fun T (hF : First n (n0 + 1) (tb (tabL n (n0 + 1) (wideF cl n0 X))) T) => (show costV (tabL n (n0 + 1) (wideF cl n0 X)) (ofF n (fun r => ((T r : Nat) : Int))) = costF n (tb (tabL n (n0 + 1) (wideF cl n0 X))) T ∧ costE (tabL n (n0 + 1) (wideF cl n0 X)) (ofF n (fun r => ((T r : Nat) : Int))) = 0 from by
    have hF1 := hF.1
    have q := as_ok hwr (T := T) (by rw [tabL_len, tabL_wid (by omega)]; exact hF1)
    rw [tabL_len] at q
    exact ⟨q.2, costE_ok q.1⟩))
  have Hwl := Lib.hid (fun T T' (h : First n n0 (tb cl) T) (h' : First n (n0 + 1) (tb (tabL n (n0 + 1) (wideF cl n0 X))) T') => wide_less h h')
  have Hwc := Lib.hid (fun B c B2 l c2 ta w hl ht => pcost_any B B2 n c l c2 (tabL n (n0 + 1) (wideF cl n0 X)) ta w hl ht)
  -- the table with a number more
  have Htr := Lib.hid (show rightC (tabL n n0 (tallF cl a ad)) = true ↔ ∀ k, k < n0 → tb cl a k + ad ≤ 1000000000 from by
    have := tall_right hr (a := a) (by omega) had.1
    rw [hln, hwid] at this
    exact this)
  have Hts := Lib.hid (fun B c w hl => solve_any B n c (tabL n n0 (tallF cl a ad)) w hl)
  have Hty := Lib.hid (fun (hT : rightC (tabL n n0 (tallF cl a ad)) = true) e w w' (h : SolvePost w (tabL n n0 (tallF cl a ad)) e w') => (show SolveYes w n n0 (tabL n n0 (tallF cl a ad)) e w' from by
    rcases h with ⟨h, -⟩ | ⟨-, h⟩
    · rw [hT] at h; cases h
    · rw [tabL_len, tabL_wid (by omega)] at h; exact h))
  have Htb := Lib.hid (fun (hT : rightC (tabL n n0 (tallF cl a ad)) = true) T (hF : First n n0 (tb (tabL n n0 (tallF cl a ad))) T) => (show costV (tabL n n0 (tallF cl a ad)) (ofF n (fun r => ((T r : Nat) : Int))) = costF n (tb (tabL n n0 (tallF cl a ad))) T ∧ costE (tabL n n0 (tallF cl a ad)) (ofF n (fun r => ((T r : Nat) : Int))) = 0 from by
    have hF1 := hF.1
    have q := as_ok hT (T := T) (by rw [tabL_len, tabL_wid (by omega)]; exact hF1)
    rw [tabL_len] at q
    exact ⟨q.2, costE_ok q.1⟩))
  have Htl := Lib.hid (fun T T' (h : First n n0 (tb cl) T) (h' : First n n0 (tb (tabL n n0 (tallF cl a ad))) T') => tall_same han h h')
  have Htc := Lib.hid (fun B c B2 l c2 ta w hl ht => pcost_any B B2 n c l c2 (tabL n n0 (tallF cl a ad)) ta w hl ht)
  have Hbd := Lib.hid (fun T (hF : First n n0 (tb cl) T) => (show 0 ≤ costF n (tb cl) T ∧ costF n (tb cl) T ≤ (n : Int) * 1000000000 from cost_bd (n := n0) (fun r k h1 h2 => right_at hr (i := r) (k := k) (by omega) (by omega)) hF.1 n (Nat.le_refl _)))
  have Hrow := Lib.hid (fun i (hi : i < n) => (show (clAt cl i).length = n0 by rw [(rowC_iff.1 (hrow i (by omega))).1, hwid]))
  have Hcell := Lib.hid (fun i k (hi : i < n) (hk : k < n0) => (show 0 ≤ tb cl i k ∧ tb cl i k ≤ 1000000000 from right_at hr (by omega) (by omega)))
  have HX := Lib.hid hX; have HXb := Lib.hid hXb; have HA := Lib.hid (show at_ % (n : Int) = (a : Int) by rw [← ha, Int.tmod_eq_emod_of_nonneg hat.1])
  clear hX hXb hlc hwr hr hrow hx0 r0 hwid hln ha
  go_enter Try.func6, Try.ntmps6
  go_wp2_with fail
  refine (small_any _).mono ?_
  rintro e w1 ⟨rfl, hb1⟩
  go_wp2_with fail
  refine (Hfew.out _ (hl.up ii_lasts hb1)).mono ?_
  rintro e _ ⟨rfl, rfl⟩
  go_wp2_with fail
  refine (Hright.out _ (hl.up ii_lasts hb1)).mono ?_
  rintro e w2 ⟨rfl, hb2⟩
  have hb02 := hb1.trans (hb2.mono hb1.size)
  have d0 := (hb02.cell (p := ⟨b0, off0, none⟩) hbB).trans c0
  clear hb1 hb2 Hfew Hright
  go_wp2_with fail
  refine (Hsv.out _ (hl.up ii_lasts hb02)).mono ?_
  rintro e w3 ⟨T, R', K', g1, g2, g3, rfl, rT, -, -, hF, -, -, -, hb3⟩
  have hb03 := hb02.trans (hb3.mono hb02.size)
  obtain ⟨q1, q2⟩ := Hbest.out T hF
  have Hbd' := Lib.hid (Hbd.out T hF)
  have Hwl' := Lib.hid (fun T' h' => Hwl.out T T' hF h')
  have Htl' := Lib.hid (fun T' h' => Htl.out T T' hF h')
  have Hreg' := Lib.hid (Hreg.out T hF)
  clear d0 hb3 Hbest Hbd Hwl Htl Hsv Hreg hF hb02
  go_wp2_with fail
  have hbM := (Below.refl w3.heap.size w3).alloc (Nat.le_refl _) (.cells #[.slice (some ⟨g1, 0, none⟩) n n, .slice (some ⟨g2, 1, none⟩) n n, .slice (some ⟨g3, 1, none⟩) n0 n0] 25)
  have pb := Hb.new w3 #[.slice (some ⟨g1, 0, none⟩) n n, .slice (some ⟨g2, 1, none⟩) n n, .slice (some ⟨g3, 1, none⟩) n0 n0] 25
  have rT := rT.up (flat_lasts _) hbM
  have hb04 := hb03.trans (hbM.mono hb03.size)
  obtain ⟨gb, hgb⟩ : ∃ g, g = w3.heap.size := ⟨_, rfl⟩
  rw [← hgb] at pb ⊢
  clear hbM hb03 hgb
  generalize w3.alloc (.cells #[.slice (some ⟨g1, 0, none⟩) n n, .slice (some ⟨g2, 1, none⟩) n n, .slice (some ⟨g3, 1, none⟩) n0 n0] 25) = w4 at *
  have e0 := pb.cell (j := 0) (u := .slice (some ⟨g1, 0, none⟩) n n) rfl
  refine (Hcost.out _ _ _ _ _ (hl.up ii_lasts hb04) rT).mono ?_
  rintro e w5 ⟨rfl, hb5⟩
  rw [q1, q2]
  have pb5 := pb.below hb5
  have rT := rT.up (flat_lasts _) hb5
  have hb05 := hb04.trans (hb5.mono hb04.size)
  have e1 := pb5.cell (j := 0) (u := .slice (some ⟨g1, 0, none⟩) n n) rfl
  clear hb5 hb04 pb e0 q1 q2
  generalize costF n (tb cl) T = L at *
  go_wp2_with fail
  refine (Hreg'.out _ _ _ _ (hl.up ii_lasts hb05) (hl.up ii_lasts hb05) rT).mono ?_
  rintro e w6 ⟨rfl, hb6⟩
  have pb6 := pb5.below hb6
  have rT := rT.up (flat_lasts _) hb6
  have hb06 := hb05.trans (hb6.mono hb05.size)
  clear hb6 hb05 pb5 e1 Hreg'
  have hB6 := hb06.size
  -- the loop
  go_wp2
  go_loopg [16, 17, 18, 19] n (fun gk vw vt ft i wr => ∃ (j : Nat) (b : Bool) (Sw St : Nat → Prop), j ≤ n ∧ gk = n - j ∧ i = .int .i64 j ∧ ft = .bool b ∧ TbO wr w6.heap.size Sw vw (tabL j (n0 + 1) (wideF cl n0 X)) ∧ TbO wr w6.heap.size St vt (tabL j n0 (tallF cl a ad)) ∧ (∀ g, Sw g → ¬ St g) ∧ FitJ b a j n0 (fun k => tb cl a k + ad ≤ 1000000000) ∧ Below w6.heap.size w6 wr)
  case atStart => exact ⟨0, true, _, _, Nat.zero_le _, rfl, rfl, rfl, TbO.nil _ _, TbO.nil _ _, (fun g h => h.elim), ⟨fun _ h => absurd h (by omega), fun _ => rfl⟩, Below.refl _ _⟩
  case round =>
    obtain ⟨j, b, Sw, St, hj, rfl, rfl, rfl, htw, htt, hdis, hb, hbel⟩ := hrel
    have HB := Lib.hid hb
    have hbw := hb06.trans (hbel.mono hb06.size)
    clear hb
    by_cases hlt : j < n
    · obtain ⟨b', off', A', n', cap', x, hAe, hbB', hx, c1, r1⟩ := hl.atII hlt
      injection hAe with hAe; injection hAe with e1 e2 e3
      subst e1 e2
      have hn' : n' = n0 := by
        have h1 := Hrow.out j hlt
        rw [clAt_eq hx, r1.len] at h1
        exact h1
      subst hn'
      have hxe : x = ofF n' (tb cl j) := by
        have h1 := row_ofF (Hrow.out j hlt)
        rw [clAt_eq hx] at h1
        exact h1
      subst hxe
      have rr := r1.up (flat_lasts _) hbw
      have c1' := (hbw.cell (p := ⟨b0, off0 + j, none⟩) hbB').trans c1
      have hr1c := r1.caps
      have hji : (j : Int) < (n : Int) := by omega
      have hj0 : (0 : Int) ≤ (j : Int) := by omega
      have c1a := ((hbw.alloc hbw.size (.cells #[] 3)).cell (p := ⟨b0, off0 + j, none⟩) hbB').trans c1
      clear hx
      have hcase : (j < n1 ∧ ∃ bc oc, A1 = some ⟨bc, oc, none⟩ ∧ wr.cell? ⟨bc, oc + j, none⟩ = some (.int .u16 (X j))) ∨ (¬ j < n1 ∧ X j = 0) := by
        by_cases h : j < n1
        · obtain ⟨bc, oc, y, rfl, hbc, hy, cc⟩ := hcol.atU16 h
          refine Or.inl ⟨h, bc, oc, rfl, ?_⟩
          rw [HX.out, if_pos h, gi_eq hy]
          exact (hbw.cell (p := ⟨bc, oc + j, none⟩) hbc).trans cc
        · exact Or.inr ⟨h, by rw [HX.out, if_neg h]⟩
      obtain ⟨Y, hY⟩ : ∃ Y, X j = Y := ⟨_, rfl⟩
      have hYb := HXb.out j
      rw [hY] at hcase hYb
      have hYw : IntKind.i64.wrap Y = Y := IntWalk.i64_in _ (by omega)
      have HY := Lib.hid hY
      clear hY
      have hlen1 : (tabL j (n' + 1) (wideF cl n' X)).length ≤ 1000000 := by rw [tabL_len]; omega
      have hlen2 : (tabL j n' (tallF cl a ad)).length ≤ 1000000 := by rw [tabL_len]; omega
      have hlen3 : (ofF n' (tb cl j)).length ≤ 1000000 := by rw [ofF_len]; omega
      obtain ⟨i0, hi0, hz0, hz1, hz2⟩ := info_parts int_info
      obtain ⟨is, his, hs0, hs1, hs2⟩ := info_parts slices_info
      rcases hcase with ⟨hjn, bc, oc, rfl, cc⟩ | ⟨hjn, rfl⟩
      all_goals
        go_wp2_with (at_builtin; first
          | (refine wpList_row rfl _ _ 23 rfl i0 _ Try.underlying23 hi0 hz0 hz1 hz2 rfl _ rfl rfl _ n' _ _ rfl rr (by omega) (by omega) ?_
             intro g1' c1'' wa ho1 hba)
          | (refine wpList_app1 iSized rfl _ _ 23 rfl wr.heap.size 3 i0 _ 8 Try.underlying23 hi0 hz0 hz1 hz2 rfl _ (ofF n' (tb cl j)) rfl ho1 _ _ rfl _ rfl rfl hlen3 (by omega) hba.size ?_
             intro v2 wb ho2 hk2 hv2 hbb2
             have hbwb := hbb2 wr.heap.size wr (Nat.le_refl _) hba
             clear hk2 hv2
             rw [← HY.out, wide_row] at ho2
             obtain ⟨g2, c2, rfl, hg21, hg22, -⟩ := ho2.form (by rw [ofF_len]; omega)
             rw [ofF_len] at ho2 ⊢
             have rr2 : RdI wb wb.heap.size (some ⟨g2, 0, none⟩) (n' + 1) c2 (ofF (n' + 1) (wideF cl n' X j)) := by
               obtain ⟨A2, cc2, hv, hr2⟩ := ho2.rd iSized (by rw [ofF_len]; omega)
               rw [ofF_len] at hv hr2
               injection hv with h1 h2 h3
               subst h1 h3
               exact hr2)
          | (refine wpList_push rfl _ _ 22 rfl w6.heap.size is _ Try.underlying22 his hs0 hs1 hs2 rfl u16 (tabL j (n' + 1) (wideF cl n' X)) (by exact rfl) (htw.below hbwb) (some ⟨g2, 0, none⟩) (n' + 1) c2 _ rr2 (fun b off e => by injection e with e; injection e with e1 e2 e3; subst e1; exact ⟨fun h => by have := (htw.1 _ h).2; omega, by have := hbel.size; omega, hg22⟩) _ rfl (by exact rfl) hlen1 (by have := hbel.size; have := hbwb.size; omega) ?_
             intro vw' wc Sw' htw3 hk3 hS3 hbb3
             rw [tabL_more] at htw3
             have hbel3 : Below w6.heap.size w6 wc := hbb3 _ _ (Nat.le_refl _) (hbel.trans (hbwb.mono hbel.size))
             have htt3 : TbO wc w6.heap.size St u17 (tabL j n' (tallF cl a ad)) := (htt.below hbwb).keptS hk3 (fun b hb h => hdis _ (htw.2.1 _ h) hb)
             have hb3w := hb06.trans (hbel3.mono hb06.size)
             have c1w := ((hb3w.alloc hb3w.size (.cells #[] 3)).cell (p := ⟨b0, off0 + j, none⟩) hbB').trans c1
             have rr3 := r1.up (flat_lasts _) hb3w)
          | (refine wpList_row rfl _ _ 23 rfl i0 _ Try.underlying23 hi0 hz0 hz1 hz2 rfl _ rfl rfl _ n' _ _ rfl rr3 (by omega) (by omega) ?_
             intro g4 c4 wd ho4 hbd))
        have hg4 := ho4.lt g4 rfl
        have hB3 := hbel3.size
        have hbel4 := hbel3.trans (hbd.mono hbel3.size)
        have htw4 := htw3.below hbd
        have htt4 := htt3.below hbd
        have htt4own := htt.2.1
        have hcap4 := ho4.capOf (by rw [ofF_len]; omega)
        have hdis4 : ∀ g, Sw' g → ¬ St g ∧ g ≠ g4 := fun g h => by
          have h1 := (htw3.1 g h).2
          refine ⟨fun h2 => ?_, by omega⟩
          have h3 := (htt.1 g h2).2
          have h4 := hbwb.size
          rcases hS3 g h with h5 | ⟨off, h5⟩ | h5
          · exact hdis g h5 h2
          · injection h5 with h5; injection h5 with e1 e2 e3
            omega
          · omega
        have hSt4 : ∀ g, St g → g ≠ g4 := fun g h => by
          have h1 := (htt3.1 g h).2
          omega
        have hB4 := hbel4.size
        clear hS3 hk3 htw3 htt3 hbel3 hbb3 rr3 hbwb rr2 ho2 hba ho1 htw htt hdis hg21 hg22 hbb2 rr hbd hbel hbw c1' c1a c1w hb3w
        have HD4 := Lib.hid hdis4
        have HS4 := Lib.hid hSt4
        clear hdis4 hSt4
        go_loopg [18, 22] n' (fun gk vf k wk => ∃ (k' : Nat) (b' : Bool), k' ≤ n' ∧ gk = n' - k' ∧ k = .int .i64 k' ∧ vf = .bool b' ∧ (j ≠ a → k' = 0) ∧ FitK b b' k' (fun q => tb cl a q + ad ≤ 1000000000) ∧ Own 1 iEnc wk wc.heap.size 3 (.slice (some ⟨g4, 0, none⟩) n' c4) (ofF n' (fun q => if q < k' then tb cl j q + ad else tb cl j q)) ∧ Kept (fun g => g = g4) wd wk)
        case atStart =>
          refine ⟨0, b, Nat.zero_le _, rfl, rfl, rfl, (fun _ => rfl), ⟨fun h => ⟨h, fun q hq => absurd hq (by omega)⟩, fun h => h.1⟩, ?_, Kept.refl _ _⟩
          rw [ofF_congr (g := tb cl j) (fun q hq => if_neg (by omega))]
          exact ho4
        case round =>
          clear ho4
          obtain ⟨k, b', hk, rfl, rfl, rfl, hja, hbb', ho, hkp⟩ := hrel
          have HBB := Lib.hid hbb'
          clear hbb'
          by_cases hcont : k < n' ∧ j = a
          · obtain ⟨hkn, hja2⟩ := hcont
            subst hja2
            have ha := HA.out
            have hki : (k : Int) < (n' : Int) := by omega
            have hk0 : (0 : Int) ≤ (k : Int) := by omega
            have hnz : ((n : Int) == 0) = false := by simp; omega
            have hnz' : ¬ (n : Int) = 0 := by omega
            have hwa : IntKind.i64.wrap at_ = at_ := IntWalk.i64_in _ (by omega)
            have hwj : IntKind.i64.wrap (j : Int) = (j : Int) := IntWalk.i64_in _ (by omega)
            have hwd : IntKind.i64.wrap ad = ad := IntWalk.i64_in _ (by omega)
            obtain ⟨c0, c0f⟩ := ho.cellI hkn
            rw [if_neg (by omega)] at c0
            have hV := Hcell.out j k hlt hkn
            have ho2 := ho.setI hkn (tb cl j k + ad)
            rw [ofF_congr (g := fun q => if q < k + 1 then tb cl j q + ad else tb cl j q) (fun q hq => by
              by_cases e : q = k
              · subst e; rw [if_pos rfl, if_pos (by omega)]
              · rw [if_neg e]
                by_cases e2 : q < k
                · rw [if_pos e2, if_pos (by omega)]
                · rw [if_neg e2, if_neg (by omega)])] at ho2
            have c2 := (ho2.cellI hkn).1
            rw [if_pos (by omega)] at c2
            have hkp2 : Kept (fun g => g = g4) wd (wr.setCell ⟨g4, k, none⟩ (.int .i64 (tb cl j k + ad))) := hkp.setCell _ (Or.inl rfl)
            have hs1 : (wr.setCell ⟨g4, k, none⟩ (.int .i64 (tb cl j k + ad))).heap.size = wr.heap.size := by simp
            obtain ⟨V, hVe⟩ : ∃ V, tb cl j k = V := ⟨_, rfl⟩
            have HVe := Lib.hid hVe
            rw [hVe] at c0 c2 hV ho2 hkp2
            have hwv : IntKind.i64.wrap (V + ad) = V + ad := IntWalk.i64_in _ (by omega)
            clear hVe ho hkp hs1
            cases b'
            · go_wp2
              go_roundg (n' - (k + 1))
              case rel => exact ⟨k + 1, false, by omega, rfl, by go_num, rfl, (fun h => absurd rfl h), fits_and HBB.out ⟨(fun h => Bool.noConfusion h), (fun h => Bool.noConfusion h.1)⟩, ho2, hkp2⟩
              case measure => omega
            · by_cases hle : V + ad ≤ 1000000000
              · have hd : decide (V + ad ≤ 1000000000) = true := by simpa using hle
                go_wp2
                go_roundg (n' - (k + 1))
                case rel => exact ⟨k + 1, true, by omega, rfl, by go_num, rfl, (fun h => absurd rfl h), fits_and HBB.out ⟨(fun _ => ⟨rfl, (by rw [HVe.out]; exact hle)⟩), (fun _ => rfl)⟩, ho2, hkp2⟩
                case measure => omega
              · have hd : decide (V + ad ≤ 1000000000) = false := by simpa using hle
                go_wp2
                go_roundg (n' - (k + 1))
                case rel => exact ⟨k + 1, false, by omega, rfl, by go_num, rfl, (fun h => absurd rfl h), fits_and HBB.out ⟨(fun h => Bool.noConfusion h), (fun h => by have h2 := h.2; rw [HVe.out] at h2; omega)⟩, ho2, hkp2⟩
                case measure => omega
          · have hex : (j = a ∧ k = n') ∨ (j ≠ a ∧ k = 0) := by
              by_cases h : j = a
              · exact Or.inl ⟨h, by omega⟩
              · exact Or.inr ⟨h, hja h⟩
            have hrowe : ofF n' (fun q => if q < k then tb cl j q + ad else tb cl j q) = ofF n' (tallF cl a ad j) := ofF_congr fun q hq => by
              unfold tallF
              rcases hex with ⟨h1, h2⟩ | ⟨h1, h2⟩
              · rw [if_pos (by omega), if_pos h1]
              · rw [if_neg (by omega), if_neg h1, Int.add_zero]
            rw [hrowe] at ho
            have hbelk := hbel4.trans (hkp.below hbel4.size (fun g h => by have := hbel4.size; omega))
            have htwk := htw4.keptS hkp (fun g hg h => (HD4.out g hg).2 h)
            have httk := htt4.keptS hkp (fun g hg h => HS4.out g hg h)
            have hgk : g4 < wr.heap.size := by have := hkp.size; omega
            have hBk := hbelk.size
            have rr4 : RdI wr wr.heap.size (some ⟨g4, 0, none⟩) n' c4 (ofF n' (tallF cl a ad j)) := by
              obtain ⟨A2, cc2, hv, hr2⟩ := ho.rd iSized (by rw [ofF_len]; omega)
              rw [ofF_len] at hv hr2
              injection hv with h1 h2 h3
              subst h1 h3
              exact hr2
            have hcond : decide (k < n') = false ∨ (k < n' ∧ decide (k < n') = true ∧ ((j : Int) == (a : Int)) = false) := by
              rcases hex with ⟨h1, h2⟩ | ⟨h1, h2⟩
              · left; simp; omega
              · right; refine ⟨by omega, by simp; omega, by simp; omega⟩
            have ha := HA.out
            have hki : (k : Int) ≤ (n' : Int) := by omega
            have hk0 : (0 : Int) ≤ (k : Int) := by omega
            have hnz : ((n : Int) == 0) = false := by simp; omega
            have hnz' : ¬ (n : Int) = 0 := by omega
            have hwa : IntKind.i64.wrap at_ = at_ := IntWalk.i64_in _ (by omega)
            have hwaa : IntKind.i64.wrap (a : Int) = (a : Int) := IntWalk.i64_in _ (by omega)
            have Hfs := Lib.hid (fits_step HB.out HBB.out hex)
            have hgw6 : w6.heap.size ≤ g4 := by omega
            clear hex hrowe hkp ho htw4 htt4 hbel4
            rcases hcond with hc | ⟨hc0, hc1, hc2⟩
            all_goals
              go_wp2_with (at_builtin; refine wpList_push rfl _ _ 22 rfl w6.heap.size is _ Try.underlying22 his hs0 hs1 hs2 rfl u17 (tabL j n' (tallF cl a ad)) (by exact rfl) httk (some ⟨g4, 0, none⟩) n' c4 _ rr4 (fun b off e => by injection e with e; injection e with e1 e2 e3; subst e1; exact ⟨fun h => HS4.out _ h rfl, hgw6, hgk⟩) _ rfl (by exact rfl) hlen2 hBk ?_
                           intro vt' wf St' htt5 hk5 hS5 hbb5)
              have htw5 := htwk.keptS hk5 (fun g hg h => (HD4.out g hg).1 (htt4own _ h))
              have hbel5 := hbb5 w6.heap.size w6 (Nat.le_refl _) hbelk
              rw [tabL_more] at htt5
              have hdis5 : ∀ g, Sw' g → ¬ St' g := fun g hg h => by
                have h1 := (htwk.1 g hg).2
                rcases hS5 g h with h2 | ⟨off, h2⟩ | h2
                · exact (HD4.out g hg).1 h2
                · injection h2 with h2; injection h2 with e1 e2 e3
                  exact (HD4.out g hg).2 e1.symm
                · omega
              go_roundg (n - (j + 1))
              case rel => exact ⟨j + 1, b', Sw', St', by omega, rfl, by go_num, rfl, htw5, htt5, hdis5, Hfs.out, hbel5⟩
              case measure => omega
    · have hjn : j = n := by omega
      rw [hjn] at htw htt
      have hfit : b = true ↔ ∀ k, k < n0 → tb cl a k + ad ≤ 1000000000 := by
        have h := HB.out
        rw [hjn] at h
        exact ⟨fun h2 => h.1 h2 han, fun h2 => h.2 (fun _ => h2)⟩
      have hrt : rightC (tabL n n0 (tallF cl a ad)) = b := by
        cases b
        · cases h : rightC (tabL n n0 (tallF cl a ad))
          · rfl
          · exact absurd (hfit.2 (Htr.out.1 h)) (by simp)
        · exact Htr.out.2 (hfit.1 rfl)
      obtain ⟨Aw, cw, hwe, rdw⟩ := htw.rd (by rw [tabL_len]; omega)
      rw [tabL_len] at hwe rdw
      obtain ⟨At, ct, hte, rdt⟩ := htt.rd (by rw [tabL_len]; omega)
      rw [tabL_len] at hte rdt
      subst hwe hte
      have hB := hbel.size
      have pb7 := pb6.below hbel
      have rT7 := rT.up (flat_lasts _) hbel
      have Hrt := Lib.hid hrt
      have hdj : decide (j < n) = false := by simp; omega
      clear htw htt hdis hfit hrt hl hcol c0 HB hbel HA HX Hcell Hrow Htr pb6 rT
      go_wp2_with fail
      refine (Hws.out _ _ _ rdw).mono ?_
      rintro e w7 ⟨T7, R7, K7, h71, h72, h73, rfl, r71, -, -, hF7, -, -, -, hb7⟩
      have hb07 := hbw.trans (hb7.mono hbw.size)
      have pb7 := pb7.below hb7
      have rT7 := rT7.up (flat_lasts _) hb7
      have rdw := rdw.up ii_lasts hb7
      have rdt := rdt.up ii_lasts hb7
      have hCL := Hwl'.out T7 hF7
      obtain ⟨q71, q72⟩ := Hwb.out T7 hF7
      clear hb7 hbw hF7 Hws Hwb Hwl' hB
      go_wp2_with fail
      have hbM := (Below.refl w7.heap.size w7).alloc (Nat.le_refl _) (.cells #[.slice (some ⟨h71, 0, none⟩) n n, .slice (some ⟨h72, 1, none⟩) n n, .slice (some ⟨h73, 1, none⟩) (n0 + 1) (n0 + 1)] 25)
      have pw := Hb.new w7 #[.slice (some ⟨h71, 0, none⟩) n n, .slice (some ⟨h72, 1, none⟩) n n, .slice (some ⟨h73, 1, none⟩) (n0 + 1) (n0 + 1)] 25
      have hb08 := hb07.trans (hbM.mono hb07.size)
      have pb7 := pb7.below hbM
      have rT7 := rT7.up (flat_lasts _) hbM
      have rdw := rdw.up ii_lasts hbM
      have rdt := rdt.up ii_lasts hbM
      have r71 := r71.up (flat_lasts _) hbM
      obtain ⟨gw, hgw⟩ : ∃ g, g = w7.heap.size := ⟨_, rfl⟩
      rw [← hgw] at pw ⊢
      clear hbM hb07 hgw
      generalize w7.alloc (.cells #[.slice (some ⟨h71, 0, none⟩) n n, .slice (some ⟨h72, 1, none⟩) n n, .slice (some ⟨h73, 1, none⟩) (n0 + 1) (n0 + 1)] 25) = w8 at *
      have e0 := pw.cell (j := 0) (u := .slice (some ⟨h71, 0, none⟩) n n) rfl
      refine (Hwc.out _ _ _ _ _ _ _ rdw r71).mono ?_
      rintro e w9 ⟨rfl, hb9⟩
      rw [q71, q72]
      have hb09 := hb08.trans (hb9.mono hb08.size)
      have pb7 := pb7.below hb9
      have rT7 := rT7.up (flat_lasts _) hb9
      have rdt := rdt.up ii_lasts hb9
      generalize costF n (tb (tabL n (n0 + 1) (wideF cl n0 X))) T7 = C7 at *
      have hdC : decide (L < C7) = false := by simp; omega
      clear hb9 hb08 rdw r71 q71 q72 pw e0 hCL Hwc
      go_wp2_with fail
      refine (Hts.out _ _ _ rdt).mono ?_
      intro e w10 hS
      cases b
      · rcases hS with ⟨-, rfl, hb10⟩ | ⟨hS, -⟩
        case inr => rw [Hrt.out] at hS; cases hS
        have hb010 := hb09.trans (hb10.mono hb09.size)
        go_wp2
        go_ret
        exact ⟨rfl, hb010.alloc hb010.size _⟩
      · have hY := Hty.out Hrt.out _ _ _ hS
        clear hS
        obtain ⟨T8, R8, K8, h81, h82, h83, rfl, r81, -, -, hF8, -, -, -, hb10⟩ := hY
        obtain ⟨q81, q82⟩ := Htb.out Hrt.out T8 hF8
        obtain ⟨q83, q84⟩ := Htl'.out T8 hF8
        have hsame : ofF n (fun r => ((T8 r : Nat) : Int)) = ofF n (fun r => ((T r : Nat) : Int)) := ofF_congr fun r hr => by rw [q83 r hr]
        rw [q84] at q81
        rw [hsame] at r81 q81 q82
        have hb010 := hb09.trans (hb10.mono hb09.size)
        have pb7 := pb7.below hb10
        have rT7 := rT7.up (flat_lasts _) hb10
        have rdt := rdt.up ii_lasts hb10
        clear hb10 hb09 hF8 Htb Htl' Hty Hts q83 q84 hsame
        go_wp2_with fail
        have hbM := (Below.refl w10.heap.size w10).alloc (Nat.le_refl _) (.cells #[.slice (some ⟨h81, 0, none⟩) n n, .slice (some ⟨h82, 1, none⟩) n n, .slice (some ⟨h83, 1, none⟩) n0 n0] 25)
        have pw := Hb.new w10 #[.slice (some ⟨h81, 0, none⟩) n n, .slice (some ⟨h82, 1, none⟩) n n, .slice (some ⟨h83, 1, none⟩) n0 n0] 25
        have hb011 := hb010.trans (hbM.mono hb010.size)
        have pb7 := pb7.below hbM
        have rT7 := rT7.up (flat_lasts _) hbM
        have rdt := rdt.up ii_lasts hbM
        have r81 := r81.up (flat_lasts _) hbM
        obtain ⟨gw2, hgw⟩ : ∃ g, g = w10.heap.size := ⟨_, rfl⟩
        rw [← hgw] at pw ⊢
        clear hbM hb010 hgw
        generalize w10.alloc (.cells #[.slice (some ⟨h81, 0, none⟩) n n, .slice (some ⟨h82, 1, none⟩) n n, .slice (some ⟨h83, 1, none⟩) n0 n0] 25) = w11 at *
        have e0 := pw.cell (j := 0) (u := .slice (some ⟨h81, 0, none⟩) n n) rfl
        refine (Htc.out _ _ _ _ _ _ _ rdt r81).mono ?_
        rintro e w12 ⟨rfl, hb12⟩
        rw [q81, q82]
        have hb012 := hb011.trans (hb12.mono hb011.size)
        have rT7 := rT7.up (flat_lasts _) hb12
        have r81 := r81.up (flat_lasts _) hb12
        have e0 := (pw.below hb12).cell (j := 0) (u := .slice (some ⟨h81, 0, none⟩) n n) rfl
        have e1 := (pb7.below hb12).cell (j := 0) (u := .slice (some ⟨g1, 0, none⟩) n n) rfl
        have hLb := Hbd'.out
        have hwad : IntKind.i64.wrap ad = ad := IntWalk.i64_in _ (by omega)
        have hwL : IntKind.i64.wrap (L + ad) = L + ad := IntWalk.i64_in _ (by omega)
        have hq : (L + ad == L + ad) = true := by simp
        clear hb12 hb011 pw pb7 q81 q82 rdt Htc
        go_wp2_with fail
        refine (ints_any _ _ n n n n _ _ _ r81 rT7).mono ?_
        rintro e w13 ⟨rfl, q, rfl⟩
        rw [decide_eq_true (rfl : ofF n (fun r => ((T r : Nat) : Int)) = ofF n (fun r => ((T r : Nat) : Int)))]
        go_wp2
        go_ret
        exact ⟨rfl, below_drewN hb012 q⟩
end Go.Proofs.Ytmcamadcoglodaa
