/- Walk over the statement IdleTells. Conditions stand in the theorem. -/
import Derived.Test.YtmcamadcoglodaaU4
import Derived.Test.YtmcamadcoglodaaS5
namespace Go.Proofs.Ytmcamadcoglodaa
open Go.RowKit
set_option linter.unusedVariables false

theorem reg_same {w1 w1' w2 w2' : World} {lo hi : List (List Int)} {ta : List Int} {r er r2 er2 : Int} (h : (regC lo hi ta = false ∧ r = 0 ∧ er = 1) ∨ (regC lo hi ta = true ∧ er = 0 ∧ RegretYes lo.length (wid lo) lo hi ta r)) (h' : (regC lo hi ta = false ∧ r2 = 0 ∧ er2 = 1) ∨ (regC lo hi ta = true ∧ er2 = 0 ∧ RegretYes lo.length (wid lo) lo hi ta r2)) : r = r2 ∧ er = er2 := by
  rcases h with ⟨h1, rfl, rfl⟩ | ⟨h1, rfl, h2⟩ <;> rcases h' with ⟨g1, rfl, rfl⟩ | ⟨g1, rfl, g2⟩
  · exact ⟨rfl, rfl⟩
  · rw [h1] at g1; cases g1
  · rw [h1] at g1; cases g1
  · exact ⟨regret_same h2 g2, rfl⟩
set_option maxRecDepth 100000 in
set_option maxHeartbeats 4000000 in
theorem idleTells_walk (A : Option Addr) (n cap : Nat) (cl : List (List Int)) (A1 : Option Addr) (n1 cap1 : Nat) (hi : List (List Int)) (A2 : Option Addr) (n2 cap2 : Nat) (ta : List Int) (A3 : Option Addr) (n3 cap3 : Nat) (R : List Int) (A4 : Option Addr) (n4 cap4 : Nat) (K : List Int) (w : World)
    (hl : RdII w w.heap.size A n cap cl) (hh : RdII w w.heap.size A1 n1 cap1 hi) (ht : RdI w w.heap.size A2 n2 cap2 ta) (hR : RdI w w.heap.size A3 n3 cap3 R) (hK : RdI w w.heap.size A4 n4 cap4 K) :
    Calls Try.prog 3 #[.slice A n cap, .slice A1 n1 cap1, .agg #[.slice A2 n2 cap2, .slice A3 n3 cap3, .slice A4 n4 cap4]] w fun e w' => e = .returned (.bool true) ∧ Below w.heap.size w w' := by
  have hln := hl.len
  have Hf1 := Lib.hid (fun w hl => few_any A n cap cl w hl)
  have Hf2 := Lib.hid (fun w hl => few_any A1 n1 cap1 hi w hl)
  have hb0 := (Below.refl w.heap.size w).alloc (Nat.le_refl _) (.cells #[.slice A2 n2 cap2, .slice A3 n3 cap3, .slice A4 n4 cap4] 25)
  have pm := Hb.new w #[.slice A2 n2 cap2, .slice A3 n3 cap3, .slice A4 n4 cap4] 25
  obtain ⟨w0, hw0⟩ : ∃ w0, w0 = w.alloc (.cells #[.slice A2 n2 cap2, .slice A3 n3 cap3, .slice A4 n4 cap4] 25) := ⟨_, rfl⟩
  rw [← hw0] at hb0 pm
  obtain ⟨gm, hgm⟩ : ∃ g, g = w.heap.size := ⟨_, rfl⟩
  rw [← hgm] at pm
  have HW := Lib.hid hw0; have HG := Lib.hid hgm
  clear hw0 hgm
  by_cases hsz : fewC cl = true ∧ fewC hi = true ∧ n2 ≤ 8 ∧ n3 ≤ 8 ∧ n4 ≤ 8
  case neg =>
    obtain ⟨bf, hbf⟩ : ∃ bf, fewC cl = bf := ⟨_, rfl⟩
    obtain ⟨bg, hbg⟩ : ∃ bg, fewC hi = bg := ⟨_, rfl⟩
    rw [hbf] at hsz Hf1
    rw [hbg] at hsz Hf2
    have hd : bf = false ∨ (bf = true ∧ bg = false) ∨ (bf = true ∧ bg = true ∧ decide ((8 : Int) < (n2 : Int)) = true) ∨ (bf = true ∧ bg = true ∧ decide ((8 : Int) < (n2 : Int)) = false ∧ decide ((8 : Int) < (n3 : Int)) = true) ∨ (bf = true ∧ bg = true ∧ decide ((8 : Int) < (n2 : Int)) = false ∧ decide ((8 : Int) < (n3 : Int)) = false ∧ decide ((8 : Int) < (n4 : Int)) = true) := by
      cases bf
      · exact Or.inl rfl
      · cases bg
        · exact Or.inr (Or.inl ⟨rfl, rfl⟩)
        · simp only [decide_eq_true_eq, decide_eq_false_iff_not, true_and, Bool.true_eq_false, false_or]
          simp only [true_and] at hsz
          omega
    clear hbf hbg hsz
    rcases hd with rfl | ⟨rfl, rfl⟩ | ⟨rfl, rfl, h1⟩ | ⟨rfl, rfl, h1, h2⟩ | ⟨rfl, rfl, h1, h2, h3⟩
    · go_enter Try.func3, Try.ntmps3
      go_wp2_with fail
      rw [← HW.out, ← HG.out]
      refine (small_any _).mono ?_
      rintro e w1 ⟨rfl, hb1⟩
      have hb01 := hb0.trans (hb1.mono hb0.size)
      have pm1 := pm.below hb1
      have e0 := pm1.cell (j := 0) (u := .slice A2 n2 cap2) rfl
      have e1 := pm1.cell (j := 1) (u := .slice A3 n3 cap3) rfl
      have e2 := pm1.cell (j := 2) (u := .slice A4 n4 cap4) rfl
      go_wp2_with fail
      refine (Hf1.out _ (hl.up ii_lasts hb01)).mono ?_
      rintro e _ ⟨rfl, rfl⟩
      go_wp2
      go_ret
      exact ⟨rfl, hb01⟩
    all_goals
      go_enter Try.func3, Try.ntmps3
      go_wp2_with fail
      rw [← HW.out, ← HG.out]
      refine (small_any _).mono ?_
      rintro e w1 ⟨rfl, hb1⟩
      have hb01 := hb0.trans (hb1.mono hb0.size)
      have pm1 := pm.below hb1
      have e0 := pm1.cell (j := 0) (u := .slice A2 n2 cap2) rfl
      have e1 := pm1.cell (j := 1) (u := .slice A3 n3 cap3) rfl
      have e2 := pm1.cell (j := 2) (u := .slice A4 n4 cap4) rfl
      go_wp2_with fail
      refine (Hf1.out _ (hl.up ii_lasts hb01)).mono ?_
      rintro e _ ⟨rfl, rfl⟩
      go_wp2_with fail
      refine (Hf2.out _ (hh.up ii_lasts hb01)).mono ?_
      rintro e _ ⟨rfl, rfl⟩
      go_wp2
      go_ret
      exact ⟨rfl, hb01⟩
  obtain ⟨hf1, hf2, s2, s3, s4⟩ := hsz
  rw [hf1] at Hf1
  rw [hf2] at Hf2
  have d2 : decide ((8 : Int) < (n2 : Int)) = false := by simp; omega
  have d3 : decide ((8 : Int) < (n3 : Int)) = false := by simp; omega
  have d4 : decide ((8 : Int) < (n4 : Int)) = false := by simp; omega
  clear hf1 hf2 s2 s3 s4
  obtain ⟨bk, hbk⟩ : ∃ bk : Bool, bk = true ↔ ChkP cl ta R K := by
    by_cases h : ChkP cl ta R K
    · exact ⟨true, fun _ => h, fun _ => rfl⟩
    · exact ⟨false, fun h2 => (by cases h2), fun h2 => absurd h2 h⟩
  have hck : ∀ (w w' : World) e, CheckPost w (ChkP cl ta R K) e w' → e = .returned (.bool bk) ∧ Below w.heap.size w w' := fun w w' e ⟨b, he, hb, hbel⟩ => ⟨by
    have : b = bk := by
      cases b <;> cases bk
      · rfl
      · exact absurd (hb.2 (hbk.1 rfl)) (by simp)
      · exact absurd (hbk.2 (hb.1 rfl)) (by simp)
      · rfl
    rw [he, this], hbel⟩
  have Hk1 := Lib.hid (fun w hl ht hR hK => (check_any A A2 A3 A4 n cap n2 cap2 n3 cap3 n4 cap4 cl ta R K w hl ht hR hK).mono fun e w' h => hck _ _ _ h)
  have Hk2 := Lib.hid (fun w hl ht hR hK => (rcheck_any A A2 A3 A4 n cap n2 cap2 n3 cap3 n4 cap4 cl ta R K w hl ht hR hK).mono fun e w' h => hck _ _ _ h)
  have Hc1 := Lib.hid (fun w hl ht => pcost_any A A2 n cap n2 cap2 cl ta w hl ht)
  have Hc2 := Lib.hid (fun w hl ht => rcost_any A A2 n cap n2 cap2 cl ta w hl ht)
  have Hg1 := Lib.hid (fun w hl hh ht => regret_any A A1 A2 n cap n1 cap1 n2 cap2 cl hi ta w hl hh ht)
  have Hg2 := Lib.hid (fun w hl hh ht => rregret_any A A1 A2 n cap n1 cap1 n2 cap2 cl hi ta w hl hh ht)
  generalize costV cl ta = V at *
  generalize costE cl ta = E at *
  have hVV : (V == V) = true := by simp
  have hEE : (E == E) = true := by simp
  have Hsolve := Lib.hid (fun w hl => solve_any A n cap cl w hl)
  have Hright := Lib.hid (fun w hl => right_any A n cap cl w hl)
  have Hrr := Lib.hid (fun w hl => rright_any A n cap cl w hl)
  clear hbk hck
  cases hr : rightC cl
  · rw [hr] at Hright Hrr
    have Hr := Lib.hid hr
    clear hr hln
    go_enter Try.func3, Try.ntmps3
    go_wp2_with fail
    rw [← HW.out, ← HG.out]
    refine (small_any _).mono ?_
    rintro e w1 ⟨rfl, hb1⟩
    have hb01 := hb0.trans (hb1.mono hb0.size)
    have pm1 := pm.below hb1
    have e0 := pm1.cell (j := 0) (u := .slice A2 n2 cap2) rfl
    have e1 := pm1.cell (j := 1) (u := .slice A3 n3 cap3) rfl
    have e2 := pm1.cell (j := 2) (u := .slice A4 n4 cap4) rfl
    go_wp2_with fail
    refine (Hf1.out _ (hl.up ii_lasts hb01)).mono ?_
    rintro e _ ⟨rfl, rfl⟩
    go_wp2_with fail
    refine (Hf2.out _ (hh.up ii_lasts hb01)).mono ?_
    rintro e _ ⟨rfl, rfl⟩
    go_wp2_with fail
    refine (Hsolve.out _ (hl.up ii_lasts hb01)).mono ?_
    rintro e w2 hS
    rcases hS with ⟨-, rfl, hb2⟩ | ⟨hc, -⟩
    case inr => rw [Hr.out] at hc; cases hc
    have hb02 := hb01.trans (hb2.mono hb01.size)
    have pm2 := pm1.below hb2
    clear e0 e1 e2 hb1 hb2 pm pm1 hb0 hb01
    go_wp2_with fail
    have hbM := hb02.alloc hb02.size (.cells #[.slice none 0 0, .slice none 0 0, .slice none 0 0] 25)
    have pm3 := pm2.alloc (.cells #[.slice none 0 0, .slice none 0 0, .slice none 0 0] 25)
    have pz := Hb.new w2 #[.slice none 0 0, .slice none 0 0, .slice none 0 0] 25
    obtain ⟨gz, hgz⟩ : ∃ g, g = w2.heap.size := ⟨_, rfl⟩
    rw [← hgz] at pz ⊢
    clear hgz
    generalize w2.alloc (.cells #[.slice none 0 0, .slice none 0 0, .slice none 0 0] 25) = w3 at *
    refine (Hrr.out _ (hl.up ii_lasts hbM)).mono ?_
    rintro e _ ⟨rfl, rfl⟩
    go_wp2_with fail
    refine (Hright.out _ (hl.up ii_lasts hbM)).mono ?_
    rintro e wt ⟨rfl, hb4⟩
    have hbt := hbM.trans (hb4.mono hbM.size)
    have pmt := pm3.below hb4
    have z0 := (pz.below hb4).cell (j := 0) (u := .slice none 0 0) rfl
    have z1 := (pz.below hb4).cell (j := 1) (u := .slice none 0 0) rfl
    have z2 := (pz.below hb4).cell (j := 2) (u := .slice none 0 0) rfl
    clear hb4 hbM pm3 pz hb02 pm2
    have e0 := pmt.cell (j := 0) (u := .slice A2 n2 cap2) rfl
    go_wp2_with fail
    refine (Hc1.out _ (hl.up ii_lasts hbt) (ht.up (flat_lasts _) hbt)).mono ?_
    rintro e wu ⟨rfl, hbu⟩
    have hbu2 := hbt.trans (hbu.mono hbt.size)
    have pmu := pmt.below hbu
    have e0 := pmu.cell (j := 0) (u := .slice A2 n2 cap2) rfl
    clear hbu hbt pmt
    go_wp2_with fail
    refine (Hc2.out _ (hl.up ii_lasts hbu2) (ht.up (flat_lasts _) hbu2)).mono ?_
    rintro e wv ⟨rfl, qv, hqv⟩
    have hbv : Below wu.heap.size wu wv := by rw [hqv]; exact below_drewN (Below.refl _ _) qv
    have hbv2 := hbu2.trans (hbv.mono hbu2.size)
    have pmv := pmu.below hbv
    have e0 := pmv.cell (j := 0) (u := .slice A2 n2 cap2) rfl
    clear hqv hbv hbu2 pmu
    go_wp2_with fail
    refine (Hg1.out _ (hl.up ii_lasts hbv2) (hh.up ii_lasts hbv2) (ht.up (flat_lasts _) hbv2)).mono ?_
    rintro e wx ⟨r, er, rfl, hbx, hgx⟩
    have hbx2 := hbv2.trans (hbx.mono hbv2.size)
    have pmx := pmv.below hbx
    have e0 := pmx.cell (j := 0) (u := .slice A2 n2 cap2) rfl
    have Hgx := Lib.hid hgx
    clear hbx hbv2 pmv hgx
    go_wp2_with fail
    refine (Hg2.out _ (hl.up ii_lasts hbx2) (hh.up ii_lasts hbx2) (ht.up (flat_lasts _) hbx2)).mono ?_
    rintro e wy ⟨r2, er2, rfl, hby, hgy⟩
    obtain ⟨rfl, rfl⟩ := reg_same (w1 := wy) (w1' := wy) (w2 := wy) (w2' := wy) Hgx.out hgy
    have hby2 := hbx2.trans (hby.mono hbx2.size)
    have pmy := pmx.below hby
    have hrr : (r == r) = true := by simp
    have hee : (er == er) = true := by simp
    have hkk : (bk == bk) = true := by simp
    clear hby hbx2 pmx hgy Hgx e0
    obtain ⟨ι, f, hne, hfw, hfb, hfc⟩ := cls_of wy wy.heap.size wy (Below.refl _ _)
    have hfbw : ∀ q, Below w.heap.size w (f q) := fun q => hby2.trans ((hfb q).mono hby2.size)
    have e0 : ∀ q, (f q).cell? ⟨gm, 0, none⟩ = some (.slice A2 n2 cap2) := fun q => (pmy.below (hfb q)).cell rfl
    have e1 : ∀ q, (f q).cell? ⟨gm, 1, none⟩ = some (.slice A3 n3 cap3) := fun q => (pmy.below (hfb q)).cell rfl
    have e2 : ∀ q, (f q).cell? ⟨gm, 2, none⟩ = some (.slice A4 n4 cap4) := fun q => (pmy.below (hfb q)).cell rfl
    have HK1 := Lib.hid (fun q => (Hk1.out (f q) (hl.up ii_lasts (hfbw q)) (ht.up (flat_lasts _) (hfbw q)) (hR.up (flat_lasts _) (hfbw q)) (hK.up (flat_lasts _) (hfbw q))).mono fun e w'' ⟨he, h⟩ => (⟨he, hfc _ ((hfb q).trans (h.mono (hfb q).size))⟩ : e = Ending.returned (.bool bk) ∧ ∃ s, w'' = f s))
    have HK2 := Lib.hid (fun q => (Hk2.out (f q) (hl.up ii_lasts (hfbw q)) (ht.up (flat_lasts _) (hfbw q)) (hR.up (flat_lasts _) (hfbw q)) (hK.up (flat_lasts _) (hfbw q))).mono fun e w'' ⟨he, h⟩ => (⟨he, hfc _ ((hfb q).trans (h.mono (hfb q).size))⟩ : e = Ending.returned (.bool bk) ∧ ∃ s, w'' = f s))
    have Hfw := Lib.hid hfw; have Hfb := Lib.hid hfbw
    clear hfw hfb hfc hfbw pmy hby2 Hk1 Hk2
    go_wp2_with fail
    refine wp_region_cls (C := fun w' => ∃ n, w' = f n) (by kernel_rfl) (by kernel_rfl) Hfw.out ?_
    repeat (first
      | go_big_quiet_skip
      | (go_big_quiet_want; go_big_quiet_op; first | go_big_quiet_on | go_big_quiet_call ((first | (go_at_call 18; exact HK1.out _) | (go_at_call 19; exact HK2.out _)))))
    refine wpQuiet_nil ?_
    rintro _ ⟨nq, rfl⟩
    go_wp2
    go_ret
    exact ⟨rfl, Hfb.out nq⟩
  · rw [hr] at Hright Hrr
    have hwid : wid cl = wid cl := rfl
    have Hsv := Lib.hid (fun w hl => (solve_any A n cap cl w hl).mono fun e w' h => (show SolveYes w n (wid cl) cl e w' from by
      rcases h with ⟨h, -⟩ | ⟨-, h⟩
      · rw [hr] at h; cases h
      · rw [hln] at h; exact h))
    have Hbest := Lib.hid (fun w hl => rbest_any A n cap (wid cl) cl hr hln rfl w hl)
    clear hr hln Hsolve hwid
    go_enter Try.func3, Try.ntmps3
    go_wp2_with fail
    rw [← HW.out, ← HG.out]
    refine (small_any _).mono ?_
    rintro e w1 ⟨rfl, hb1⟩
    have hb01 := hb0.trans (hb1.mono hb0.size)
    have pm1 := pm.below hb1
    have e0 := pm1.cell (j := 0) (u := .slice A2 n2 cap2) rfl
    have e1 := pm1.cell (j := 1) (u := .slice A3 n3 cap3) rfl
    have e2 := pm1.cell (j := 2) (u := .slice A4 n4 cap4) rfl
    go_wp2_with fail
    refine (Hf1.out _ (hl.up ii_lasts hb01)).mono ?_
    rintro e _ ⟨rfl, rfl⟩
    go_wp2_with fail
    refine (Hf2.out _ (hh.up ii_lasts hb01)).mono ?_
    rintro e _ ⟨rfl, rfl⟩
    go_wp2_with fail
    refine (Hsv.out _ (hl.up ii_lasts hb01)).mono ?_
    rintro e w2 ⟨T, R', K', g1, g2, g3, rfl, rT, -, -, hF, -, -, -, hb2⟩
    have hb02 := hb01.trans (hb2.mono hb01.size)
    have pm2 := pm1.below hb2
    clear e0 e1 e2 hb1 hb2 pm pm1 hb0 hb01
    go_wp2_with fail
    have hbM := (Below.refl w2.heap.size w2).alloc (Nat.le_refl _) (.cells #[.slice (some ⟨g1, 0, none⟩) n n, .slice (some ⟨g2, 1, none⟩) n n, .slice (some ⟨g3, 1, none⟩) (wid cl) (wid cl)] 25)
    have pb := Hb.new w2 #[.slice (some ⟨g1, 0, none⟩) n n, .slice (some ⟨g2, 1, none⟩) n n, .slice (some ⟨g3, 1, none⟩) (wid cl) (wid cl)] 25
    have pm3 := pm2.below hbM
    have rT := rT.up (flat_lasts _) hbM
    have hb03 := hb02.trans (hbM.mono hb02.size)
    obtain ⟨gb, hgb⟩ : ∃ g, g = w2.heap.size := ⟨_, rfl⟩
    rw [← hgb] at pb ⊢
    clear hbM hb02 pm2 hgb
    generalize w2.alloc (.cells #[.slice (some ⟨g1, 0, none⟩) n n, .slice (some ⟨g2, 1, none⟩) n n, .slice (some ⟨g3, 1, none⟩) (wid cl) (wid cl)] 25) = w3 at *
    refine (Hrr.out _ (hl.up ii_lasts hb03)).mono ?_
    rintro e _ ⟨rfl, rfl⟩
    go_wp2_with fail
    refine (Hright.out _ (hl.up ii_lasts hb03)).mono ?_
    rintro e w4 ⟨rfl, hb4⟩
    have hb04 := hb03.trans (hb4.mono hb03.size)
    have pm4 := pm3.below hb4
    have rT := rT.up (flat_lasts _) hb4
    have pb4 := pb.below hb4
    clear hb4 hb03 pm3 pb
    go_wp2_with fail
    refine (Hbest.out _ (hl.up ii_lasts hb04)).mono ?_
    rintro e w5 ⟨T5, a5, cap5, hF5, rfl, r5, hb5⟩
    have hsame : ofF n (fun r => ((T5 r : Nat) : Int)) = ofF n (fun r => ((T r : Nat) : Int)) := ofF_congr fun r hr => by rw [first_unique hF5 hF r hr]
    rw [hsame] at r5
    have hbt := hb04.trans (hb5.mono hb04.size)
    have pm5 := pm4.below hb5
    have rT := rT.up (flat_lasts _) hb5
    have b0 := (pb4.below hb5).cell (j := 0) (u := .slice (some ⟨g1, 0, none⟩) n n) rfl
    clear hb5 hb04 pm4 pb4 hF hF5 hsame
    go_wp2_with fail
    refine (ints_any _ _ n n n cap5 _ _ _ rT r5).mono ?_
    rintro e wt ⟨rfl, qt, hqt⟩
    rw [decide_eq_true (rfl : ofF n (fun r => ((T r : Nat) : Int)) = ofF n (fun r => ((T r : Nat) : Int)))]
    have hbt : Below w.heap.size w wt := by rw [hqt]; exact below_drewN hbt qt
    have pmt : Hb wt gm #[.slice A2 n2 cap2, .slice A3 n3 cap3, .slice A4 n4 cap4] 25 := by rw [hqt]; exact pm5.below (below_drewN (Below.refl _ _) qt)
    clear hqt pm5 b0 rT r5
    have e0 := pmt.cell (j := 0) (u := .slice A2 n2 cap2) rfl
    go_wp2_with fail
    refine (Hc1.out _ (hl.up ii_lasts hbt) (ht.up (flat_lasts _) hbt)).mono ?_
    rintro e wu ⟨rfl, hbu⟩
    have hbu2 := hbt.trans (hbu.mono hbt.size)
    have pmu := pmt.below hbu
    have e0 := pmu.cell (j := 0) (u := .slice A2 n2 cap2) rfl
    clear hbu hbt pmt
    go_wp2_with fail
    refine (Hc2.out _ (hl.up ii_lasts hbu2) (ht.up (flat_lasts _) hbu2)).mono ?_
    rintro e wv ⟨rfl, qv, hqv⟩
    have hbv : Below wu.heap.size wu wv := by rw [hqv]; exact below_drewN (Below.refl _ _) qv
    have hbv2 := hbu2.trans (hbv.mono hbu2.size)
    have pmv := pmu.below hbv
    have e0 := pmv.cell (j := 0) (u := .slice A2 n2 cap2) rfl
    clear hqv hbv hbu2 pmu
    go_wp2_with fail
    refine (Hg1.out _ (hl.up ii_lasts hbv2) (hh.up ii_lasts hbv2) (ht.up (flat_lasts _) hbv2)).mono ?_
    rintro e wx ⟨r, er, rfl, hbx, hgx⟩
    have hbx2 := hbv2.trans (hbx.mono hbv2.size)
    have pmx := pmv.below hbx
    have e0 := pmx.cell (j := 0) (u := .slice A2 n2 cap2) rfl
    have Hgx := Lib.hid hgx
    clear hbx hbv2 pmv hgx
    go_wp2_with fail
    refine (Hg2.out _ (hl.up ii_lasts hbx2) (hh.up ii_lasts hbx2) (ht.up (flat_lasts _) hbx2)).mono ?_
    rintro e wy ⟨r2, er2, rfl, hby, hgy⟩
    obtain ⟨rfl, rfl⟩ := reg_same (w1 := wy) (w1' := wy) (w2 := wy) (w2' := wy) Hgx.out hgy
    have hby2 := hbx2.trans (hby.mono hbx2.size)
    have pmy := pmx.below hby
    have hrr : (r == r) = true := by simp
    have hee : (er == er) = true := by simp
    have hkk : (bk == bk) = true := by simp
    clear hby hbx2 pmx hgy Hgx e0
    obtain ⟨ι, f, hne, hfw, hfb, hfc⟩ := cls_of wy wy.heap.size wy (Below.refl _ _)
    have hfbw : ∀ q, Below w.heap.size w (f q) := fun q => hby2.trans ((hfb q).mono hby2.size)
    have e0 : ∀ q, (f q).cell? ⟨gm, 0, none⟩ = some (.slice A2 n2 cap2) := fun q => (pmy.below (hfb q)).cell rfl
    have e1 : ∀ q, (f q).cell? ⟨gm, 1, none⟩ = some (.slice A3 n3 cap3) := fun q => (pmy.below (hfb q)).cell rfl
    have e2 : ∀ q, (f q).cell? ⟨gm, 2, none⟩ = some (.slice A4 n4 cap4) := fun q => (pmy.below (hfb q)).cell rfl
    have HK1 := Lib.hid (fun q => (Hk1.out (f q) (hl.up ii_lasts (hfbw q)) (ht.up (flat_lasts _) (hfbw q)) (hR.up (flat_lasts _) (hfbw q)) (hK.up (flat_lasts _) (hfbw q))).mono fun e w'' ⟨he, h⟩ => (⟨he, hfc _ ((hfb q).trans (h.mono (hfb q).size))⟩ : e = Ending.returned (.bool bk) ∧ ∃ s, w'' = f s))
    have HK2 := Lib.hid (fun q => (Hk2.out (f q) (hl.up ii_lasts (hfbw q)) (ht.up (flat_lasts _) (hfbw q)) (hR.up (flat_lasts _) (hfbw q)) (hK.up (flat_lasts _) (hfbw q))).mono fun e w'' ⟨he, h⟩ => (⟨he, hfc _ ((hfb q).trans (h.mono (hfb q).size))⟩ : e = Ending.returned (.bool bk) ∧ ∃ s, w'' = f s))
    have Hfw := Lib.hid hfw; have Hfb := Lib.hid hfbw
    clear hfw hfb hfc hfbw pmy hby2 Hk1 Hk2
    go_wp2_with fail
    refine wp_region_cls (C := fun w' => ∃ n, w' = f n) (by kernel_rfl) (by kernel_rfl) Hfw.out ?_
    repeat (first
      | go_big_quiet_skip
      | (go_big_quiet_want; go_big_quiet_op; first | go_big_quiet_on | go_big_quiet_call ((first | (go_at_call 18; exact HK1.out _) | (go_at_call 19; exact HK2.out _)))))
    refine wpQuiet_nil ?_
    rintro _ ⟨nq, rfl⟩
    go_wp2
    go_ret
    exact ⟨rfl, Hfb.out nq⟩
end Go.Proofs.Ytmcamadcoglodaa
