/- Walk over the statement IdleBest. Conditions stand in the theorem. -/
import Derived.Test.YtmcamadcoglodaaS5
namespace Go.Proofs.Ytmcamadcoglodaa
open Go.RowKit
set_option linter.unusedVariables false

set_option maxRecDepth 100000 in
set_option maxHeartbeats 4000000 in
theorem idleBest_walk (A : Option Addr) (n cap : Nat) (cl : List (List Int)) (A1 : Option Addr) (n1 cap1 : Nat) (tl : List Int) (A2 : Option Addr) (n2 cap2 : Nat) (ta : List Int) (A3 : Option Addr) (n3 cap3 : Nat) (R : List Int) (A4 : Option Addr) (n4 cap4 : Nat) (K : List Int) (w : World)
    (hl : RdII w w.heap.size A n cap cl) (htl : RdI w w.heap.size A1 n1 cap1 tl) (ht : RdI w w.heap.size A2 n2 cap2 ta) (hR : RdI w w.heap.size A3 n3 cap3 R) (hK : RdI w w.heap.size A4 n4 cap4 K) :
    Calls Try.prog 4 #[.slice A n cap, .slice A1 n1 cap1, .agg #[.slice A2 n2 cap2, .slice A3 n3 cap3, .slice A4 n4 cap4]] w fun e w' => e = .returned (.bool true) ∧ Below w.heap.size w w' := by
  have hln := hl.len
  have Hfew := Lib.hid (fun w hl => few_any A n cap cl w hl)
  have hb0 := (Below.refl w.heap.size w).alloc (Nat.le_refl _) (.cells #[.slice A2 n2 cap2, .slice A3 n3 cap3, .slice A4 n4 cap4] 25)
  have pm := Hb.new w #[.slice A2 n2 cap2, .slice A3 n3 cap3, .slice A4 n4 cap4] 25
  obtain ⟨w0, hw0⟩ : ∃ w0, w0 = w.alloc (.cells #[.slice A2 n2 cap2, .slice A3 n3 cap3, .slice A4 n4 cap4] 25) := ⟨_, rfl⟩
  rw [← hw0] at hb0 pm
  obtain ⟨gm, hgm⟩ : ∃ g, g = w.heap.size := ⟨_, rfl⟩
  rw [← hgm] at pm
  have HW := Lib.hid hw0; have HG := Lib.hid hgm
  clear hw0 hgm
  by_cases hsz : fewC cl = true ∧ n1 ≤ 8 ∧ n2 ≤ 8 ∧ n3 ≤ 8 ∧ n4 ≤ 8
  case neg =>
    obtain ⟨bf, hbf⟩ : ∃ bf, fewC cl = bf := ⟨_, rfl⟩
    have hd : bf = false ∨ (bf = true ∧ decide ((8 : Int) < (n1 : Int)) = true) ∨ (bf = true ∧ decide ((8 : Int) < (n1 : Int)) = false ∧ decide ((8 : Int) < (n2 : Int)) = true) ∨ (bf = true ∧ decide ((8 : Int) < (n1 : Int)) = false ∧ decide ((8 : Int) < (n2 : Int)) = false ∧ decide ((8 : Int) < (n3 : Int)) = true) ∨ (bf = true ∧ decide ((8 : Int) < (n1 : Int)) = false ∧ decide ((8 : Int) < (n2 : Int)) = false ∧ decide ((8 : Int) < (n3 : Int)) = false ∧ decide ((8 : Int) < (n4 : Int)) = true) := by
      rw [hbf] at hsz
      cases bf
      · exact Or.inl rfl
      · simp only [decide_eq_true_eq, decide_eq_false_iff_not, true_and, Bool.true_eq_false, false_or]
        simp only [true_and] at hsz
        omega
    rw [hbf] at Hfew
    clear hbf hsz
    rcases hd with rfl | ⟨rfl, h1⟩ | ⟨rfl, h1, h2⟩ | ⟨rfl, h1, h2, h3⟩ | ⟨rfl, h1, h2, h3, h4⟩
    all_goals
      go_enter Try.func4, Try.ntmps4
      go_wp2_with fail
      rw [← HW.out, ← HG.out]
      refine (small_any _).mono ?_
      rintro e w1 ⟨rfl, hb1⟩
      have hb01 := hb0.trans (hb1.mono hb0.size)
      have e0 := (pm.below hb1).cell (j := 0) (u := .slice A2 n2 cap2) rfl
      have e1 := (pm.below hb1).cell (j := 1) (u := .slice A3 n3 cap3) rfl
      have e2 := (pm.below hb1).cell (j := 2) (u := .slice A4 n4 cap4) rfl
      go_wp2_with fail
      refine (Hfew.out _ (hl.up ii_lasts hb01)).mono ?_
      rintro e _ ⟨rfl, rfl⟩
      go_wp2
      go_ret
      exact ⟨rfl, hb01⟩
  obtain ⟨hfe, s1, s2, s3, s4⟩ := hsz
  rw [hfe] at Hfew
  have d1 : decide ((8 : Int) < (n1 : Int)) = false := by simp; omega
  have d2 : decide ((8 : Int) < (n2 : Int)) = false := by simp; omega
  have d3 : decide ((8 : Int) < (n3 : Int)) = false := by simp; omega
  have d4 : decide ((8 : Int) < (n4 : Int)) = false := by simp; omega
  have Hsolve := Lib.hid (fun w hl => solve_any A n cap cl w hl)
  have Hcheck := Lib.hid (fun w hl ht hR hK => check_any A A2 A3 A4 n cap n2 cap2 n3 cap3 n4 cap4 cl ta R K w hl ht hR hK)
  clear hfe s1 s2 s3 s4
  cases hr : rightC cl
  · have Hno := Lib.hid (show ¬ ChkP cl ta R K from fun h => by rw [h.right] at hr; cases hr)
    have Hright := Lib.hid (fun w hl => right_any A n cap cl w hl)
    rw [hr] at Hright
    have Hr := Lib.hid hr
    clear hr
    go_enter Try.func4, Try.ntmps4
    go_wp2_with fail
    rw [← HW.out, ← HG.out]
    refine (small_any _).mono ?_
    rintro e w1 ⟨rfl, hb1⟩
    have hb01 := hb0.trans (hb1.mono hb0.size)
    have pm1 := pm.below hb1
    have e0 := pm1.cell (j := 0) (u := .slice A2 n2 cap2) rfl
    have e1 := pm1.cell (j := 1) (u := .slice A3 n3 cap3) rfl
    have e2 := pm1.cell (j := 2) (u := .slice A4 n4 cap4) rfl
    go_wp2_with fail
    refine (Hfew.out _ (hl.up ii_lasts hb01)).mono ?_
    rintro e _ ⟨rfl, rfl⟩
    go_wp2_with fail
    refine (Hsolve.out _ (hl.up ii_lasts hb01)).mono ?_
    rintro e w2 hS
    rcases hS with ⟨-, rfl, hb2⟩ | ⟨hc, -⟩
    case inr => rw [Hr.out] at hc; cases hc
    have hb02 := hb01.trans (hb2.mono hb01.size)
    have pm2 := pm1.below hb2
    clear e0 e1 e2 hb1 hb2 pm pm1 hb0
    go_wp2_with fail
    have hbM := hb02.alloc hb02.size (.cells #[.slice none 0 0, .slice none 0 0, .slice none 0 0] 25)
    have pm3 := pm2.alloc (.cells #[.slice none 0 0, .slice none 0 0, .slice none 0 0] 25)
    generalize w2.alloc (.cells #[.slice none 0 0, .slice none 0 0, .slice none 0 0] 25) = w3 at *
    refine (Hright.out _ (hl.up ii_lasts hbM)).mono ?_
    rintro e w4 ⟨rfl, hb4⟩
    have hb04 := hbM.trans (hb4.mono hbM.size)
    have pm4 := pm3.below hb4
    have e0 := pm4.cell (j := 0) (u := .slice A2 n2 cap2) rfl
    have e1 := pm4.cell (j := 1) (u := .slice A3 n3 cap3) rfl
    have e2 := pm4.cell (j := 2) (u := .slice A4 n4 cap4) rfl
    clear hb4 pm3 pm2 hbM hb02 hb01
    go_wp2_with fail
    refine (Hcheck.out _ (hl.up ii_lasts hb04) (ht.up (flat_lasts _) hb04) (hR.up (flat_lasts _) hb04) (hK.up (flat_lasts _) hb04)).mono ?_
    rintro e w5 ⟨b, rfl, hb, hb5⟩
    have hbb : b = false := by
      cases b
      · rfl
      · exact absurd (hb.1 rfl) Hno.out
    subst hbb
    clear hb
    go_wp2
    go_ret
    exact ⟨rfl, hb04.trans (hb5.mono hb04.size)⟩
  clear Hsolve
  have Hsv := Lib.hid (fun w hl => (solve_any A n cap cl w hl).mono fun e w' h => (show SolveYes w n (wid cl) cl e w' from by
    rcases h with ⟨h, -⟩ | ⟨-, h⟩
    · rw [hr] at h; cases h
    · rw [hln] at h; exact h))
  have Hchk := Lib.hid (fun T R K (hc : Ce n (wid cl) (tb cl) T R K) h1 h2 => ce_chk hr hln.symm rfl hc h1 h2)
  have Hck := Lib.hid (fun B1 l1 B2 l2 B3 l3 ta R K w hl ht hR hK => check_any A B1 B2 B3 n cap n l1 n l2 (wid cl) l3 cl ta R K w hl ht hR hK)
  have Hcost := Lib.hid (fun B l c ta w hl ht => pcost_any A B n cap l c cl ta w hl ht)
  have Hbest := Lib.hid (fun T (hF : First n (wid cl) (tb cl) T) => (show costV cl (ofF n (fun r => ((T r : Nat) : Int))) = costF n (tb cl) T ∧ costE cl (ofF n (fun r => ((T r : Nat) : Int))) = 0 from by
    subst hln
    obtain ⟨q1, q2⟩ := as_ok hr hF.1
    exact ⟨q2, costE_ok q1⟩))
  have Hsum := Lib.hid (fun T (hF : First n (wid cl) (tb cl) T) w hl ht hR hK (hc : ChkP cl ta R K) => (show Calls Try.prog 20 #[.slice A n cap, .agg #[.slice A2 n2 cap2, .slice A3 n3 cap3, .slice A4 n4 cap4], .int .i64 (costF n (tb cl) T)] w fun e w' => e = .returned (.bool true) ∧ Below w.heap.size w w' from by
    have h := sums_any A A2 A3 A4 n cap n2 cap2 n3 cap3 n4 cap4 cl ta R K w hl ht hR hK hc
    rw [chk_cost (T := T) (by rw [hln]; exact hF) hc, hln] at h
    exact h))
  have Hfirst := Lib.hid (fun T (hF : First n (wid cl) (tb cl) T) (h : okC cl tl = true) => (show costF n (tb cl) T ≤ costV cl tl ∧ (costV cl tl = costF n (tb cl) T → ¬ BefL tl (ofF n (fun r => ((T r : Nat) : Int)))) from by
    subst hln
    exact first_cost hF h))
  have Hbef := Lib.hid (fun B l c b w ha hb => before_any A1 B n1 l cap1 c tl b w ha hb)
  clear hr hln
  go_enter Try.func4, Try.ntmps4
  go_wp2_with fail
  rw [← HW.out, ← HG.out]
  refine (small_any _).mono ?_
  rintro e w1 ⟨rfl, hb1⟩
  have hb01 := hb0.trans (hb1.mono hb0.size)
  have pm1 := pm.below hb1
  have e0 := pm1.cell (j := 0) (u := .slice A2 n2 cap2) rfl
  have e1 := pm1.cell (j := 1) (u := .slice A3 n3 cap3) rfl
  have e2 := pm1.cell (j := 2) (u := .slice A4 n4 cap4) rfl
  go_wp2_with fail
  refine (Hfew.out _ (hl.up ii_lasts hb01)).mono ?_
  rintro e _ ⟨rfl, rfl⟩
  go_wp2_with fail
  refine (Hsv.out _ (hl.up ii_lasts hb01)).mono ?_
  rintro e w2 ⟨T, R', K', g1, g2, g3, rfl, rT, rR', rK', hF, hce, hRb, hKb, hb2⟩
  have hb02 := hb01.trans (hb2.mono hb01.size)
  have pm2 := pm1.below hb2
  have hchk := Hchk.out T R' K' hce hRb hKb
  clear e0 e1 e2 hb1 hb2 pm pm1 hb0 hb01 hce hRb hKb Hchk
  go_wp2_with fail
  have hbM := (Below.refl w2.heap.size w2).alloc (Nat.le_refl _) (.cells #[.slice (some ⟨g1, 0, none⟩) n n, .slice (some ⟨g2, 1, none⟩) n n, .slice (some ⟨g3, 1, none⟩) (wid cl) (wid cl)] 25)
  have pb := Hb.new w2 #[.slice (some ⟨g1, 0, none⟩) n n, .slice (some ⟨g2, 1, none⟩) n n, .slice (some ⟨g3, 1, none⟩) (wid cl) (wid cl)] 25
  have pm3 := pm2.below hbM
  have rT := rT.up (flat_lasts _) hbM
  have rR' := rR'.up (flat_lasts _) hbM
  have rK' := rK'.up (flat_lasts _) hbM
  have hb03 := hb02.trans (hbM.mono hb02.size)
  obtain ⟨gb, hgb⟩ : ∃ g, g = w2.heap.size := ⟨_, rfl⟩
  rw [← hgb] at pb ⊢
  clear hbM hb02 pm2 hgb
  generalize w2.alloc (.cells #[.slice (some ⟨g1, 0, none⟩) n n, .slice (some ⟨g2, 1, none⟩) n n, .slice (some ⟨g3, 1, none⟩) (wid cl) (wid cl)] 25) = w3 at *
  refine (Hck.out _ _ _ _ _ _ _ _ _ _ (hl.up ii_lasts hb03) rT rR' rK').mono ?_
  rintro e w4 ⟨b, rfl, hb, hb4⟩
  have hbb := hb.2 hchk
  subst hbb
  clear hb
  have hb := hb03.trans (hb4.mono hb03.size)
  have pm4 := pm3.below hb4
  have pb4 := pb.below hb4
  have rT := rT.up (flat_lasts _) hb4
  have hnn : ((n : Int) != (n : Int)) = false := by simp
  have e0 := pb4.cell (j := 0) (u := .slice (some ⟨g1, 0, none⟩) n n) rfl
  clear hb4 pm3 pb hb03 hchk rR' rK' Hck
  go_wp2_with fail
  refine (Hcost.out _ _ _ _ _ (hl.up ii_lasts hb) rT).mono ?_
  rintro e w5 ⟨rfl, hb5⟩
  obtain ⟨c1, c2⟩ := Hbest.out T hF
  rw [c1, c2]
  have hb05 := hb.trans (hb5.mono hb.size)
  have pm5 := pm4.below hb5
  have pb5 := pb4.below hb5
  have rT := rT.up (flat_lasts _) hb5
  have e0 := pm5.cell (j := 0) (u := .slice A2 n2 cap2) rfl
  have e1 := pm5.cell (j := 1) (u := .slice A3 n3 cap3) rfl
  have e2 := pm5.cell (j := 2) (u := .slice A4 n4 cap4) rfl
  have Hsm := Lib.hid (Hsum.out T hF)
  have Hf := Lib.hid (Hfirst.out T hF)
  generalize costF n (tb cl) T = L at *
  clear hb5 pm4 pb4 hb c1 c2 Hbest Hsum Hfirst hF
  go_wp2_with fail
  refine (Hcheck.out _ (hl.up ii_lasts hb05) (ht.up (flat_lasts _) hb05) (hR.up (flat_lasts _) hb05) (hK.up (flat_lasts _) hb05)).mono ?_
  rintro e w6 ⟨b, rfl, hb, hb6⟩
  have hb06 := hb05.trans (hb6.mono hb05.size)
  have pm6 := pm5.below hb6
  have pb6 := pb5.below hb6
  have rT := rT.up (flat_lasts _) hb6
  have e0 := pm6.cell (j := 0) (u := .slice A2 n2 cap2) rfl
  have e1 := pm6.cell (j := 1) (u := .slice A3 n3 cap3) rfl
  have e2 := pm6.cell (j := 2) (u := .slice A4 n4 cap4) rfl
  clear hb6 pm5 pb5 hb05
  cases b
  · have pbz := pb6
    clear hb pb6 pm6 e0 e1 e2 Hsm
    go_wp2_with fail
    refine (Hcost.out _ _ _ _ _ (hl.up ii_lasts hb06) (htl.up (flat_lasts _) hb06)).mono ?_
    rintro e w8 ⟨rfl, hb8⟩
    have hb08 := hb06.trans (hb8.mono hb06.size)
    have pb8 := pbz.below hb8
    have rT := rT.up (flat_lasts _) hb8
    have e0 := pb8.cell (j := 0) (u := .slice (some ⟨g1, 0, none⟩) n n) rfl
    clear hb8 pbz hb06
    cases hok : okC cl tl
    · rw [costE_no hok]
      generalize costV cl tl = V at *
      have h10 : ((1 : Int) != 0) = true := by decide
      clear hok
      go_wp2
      go_ret
      exact ⟨rfl, hb08⟩
    · rw [costE_ok hok]
      obtain ⟨f1, f2⟩ := Hf.out hok
      have Hf2 := Lib.hid f2
      clear Hf hok f2
      generalize costV cl tl = V at *
      by_cases hlt : L < V
      · have hd : decide (L < V) = true := by simpa using hlt
        clear f1
        go_wp2
        go_ret
        exact ⟨rfl, hb08⟩
      · have he : V = L := by omega
        have hnb := Lib.hid (Hf2.out he)
        subst he
        have hd : decide (V < V) = false := by simp
        have he2 : (V == V) = true := by simp
        clear f1 hlt Hf2
        go_wp2_with fail
        refine (Hbef.out _ _ _ _ _ (htl.up (flat_lasts _) hb08) rT).mono ?_
        rintro e w9 ⟨v, rfl, hv, q, rfl⟩
        have hvf : v = false := by
          cases v
          · rfl
          · exact absurd (hv rfl) hnb.out
        subst hvf
        clear hv
        go_wp2
        go_ret
        exact ⟨rfl, below_drewN hb08 q⟩
  · have hc := hb.1 rfl
    clear hb
    go_wp2_with fail
    refine (Hsm.out _ (hl.up ii_lasts hb06) (ht.up (flat_lasts _) hb06) (hR.up (flat_lasts _) hb06) (hK.up (flat_lasts _) hb06) hc).mono ?_
    rintro e w7 ⟨rfl, hb7⟩
    have hb07 := hb06.trans (hb7.mono hb06.size)
    have pbz := pb6.below hb7
    have rT := rT.up (flat_lasts _) hb7
    clear hb7 pb6 pm6 hb06 e0 e1 e2 hc
    go_wp2_with fail
    refine (Hcost.out _ _ _ _ _ (hl.up ii_lasts hb07) (htl.up (flat_lasts _) hb07)).mono ?_
    rintro e w8 ⟨rfl, hb8⟩
    have hb08 := hb07.trans (hb8.mono hb07.size)
    have pb8 := pbz.below hb8
    have rT := rT.up (flat_lasts _) hb8
    have e0 := pb8.cell (j := 0) (u := .slice (some ⟨g1, 0, none⟩) n n) rfl
    clear hb8 pbz hb07
    cases hok : okC cl tl
    · rw [costE_no hok]
      generalize costV cl tl = V at *
      have h10 : ((1 : Int) != 0) = true := by decide
      clear hok
      go_wp2
      go_ret
      exact ⟨rfl, hb08⟩
    · rw [costE_ok hok]
      obtain ⟨f1, f2⟩ := Hf.out hok
      have Hf2 := Lib.hid f2
      clear Hf hok f2
      generalize costV cl tl = V at *
      by_cases hlt : L < V
      · have hd : decide (L < V) = true := by simpa using hlt
        clear f1
        go_wp2
        go_ret
        exact ⟨rfl, hb08⟩
      · have he : V = L := by omega
        have hnb := Lib.hid (Hf2.out he)
        subst he
        have hd : decide (V < V) = false := by simp
        have he2 : (V == V) = true := by simp
        clear f1 hlt Hf2
        go_wp2_with fail
        refine (Hbef.out _ _ _ _ _ (htl.up (flat_lasts _) hb08) rT).mono ?_
        rintro e w9 ⟨v, rfl, hv, q, rfl⟩
        have hvf : v = false := by
          cases v
          · rfl
          · exact absurd (hv rfl) hnb.out
        subst hvf
        clear hv
        go_wp2
        go_ret
        exact ⟨rfl, below_drewN hb08 q⟩
end Go.Proofs.Ytmcamadcoglodaa
