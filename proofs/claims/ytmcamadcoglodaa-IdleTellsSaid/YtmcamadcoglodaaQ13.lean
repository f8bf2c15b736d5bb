/- Walk over Check of package idle. Conditions stand in the theorem. -/
import Derived.Test.YtmcamadcoglodaaQ12
namespace Go.Proofs.Ytmcamadcoglodaa
open Go.RowKit
set_option linter.unusedVariables false

/-- what Check asks -/
structure ChkP (cl : List (List Int)) (ta R K : List Int) : Prop where
  right : rightC cl = true
  ass : assC cl ta = true
  lr : R.length = cl.length
  lk : K.length = wid cl
  rb : ∀ i, i < cl.length → -1099511627776 ≤ gi R i ∧ gi R i ≤ 1099511627776
  kb : ∀ k, k < wid cl → -1099511627776 ≤ gi K k ∧ gi K k ≤ 0
  pair : ∀ i k, i < cl.length → k < wid cl → gi R i + gi K k ≤ tb cl i k ∧ (gi ta i = (k : Int) → tb cl i k = gi R i + gi K k)
  free : ∀ k, k < wid cl → gi K k ≠ 0 → ∃ i, i < cl.length ∧ gi ta i = (k : Int)
def CheckPost (w : World) (Pr : Prop) (e : Ending) (w' : World) : Prop := ∃ b : Bool, e = .returned (.bool b) ∧ (b = true ↔ Pr) ∧ Below w.heap.size w w'
theorem CheckPost.no {w w' : World} {Pr : Prop} (h : ¬ Pr) (hb : Below w.heap.size w w') : CheckPost w Pr (.returned (.bool false)) w' := ⟨false, rfl, ⟨fun h3 => (by cases h3), fun h2 => absurd h2 h⟩, hb⟩
theorem CheckPost.yes {w w' : World} {Pr : Prop} (h : Pr) (hb : Below w.heap.size w w') : CheckPost w Pr (.returned (.bool true)) w' := ⟨true, rfl, ⟨fun _ => h, fun _ => rfl⟩, hb⟩
set_option maxRecDepth 100000 in
set_option maxHeartbeats 2000000 in
theorem check_any (A A1 A2 A3 : Option Addr) (n cap n1 cap1 n2 cap2 n3 cap3 : Nat) (cl : List (List Int)) (ta R K : List Int) (w : World) (hl : RdII w w.heap.size A n cap cl) (ht : RdI w w.heap.size A1 n1 cap1 ta) (hR : RdI w w.heap.size A2 n2 cap2 R) (hK : RdI w w.heap.size A3 n3 cap3 K) :
    Calls Try.prog 18 #[.slice A n cap, .agg #[.slice A1 n1 cap1, .slice A2 n2 cap2, .slice A3 n3 cap3]] w (CheckPost w (ChkP cl ta R K)) := by
  have hcaps := hl.caps
  have hlen := hl.len
  have hcap1 := ht.caps
  have hcap2 := hR.caps
  have hcap3 := hK.caps
  have hlenR := hR.len
  have hlenK := hK.len
  have hb0 := (Below.refl w.heap.size w).alloc (Nat.le_refl _) (.cells #[.slice A1 n1 cap1, .slice A2 n2 cap2, .slice A3 n3 cap3] 25)
  have hp0 := Hb.new w #[.slice A1 n1 cap1, .slice A2 n2 cap2, .slice A3 n3 cap3] 25
  obtain ⟨w0, hw0⟩ : ∃ w0, w0 = w.alloc (.cells #[.slice A1 n1 cap1, .slice A2 n2 cap2, .slice A3 n3 cap3] 25) := ⟨_, rfl⟩
  rw [← hw0] at hb0 hp0
  obtain ⟨g, hg⟩ : ∃ g, g = w.heap.size := ⟨_, rfl⟩
  rw [← hg] at hp0
  obtain ⟨ι, f, hne, hfw, hfb, hfc⟩ := cls_of w0 w0.heap.size w0 (Below.refl _ _)
  have hfbw : ∀ q, Below w.heap.size w (f q) := fun q => hb0.trans ((hfb q).mono hb0.size)
  have Hfb := Lib.hid hfbw; have Hfw := Lib.hid hfw
  have e0 : ∀ q, (f q).cell? ⟨g, 0, none⟩ = some (.slice A1 n1 cap1) := fun q => (hp0.below (hfb q)).cell rfl
  have e1 : ∀ q, (f q).cell? ⟨g, 1, none⟩ = some (.slice A2 n2 cap2) := fun q => (hp0.below (hfb q)).cell rfl
  have e2 : ∀ q, (f q).cell? ⟨g, 2, none⟩ = some (.slice A3 n3 cap3) := fun q => (hp0.below (hfb q)).cell rfl
  have Hr1 := Lib.hid (fun q => (right_any A n cap cl (f q) (hl.below ii_lasts (hfbw q) (Nat.le_refl _) (hfbw q).size)).mono fun e w'' ⟨he, h⟩ => (⟨he, hfc _ ((hfb q).trans (h.mono (hfb q).size))⟩ : e = Ending.returned (.bool (rightC cl)) ∧ ∃ s, w'' = f s))
  have Ha := Lib.hid (fun q => (assigns_any A A1 n cap n1 cap1 cl ta (f q) (hl.below ii_lasts (hfbw q) (Nat.le_refl _) (hfbw q).size) (ht.below (flat_lasts _) (hfbw q) (Nat.le_refl _) (hfbw q).size)).mono fun e w'' ⟨he, h⟩ => (⟨he, q, h.symm⟩ : e = Ending.returned (.bool (assC cl ta)) ∧ ∃ s, w'' = f s))
  have hfail : ¬ ChkP cl ta R K → ∀ w', Below w.heap.size w w' → CheckPost w (ChkP cl ta R K) (.returned (.bool false)) w' := fun h w' hb => CheckPost.no h hb
  have Hhas := Lib.hid (fun (k : Nat) w' (hb : Below w.heap.size w w') => hasN_any A1 n1 cap1 ta (k : Int) w' (ht.below (flat_lasts _) hb (Nat.le_refl _) hb.size))
  have HW := Lib.hid hw0; have HG := Lib.hid hg
  clear hfc hfw hfb hfbw hp0 hb0 hw0 hg
  cases h1 : rightC cl
  · have Hfail := Lib.hid (hfail (fun h => by have := h.right; rw [h1] at this; cases this))
    rw [h1] at Hr1
    clear h1 hlen hlenR hlenK hfail
    generalize CheckPost w (ChkP cl ta R K) = Q at *
    go_enter Try.func18, Try.ntmps18
    go_wp2_with fail
    rw [← HW.out, ← HG.out]
    refine wp_region_cls (C := fun w' => ∃ n, w' = f n) (by kernel_rfl) (by kernel_rfl) Hfw.out ?_
    repeat (first
      | go_big_quiet_skip
      | (go_big_quiet_want; go_big_quiet_op; first | go_big_quiet_on | go_big_quiet_call ((first | (go_at_call 11; exact Hr1.out _) | (go_at_call 39; exact Ha.out _)))))
    refine wpQuiet_nil ?_
    rintro _ ⟨nq, rfl⟩
    go_wp2
    exact Hfail.out _ (Hfb.out nq)
  rw [h1] at Hr1
  cases h2 : assC cl ta
  · have Hfail := Lib.hid (hfail (fun h => by have := h.ass; rw [h2] at this; cases this))
    rw [h2] at Ha
    clear h1 h2 hlen hlenR hlenK hfail
    generalize CheckPost w (ChkP cl ta R K) = Q at *
    go_enter Try.func18, Try.ntmps18
    go_wp2_with fail
    rw [← HW.out, ← HG.out]
    refine wp_region_cls (C := fun w' => ∃ n, w' = f n) (by kernel_rfl) (by kernel_rfl) Hfw.out ?_
    repeat (first
      | go_big_quiet_skip
      | (go_big_quiet_want; go_big_quiet_op; first | go_big_quiet_on | go_big_quiet_call ((first | (go_at_call 11; exact Hr1.out _) | (go_at_call 39; exact Ha.out _)))))
    refine wpQuiet_nil ?_
    rintro _ ⟨nq, rfl⟩
    go_wp2
    exact Hfail.out _ (Hfb.out nq)
  rw [h2] at Ha
  obtain ⟨⟨m1, m20⟩, ⟨v1, v40⟩, hrow⟩ := rightC_iff.1 h1
  obtain ⟨t1, t2⟩ := assC_iff.1 h2
  rw [hlen] at m1 m20 v1
  obtain ⟨b, off, A0, n0, cap0, x0, rfl, hbB, hx0, c0, r0⟩ := hl.atII (k := 0) (by omega)
  have hwid : wid cl = n0 := by rw [wid, clAt_eq hx0]; exact r0.len
  have hcap0 := r0.caps
  rw [Nat.add_zero] at c0
  have d0 : ∀ q, (f q).cell? ⟨b, off, none⟩ = some (.slice A0 n0 cap0) := fun q => ((Hfb.out q).cell (p := ⟨b, off, none⟩) hbB).trans c0
  have hn0 : (0 : Int) < (n : Int) := by omega
  have hn00 : 0 < n := by omega
  by_cases hRn : n2 = n
  case neg =>
    have Hfail := Lib.hid (hfail (fun h => by have := h.lr; omega))
    have hd : ((n2 : Int) != (n : Int)) = true := by simp; omega
    clear h1 h2 hlen hlenR hlenK hfail hrow t1 t2 hx0 r0 hwid hRn
    generalize CheckPost w (ChkP cl ta R K) = Q at *
    go_enter Try.func18, Try.ntmps18
    go_wp2_with fail
    rw [← HW.out, ← HG.out]
    refine wp_region_cls (C := fun w' => ∃ n, w' = f n) (by kernel_rfl) (by kernel_rfl) Hfw.out ?_
    repeat (first
      | go_big_quiet_skip
      | (go_big_quiet_want; go_big_quiet_op; first | go_big_quiet_on | go_big_quiet_call ((first | (go_at_call 11; exact Hr1.out _) | (go_at_call 39; exact Ha.out _)))))
    refine wpQuiet_nil ?_
    rintro _ ⟨nq, rfl⟩
    go_wp2
    exact Hfail.out _ (Hfb.out nq)
  subst hRn
  have hdR : ((n2 : Int) != (n2 : Int)) = false := by simp
  by_cases hKn : n3 = n0
  case neg =>
    have Hfail := Lib.hid (hfail (fun h => by have := h.lk; omega))
    have hd : ((n3 : Int) != (n0 : Int)) = true := by simp; omega
    clear h1 h2 hlen hlenR hlenK hfail hrow t1 t2 hx0 r0 hwid hKn
    generalize CheckPost w (ChkP cl ta R K) = Q at *
    go_enter Try.func18, Try.ntmps18
    go_wp2_with fail
    rw [← HW.out, ← HG.out]
    refine wp_region_cls (C := fun w' => ∃ n, w' = f n) (by kernel_rfl) (by kernel_rfl) Hfw.out ?_
    repeat (first
      | go_big_quiet_skip
      | (go_big_quiet_want; go_big_quiet_op; first | go_big_quiet_on | go_big_quiet_call ((first | (go_at_call 11; exact Hr1.out _) | (go_at_call 39; exact Ha.out _)))))
    refine wpQuiet_nil ?_
    rintro _ ⟨nq, rfl⟩
    go_wp2
    exact Hfail.out _ (Hfb.out nq)
  subst hKn
  have hdK : ((n3 : Int) != (n3 : Int)) = false := by simp
  have hn1 : n1 = n2 := by have := ht.len; omega
  subst hn1
  have Hrow := Lib.hid (fun i (hi : i < n1) => (show (clAt cl i).length = n3 by rw [(rowC_iff.1 (hrow i (by omega))).1, hwid]))
  have Htb := Lib.hid (fun i k (hi : i < n1) (hk : k < n3) => (show 0 ≤ tb cl i k ∧ tb cl i k ≤ 1000000000 from inB_iff.1 ((rowC_iff.1 (hrow i (by omega))).2 k (by omega))))
  have HnoR := Lib.hid (fun i (hi : i < n1) (h : gi R i < -1099511627776 ∨ 1099511627776 < gi R i) => hfail (fun hc => by have := hc.rb i (by omega); omega))
  have HnoK := Lib.hid (fun k (hk : k < n3) (h : gi K k < -1099511627776 ∨ 0 < gi K k) => hfail (fun hc => by have := hc.kb k (by omega); omega))
  have HnoP := Lib.hid (fun i k (hi : i < n1) (hk : k < n3) (h : tb cl i k < gi R i + gi K k ∨ (gi ta i = (k : Int) ∧ tb cl i k ≠ gi R i + gi K k)) => hfail (fun hc => by
    have h5 := hc.pair i k (by omega) (by omega)
    rcases h with h | h
    · omega
    · exact h.2 (h5.2 h.1)))
  have HnoF := Lib.hid (fun k (hk : k < n3) (h0 : gi K k ≠ 0) (h : ∀ i, i < n1 → gi ta i ≠ (k : Int)) => hfail (fun hc => by
    obtain ⟨i, hi, e⟩ := hc.free k (by omega) h0
    exact h i (by omega) e))
  have Hyes := Lib.hid (fun (ha : ∀ i, i < n1 → -1099511627776 ≤ gi R i ∧ gi R i ≤ 1099511627776) (hb : ∀ k, k < n3 → -1099511627776 ≤ gi K k ∧ gi K k ≤ 0) (hc : ∀ i k, i < n1 → k < n3 → gi R i + gi K k ≤ tb cl i k ∧ (gi ta i = (k : Int) → tb cl i k = gi R i + gi K k)) (hd : ∀ k, k < n3 → gi K k ≠ 0 → ∃ i, i < n1 ∧ gi ta i = (k : Int)) w' (hw : Below w.heap.size w w') =>
    CheckPost.yes (w := w) (w' := w') (Pr := ChkP cl ta R K) ⟨h1, h2, by omega, by omega, fun i hi => ha i (by omega), fun k hk => hb k (by omega), fun i k hi hk => hc i k (by omega) (by omega), fun k hk h0 => by
      obtain ⟨i, hi, e⟩ := hd k (by omega) h0
      exact ⟨i, by omega, e⟩⟩ hw)
  have Hl := Lib.hid hl; have Ht := Lib.hid ht; have HR := Lib.hid hR; have HK := Lib.hid hK
  have Hta := Lib.hid (show ta.length = n1 from ht.len)
  clear h1 h2 hlen hlenR hlenK hfail hrow t1 t2 hx0 r0 hwid hl ht hR hK
  generalize CheckPost w (ChkP cl ta R K) = Q at *
  go_enter Try.func18, Try.ntmps18
  go_wp2_with fail
  rw [← HW.out, ← HG.out]
  refine wp_region_cls (C := fun w' => ∃ n, w' = f n) (by kernel_rfl) (by kernel_rfl) Hfw.out ?_
  repeat (first
    | go_big_quiet_skip
    | (go_big_quiet_want; go_big_quiet_op; first | go_big_quiet_on | go_big_quiet_call ((first | (go_at_call 11; exact Hr1.out _) | (go_at_call 39; exact Ha.out _)))))
  refine wpQuiet_nil ?_
  rintro _ ⟨nq, rfl⟩
  have hbA := Hfb.out nq
  have f0 := e0 nq
  have f1 := e1 nq
  have f2 := e2 nq
  generalize f nq = wA at *
  clear d0 e0 e1 e2 Hr1 Ha Hfw Hfb hne
  go_wp2_with fail
  go_loopg [41] n1 (fun gk iv wx => ∃ i : Nat, i ≤ n1 ∧ gk = n1 - i ∧ iv = .int .i64 i ∧ (∀ a, a < i → (-1099511627776 ≤ gi R a ∧ gi R a ≤ 1099511627776) ∧ ∀ k, k < n3 → (-1099511627776 ≤ gi K k ∧ gi K k ≤ 0) ∧ gi R a + gi K k ≤ tb cl a k ∧ (gi ta a = (k : Int) → tb cl a k = gi R a + gi K k)) ∧ ∃ q, wx = wA.drewN q)
  case atStart => exact ⟨0, Nat.zero_le _, rfl, rfl, (fun a ha => absurd ha (by omega)), dr_zero _⟩
  case round =>
    obtain ⟨i, hi, rfl, rfl, hall, hq⟩ := hrel
    have Hall := Lib.hid hall; have Hq := Lib.hid hq
    have g0 := (dr_cell hq ⟨g, 0, none⟩).trans f0
    have g1 := (dr_cell hq ⟨g, 1, none⟩).trans f1
    have g2 := (dr_cell hq ⟨g, 2, none⟩).trans f2
    have hbw : Below w.heap.size w wr := by obtain ⟨q, rfl⟩ := hq; exact below_drewN hbA q
    clear hall hq
    by_cases hlt : i < n1
    · have hii : (i : Int) < (n1 : Int) := by omega
      have hi0 : (0 : Int) ≤ (i : Int) := by omega
      obtain ⟨b', off', Ai, ni, capi, xi, hA, hb1, hxi, c1A, ri⟩ := (Hl.out.below ii_lasts hbA (Nat.le_refl _) (Nat.le_refl _)).atII (k := i) hlt
      injection hA with hA; injection hA with hA1 hA2
      subst hA1 hA2
      have hcl := clAt_eq hxi
      have hni : n3 = ni := by have h5 := Hrow.out i hlt; rw [hcl] at h5; rw [← ri.len]; exact h5.symm
      subst hni
      have hcapi := ri.caps
      obtain ⟨bR, oR, xR, rfl, hbR, hxR, r1A⟩ := (HR.out.below (flat_lasts _) hbA (Nat.le_refl _) (Nat.le_refl _)).atI hlt
      have hxR2 := gi_eq hxR
      obtain ⟨bT, oT, xT, rfl, hbT, hxT, r2A⟩ := (Ht.out.below (flat_lasts _) hbA (Nat.le_refl _) (Nat.le_refl _)).atI hlt
      have hxT2 := gi_eq hxT
      have HxR := Lib.hid hxR2; have HxT := Lib.hid hxT2; have Hcl := Lib.hid hcl
      have c1 := (dr_cell Hq.out ⟨b, off + i, none⟩).trans c1A
      have r1 := (dr_cell Hq.out ⟨bR, oR + i, none⟩).trans r1A
      clear hxi hcl hxR hxT hxR2 hxT2
      by_cases hb1' : xR < -1099511627776
      · have hd1 : decide (xR < -1099511627776) = true := by simpa using hb1'
        have Hno := Lib.hid (HnoR.out i hlt (by rw [HxR.out]; omega))
        clear hb1'
        go_wp2
        exact Hno.out _ hbw
      · have hd1 : decide (xR < -1099511627776) = false := by simpa using hb1'
        by_cases hb2' : 1099511627776 < xR
        · have hd2 : decide (1099511627776 < xR) = true := by simpa using hb2'
          have Hno := Lib.hid (HnoR.out i hlt (by rw [HxR.out]; omega))
          clear hb1' hb2'
          go_wp2
          exact Hno.out _ hbw
        · have hd2 : decide (1099511627776 < xR) = false := by simpa using hb2'
          go_wp2
          clear c1 r1 g0 g1 g2
          go_loopg [62] n3 (fun gk kv wx => ∃ k : Nat, k ≤ n3 ∧ gk = n3 - k ∧ kv = .int .i64 k ∧ (∀ a, a < k → (-1099511627776 ≤ gi K a ∧ gi K a ≤ 0) ∧ gi R i + gi K a ≤ tb cl i a ∧ (gi ta i = (a : Int) → tb cl i a = gi R i + gi K a)) ∧ ∃ q, wx = wA.drewN q)
          case atStart => exact ⟨0, Nat.zero_le _, rfl, rfl, (fun a ha => absurd ha (by omega)), Hq.out⟩
          case round =>
            obtain ⟨k, hk, rfl, rfl, hall2, hq2⟩ := hrel
            have Hall2 := Lib.hid hall2; have Hq2 := Lib.hid hq2
            have g0 := (dr_cell hq2 ⟨g, 0, none⟩).trans f0
            have g1 := (dr_cell hq2 ⟨g, 1, none⟩).trans f1
            have g2 := (dr_cell hq2 ⟨g, 2, none⟩).trans f2
            have r1 := (dr_cell hq2 ⟨bR, oR + i, none⟩).trans r1A
            have r2 := (dr_cell hq2 ⟨bT, oT + i, none⟩).trans r2A
            clear hall2 hq2
            by_cases hltk : k < n3
            · obtain ⟨bc, oc, xc, rfl, hbc, hxc, s0A⟩ := ri.atI hltk
              have Hxc := Lib.hid (show tb cl i k = xc by rw [tb, Hcl.out]; exact gi_eq hxc)
              obtain ⟨bK, oK, xK, rfl, hbK, hxK, s1A⟩ := (HK.out.below (flat_lasts _) hbA (Nat.le_refl _) (Nat.le_refl _)).atI hltk
              have HxK := Lib.hid (gi_eq hxK)
              have s0 := (dr_cell Hq2.out ⟨bc, oc + k, none⟩).trans s0A
              have s1 := (dr_cell Hq2.out ⟨bK, oK + k, none⟩).trans s1A
              have hkk : (k : Int) < (n3 : Int) := by omega
              have hk0 : (0 : Int) ≤ (k : Int) := by omega
              clear hxc hxK s0A s1A
              by_cases a1 : xK < -1099511627776
              · have ad1 : decide (xK < -1099511627776) = true := by simpa using a1
                have Hno := Lib.hid (HnoK.out k hltk (by rw [HxK.out]; omega))
                clear a1
                go_wp2_with fail
                go_quiet (fail)
                go_wp2
                refine Hno.out _ ?_
                obtain ⟨qq0, hq0⟩ := Hq2.out
                rw [hq0, World.drewN_drewN]
                exact below_drewN hbA _
              have ad1 : decide (xK < -1099511627776) = false := by simpa using a1
              by_cases a2 : 0 < xK
              · have ad2 : decide (0 < xK) = true := by simpa using a2
                have Hno := Lib.hid (HnoK.out k hltk (by rw [HxK.out]; omega))
                clear a1 a2
                go_wp2_with fail
                go_quiet (fail)
                go_wp2
                refine Hno.out _ ?_
                obtain ⟨qq0, hq0⟩ := Hq2.out
                rw [hq0, World.drewN_drewN]
                exact below_drewN hbA _
              have ad2 : decide (0 < xK) = false := by simpa using a2
              have hwrap : IntKind.i64.wrap (xR + xK) = xR + xK := IntWalk.i64_in _ (by omega)
              by_cases a3 : xc < xR + xK
              · have ad3 : decide (xc < xR + xK) = true := by simpa using a3
                have Hno := Lib.hid (HnoP.out i k hlt hltk (by rw [HxR.out, HxK.out, Hxc.out]; omega))
                clear a1 a2 a3
                go_wp2_with fail
                go_quiet (fail)
                go_wp2
                refine Hno.out _ ?_
                obtain ⟨qq0, hq0⟩ := Hq2.out
                rw [hq0, World.drewN_drewN]
                exact below_drewN hbA _
              have ad3 : decide (xc < xR + xK) = false := by simpa using a3
              by_cases a4 : xT = (k : Int)
              · have ad4 : (xT == (k : Int)) = true := by simp [a4]
                by_cases a5 : xc = xR + xK
                · have ad5 : (xc != xR + xK) = false := by simp [a5]
                  have Hgood := Lib.hid (show (-1099511627776 ≤ xK ∧ xK ≤ 0) ∧ xR + xK ≤ xc ∧ (xT = (k : Int) → xc = xR + xK) from ⟨by omega, by omega, fun _ => a5⟩)
                  clear a1 a2 a3 a4 a5
                  go_wp2_with fail
                  go_quiet (fail)
                  go_wp2
                  go_roundg (n3 - (k + 1))
                  case rel => exact ⟨k + 1, by omega, rfl, by go_num, (fun a ha => by
                    by_cases e : a = k
                    · subst e; rw [HxR.out, HxK.out, HxT.out, Hxc.out]; exact Hgood.out
                    · exact Hall2.out a (by omega)), dr_more Hq2.out _⟩
                  case measure => omega
                · have ad5 : (xc != xR + xK) = true := by simp [a5]
                  have Hno := Lib.hid (HnoP.out i k hlt hltk (Or.inr ⟨by rw [HxT.out]; exact a4, by rw [HxR.out, HxK.out, Hxc.out]; exact a5⟩))
                  clear a1 a2 a3 a4 a5
                  go_wp2_with fail
                  go_quiet (fail)
                  go_wp2
                  refine Hno.out _ ?_
                  obtain ⟨qq0, hq0⟩ := Hq2.out
                  rw [hq0, World.drewN_drewN]
                  exact below_drewN hbA _
              · have ad4 : (xT == (k : Int)) = false := by simp [a4]
                have Hgood := Lib.hid (show (-1099511627776 ≤ xK ∧ xK ≤ 0) ∧ xR + xK ≤ xc ∧ (xT = (k : Int) → xc = xR + xK) from ⟨by omega, by omega, fun e => absurd e a4⟩)
                clear a1 a2 a3 a4
                go_wp2_with fail
                go_quiet (fail)
                go_wp2
                go_roundg (n3 - (k + 1))
                case rel => exact ⟨k + 1, by omega, rfl, by go_num, (fun a ha => by
                  by_cases e : a = k
                  · subst e; rw [HxR.out, HxK.out, HxT.out, Hxc.out]; exact Hgood.out
                  · exact Hall2.out a (by omega)), dr_more Hq2.out _⟩
                case measure => omega
            · have ek : k = n3 := by omega
              subst ek
              have Hrb := Lib.hid (show -1099511627776 ≤ xR ∧ xR ≤ 1099511627776 by omega)
              go_wp2
              go_roundg (n1 - (i + 1))
              case rel => exact ⟨i + 1, by omega, rfl, by go_num, (fun a ha => by
                by_cases e : a = i
                · subst e
                  exact ⟨by rw [HxR.out]; exact Hrb.out, fun q hq => Hall2.out q hq⟩
                · exact Hall.out a (by omega)), Hq2.out⟩
              case measure => omega
    · have ei : i = n1 := by omega
      subst ei
      have Hra := Lib.hid (fun a (ha : a < i) => (Hall.out a ha).1)
      have Hka := Lib.hid (fun k (hk : k < n3) => ((Hall.out 0 (by omega)).2 k hk).1)
      have Hpa := Lib.hid (fun a k (ha : a < i) (hk : k < n3) => ((Hall.out a ha).2 k hk).2)
      go_wp2
      clear g0 g1 g2
      go_loopg [125] n3 (fun gk kv wx => ∃ k : Nat, k ≤ n3 ∧ gk = n3 - k ∧ kv = .int .i64 k ∧ (∀ a, a < k → gi K a ≠ 0 → ∃ j, j < i ∧ gi ta j = (a : Int)) ∧ ∃ q, wx = wA.drewN q)
      case atStart => exact ⟨0, Nat.zero_le _, rfl, rfl, (fun a ha => absurd ha (by omega)), Hq.out⟩
      case round =>
        obtain ⟨k, hk, rfl, rfl, hall2, hq2⟩ := hrel
        have Hall2 := Lib.hid hall2; have Hq2 := Lib.hid hq2
        have g0 := (dr_cell hq2 ⟨g, 0, none⟩).trans f0
        have g1 := (dr_cell hq2 ⟨g, 1, none⟩).trans f1
        have g2 := (dr_cell hq2 ⟨g, 2, none⟩).trans f2
        have hbw2 : Below w.heap.size w wr := by obtain ⟨q, rfl⟩ := hq2; exact below_drewN hbA q
        clear hall2 hq2
        by_cases hltk : k < n3
        · obtain ⟨bK, oK, xK, rfl, hbK, hxK, s1A⟩ := (HK.out.below (flat_lasts _) hbA (Nat.le_refl _) (Nat.le_refl _)).atI hltk
          have HxK := Lib.hid (gi_eq hxK)
          have s1 := (dr_cell Hq2.out ⟨bK, oK + k, none⟩).trans s1A
          have hkk : (k : Int) < (n3 : Int) := by omega
          have hk0 : (0 : Int) ≤ (k : Int) := by omega
          clear hxK s1A
          by_cases a1 : xK = 0
          · have ad1 : (xK != 0) = false := by simp [a1]
            have Ha1 := Lib.hid a1
            clear a1
            go_wp2
            go_roundg (n3 - (k + 1))
            case rel => exact ⟨k + 1, by omega, rfl, by go_num, (fun a ha h0 => by
              by_cases e : a = k
              · subst e; exact absurd (HxK.out.trans Ha1.out) h0
              · exact Hall2.out a (by omega) h0), Hq2.out⟩
            case measure => omega
          · have ad1 : (xK != 0) = true := by simp [a1]
            have hcon := Hhas.out k wr hbw2
            by_cases hex : ∃ j, j < i ∧ gi ta j = (k : Int)
            · have hfa : (ta.all fun x => decide (x ≠ (k : Int))) = false := by
                obtain ⟨j, hj, e⟩ := hex
                cases hh : ta.all fun x => decide (x ≠ (k : Int))
                · rfl
                · have := all_gi.2 hh j (by rw [Hta.out]; exact hj)
                  rw [decide_eq_true_eq] at this
                  exact absurd e this
              rw [hfa] at hcon
              have Hex := Lib.hid hex
              clear hex hfa a1
              go_wp2_with fail
              refine hcon.mono ?_
              rintro e _ ⟨rfl, rfl⟩
              go_wp2
              go_roundg (n3 - (k + 1))
              case rel => exact ⟨k + 1, by omega, rfl, by go_num, (fun a ha h0 => by
                by_cases e : a = k
                · subst e; exact Hex.out
                · exact Hall2.out a (by omega) h0), Hq2.out⟩
              case measure => omega
            · have htr : (ta.all fun x => decide (x ≠ (k : Int))) = true := all_gi.1 fun j hj => by
                rw [decide_eq_true_eq]
                exact fun e => hex ⟨j, by rw [← Hta.out]; exact hj, e⟩
              rw [htr] at hcon
              have Hno := Lib.hid (HnoF.out k hltk (by rw [HxK.out]; exact a1) (fun j hj e => hex ⟨j, hj, e⟩))
              clear hex htr a1
              go_wp2_with fail
              refine hcon.mono ?_
              rintro e _ ⟨rfl, rfl⟩
              go_wp2
              exact Hno.out _ hbw2
        · have ek : k = n3 := by omega
          subst ek
          go_wp2
          exact Hyes.out Hra.out Hka.out Hpa.out Hall2.out _ hbw2
end Go.Proofs.Ytmcamadcoglodaa
