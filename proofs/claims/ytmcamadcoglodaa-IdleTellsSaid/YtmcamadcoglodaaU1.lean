/- Walk over Check of the reference of layer 24. Conditions stand in the theorem. -/
import Derived.Test.YtmcamadcoglodaaS7
namespace Go.Proofs.Ytmcamadcoglodaa
open Go.RowKit
set_option linter.unusedVariables false

/-- whether a column is used by the first rows -/
def UsedP (ta : List Int) (k r : Nat) (u : Bool) : Prop := u = true ↔ ∃ a, a < r ∧ gi ta a = (k : Int)
theorem UsedP.zero {ta : List Int} {k : Nat} : UsedP ta k 0 false := ⟨(fun h => by cases h), (fun ⟨a, ha, _⟩ => absurd ha (by omega))⟩
theorem UsedP.stay {ta : List Int} {k r : Nat} (h : UsedP ta k r true) : UsedP ta k (r + 1) true := ⟨fun _ => by
  obtain ⟨a, h1, h2⟩ := h.1 rfl
  exact ⟨a, by omega, h2⟩, fun _ => rfl⟩
theorem UsedP.yes {ta : List Int} {k r : Nat} {u : Bool} (h : gi ta r = (k : Int)) : UsedP ta k (r + 1) true := ⟨fun _ => ⟨r, by omega, h⟩, fun _ => rfl⟩
theorem UsedP.no {ta : List Int} {k r : Nat} (h : UsedP ta k r false) (hn : gi ta r ≠ (k : Int)) : UsedP ta k (r + 1) false := ⟨fun h => (by cases h), fun ⟨a, h1, h2⟩ => by
  by_cases e : a = r
  · subst e; exact absurd h2 hn
  · exact h.2 ⟨a, by omega, h2⟩⟩
set_option maxRecDepth 100000 in
set_option maxHeartbeats 4000000 in
theorem rcheck_any (A A1 A2 A3 : Option Addr) (n cap n1 cap1 n2 cap2 n3 cap3 : Nat) (cl : List (List Int)) (ta R K : List Int) (w : World) (hl : RdII w w.heap.size A n cap cl) (ht : RdI w w.heap.size A1 n1 cap1 ta) (hR : RdI w w.heap.size A2 n2 cap2 R) (hK : RdI w w.heap.size A3 n3 cap3 K) :
    Calls Try.prog 19 #[.slice A n cap, .agg #[.slice A1 n1 cap1, .slice A2 n2 cap2, .slice A3 n3 cap3]] w (CheckPost w (ChkP cl ta R K)) := by
  have hcaps := hl.caps
  have hlen := hl.len
  have hcap1 := ht.caps
  have hcap2 := hR.caps
  have hcap3 := hK.caps
  have hlenR := hR.len
  have hlenK := hK.len
  have hb0 := (Below.refl w.heap.size w).alloc (Nat.le_refl _) (.cells #[.slice A1 n1 cap1, .slice A2 n2 cap2, .slice A3 n3 cap3] 25)
  have hp0 := Hb.new w #[.slice A1 n1 cap1, .slice A2 n2 cap2, .slice A3 n3 cap3] 25
  obtain ⟨w0, hw0⟩ : ∃ w0, w0 = w.alloc (.cells #[.slice A1 n1 cap1, .slice A2 n2 cap2, .slice A3 n3 cap3] 25) := ⟨_, rfl⟩
  rw [← hw0] at hb0 hp0
  obtain ⟨g, hg⟩ : ∃ g, g = w.heap.size := ⟨_, rfl⟩
  rw [← hg] at hp0
  have f0 := hp0.cell (j := 0) (u := .slice A1 n1 cap1) rfl
  have f1 := hp0.cell (j := 1) (u := .slice A2 n2 cap2) rfl
  have f2 := hp0.cell (j := 2) (u := .slice A3 n3 cap3) rfl
  have hl0 := hl.up ii_lasts hb0
  have ht0 := ht.up (flat_lasts _) hb0
  have Hr1 := Lib.hid (fun q => (rright_any A n cap cl (w0.drewN q) (hl0.drewN ii_lasts q)).mono fun e w'' ⟨he, h⟩ => (⟨he, q, h.symm⟩ : e = Ending.returned (.bool (rightC cl)) ∧ ∃ s, w'' = w0.drewN s))
  have Ha := Lib.hid (fun q => (rassigns_any A A1 n cap n1 cap1 cl ta (w0.drewN q) (hl0.drewN ii_lasts q) (ht0.drewN (flat_lasts _) q)).mono fun e w'' ⟨he, q2, h⟩ => (⟨he, q + q2, by rw [h, World.drewN_drewN]⟩ : e = Ending.returned (.bool (assC cl ta)) ∧ ∃ s, w'' = w0.drewN s))
  have hfail : ¬ ChkP cl ta R K → ∀ w', Below w.heap.size w w' → CheckPost w (ChkP cl ta R K) (.returned (.bool false)) w' := fun h w' hb => CheckPost.no h hb
  have HW := Lib.hid hw0; have HG := Lib.hid hg
  clear hp0 hw0 hg hl0 ht0
  cases h1 : rightC cl
  · have Hfail := Lib.hid (hfail (fun h => by have := h.right; rw [h1] at this; cases this))
    rw [h1] at Hr1
    clear h1 hlen hlenR hlenK hfail
    generalize CheckPost w (ChkP cl ta R K) = Q at *
    go_enter Try.func19, Try.ntmps19
    go_wp2_with fail
    rw [← HW.out, ← HG.out]
    go_quiet ((first | (go_at_call 10; exact Hr1.out _) | (go_at_call 23; exact Ha.out _)))
    go_wp2
    exact Hfail.out _ (below_drewN hb0 _)
  rw [h1] at Hr1
  cases h2 : assC cl ta
  · have Hfail := Lib.hid (hfail (fun h => by have := h.ass; rw [h2] at this; cases this))
    rw [h2] at Ha
    clear h1 h2 hlen hlenR hlenK hfail
    generalize CheckPost w (ChkP cl ta R K) = Q at *
    go_enter Try.func19, Try.ntmps19
    go_wp2_with fail
    rw [← HW.out, ← HG.out]
    go_quiet ((first | (go_at_call 10; exact Hr1.out _) | (go_at_call 23; exact Ha.out _)))
    go_wp2
    exact Hfail.out _ (below_drewN hb0 _)
  rw [h2] at Ha
  obtain ⟨⟨m1, m20⟩, ⟨v1, v40⟩, hrow⟩ := rightC_iff.1 h1
  obtain ⟨t1, t2⟩ := assC_iff.1 h2
  rw [hlen] at m1 m20 v1
  obtain ⟨b, off, A0, n0, cap0, x0, rfl, hbB, hx0, c0, r0⟩ := hl.atII (k := 0) (by omega)
  have hwid : wid cl = n0 := by rw [wid, clAt_eq hx0]; exact r0.len
  have hcap0 := r0.caps
  rw [Nat.add_zero] at c0
  have d0 := (hb0.cell (p := ⟨b, off, none⟩) hbB).trans c0
  have hn0 : (0 : Int) < (n : Int) := by omega
  have hn00 : 0 < n := by omega
  by_cases hRn : n2 = n
  case neg =>
    have Hfail := Lib.hid (hfail (fun h => by have := h.lr; omega))
    have hd : ((n2 : Int) != (n : Int)) = true := by simp; omega
    clear h1 h2 hlen hlenR hlenK hfail hrow t1 t2 hx0 r0 hwid hRn
    generalize CheckPost w (ChkP cl ta R K) = Q at *
    go_enter Try.func19, Try.ntmps19
    go_wp2_with fail
    rw [← HW.out, ← HG.out]
    go_quiet ((first | (go_at_call 10; exact Hr1.out _) | (go_at_call 23; exact Ha.out _)))
    go_wp2
    exact Hfail.out _ (below_drewN hb0 _)
  subst hRn
  have hdR : ((n2 : Int) != (n2 : Int)) = false := by simp
  by_cases hKn : n3 = n0
  case neg =>
    have Hfail := Lib.hid (hfail (fun h => by have := h.lk; omega))
    have hd : ((n3 : Int) != (n0 : Int)) = true := by simp; omega
    clear h1 h2 hlen hlenR hlenK hfail hrow t1 t2 hx0 r0 hwid hKn
    generalize CheckPost w (ChkP cl ta R K) = Q at *
    go_enter Try.func19, Try.ntmps19
    go_wp2_with fail
    rw [← HW.out, ← HG.out]
    go_quiet ((first | (go_at_call 10; exact Hr1.out _) | (go_at_call 23; exact Ha.out _)))
    go_wp2
    exact Hfail.out _ (below_drewN hb0 _)
  subst hKn
  have hdK : ((n3 : Int) != (n3 : Int)) = false := by simp
  have hn1 : n1 = n2 := by have := ht.len; omega
  subst hn1
  have Hrow := Lib.hid (fun i (hi : i < n1) => (show (clAt cl i).length = n3 by rw [(rowC_iff.1 (hrow i (by omega))).1, hwid]))
  have Htb := Lib.hid (fun i k (hi : i < n1) (hk : k < n3) => (show 0 ≤ tb cl i k ∧ tb cl i k ≤ 1000000000 from inB_iff.1 ((rowC_iff.1 (hrow i (by omega))).2 k (by omega))))
  have HnoR := Lib.hid (fun i (hi : i < n1) (h : gi R i < -1099511627776 ∨ 1099511627776 < gi R i) => hfail (fun hc => by have := hc.rb i (by omega); omega))
  have HnoK := Lib.hid (fun k (hk : k < n3) (h : gi K k < -1099511627776 ∨ 0 < gi K k) => hfail (fun hc => by have := hc.kb k (by omega); omega))
  have HnoP := Lib.hid (fun i k (hi : i < n1) (hk : k < n3) (h : tb cl i k < gi R i + gi K k ∨ (gi ta i = (k : Int) ∧ tb cl i k ≠ gi R i + gi K k)) => hfail (fun hc => by
    have h5 := hc.pair i k (by omega) (by omega)
    rcases h with h | h
    · omega
    · exact h.2 (h5.2 h.1)))
  have HnoF := Lib.hid (fun k (hk : k < n3) (h0 : gi K k ≠ 0) (h : ∀ i, i < n1 → gi ta i ≠ (k : Int)) => hfail (fun hc => by
    obtain ⟨i, hi, e⟩ := hc.free k (by omega) h0
    exact h i (by omega) e))
  have Hyes := Lib.hid (fun (ha : ∀ i, i < n1 → -1099511627776 ≤ gi R i ∧ gi R i ≤ 1099511627776) (hb : ∀ k, k < n3 → -1099511627776 ≤ gi K k ∧ gi K k ≤ 0) (hc : ∀ i k, i < n1 → k < n3 → gi R i + gi K k ≤ tb cl i k ∧ (gi ta i = (k : Int) → tb cl i k = gi R i + gi K k)) (hd : ∀ k, k < n3 → gi K k ≠ 0 → ∃ i, i < n1 ∧ gi ta i = (k : Int)) w' (hw : Below w.heap.size w w') =>
    CheckPost.yes (w := w) (w' := w') (Pr := ChkP cl ta R K) ⟨h1, h2, by omega, by omega, fun i hi => ha i (by omega), fun k hk => hb k (by omega), fun i k hi hk => hc i k (by omega) (by omega), fun k hk h0 => by
      obtain ⟨i, hi, e⟩ := hd k (by omega) h0
      exact ⟨i, by omega, e⟩⟩ hw)
  have Hl := Lib.hid hl; have Ht := Lib.hid ht; have HR := Lib.hid hR; have HK := Lib.hid hK
  have Hta := Lib.hid (show ta.length = n1 from ht.len)
  clear h1 h2 hlen hlenR hlenK hfail hrow t1 t2 hx0 r0 hwid hl ht hR hK
  generalize CheckPost w (ChkP cl ta R K) = Q at *
  go_enter Try.func19, Try.ntmps19
  go_wp2_with fail
  rw [← HW.out, ← HG.out]
  go_quiet ((first | (go_at_call 10; exact Hr1.out _) | (go_at_call 23; exact Ha.out _)))
  rename_i nq
  have hbA := below_drewN hb0 nq
  have g0 : (w0.drewN nq).cell? ⟨g, 0, none⟩ = some (.slice A1 n1 cap1) := f0
  have g1 : (w0.drewN nq).cell? ⟨g, 1, none⟩ = some (.slice A2 n1 cap2) := f1
  have g2 : (w0.drewN nq).cell? ⟨g, 2, none⟩ = some (.slice A3 n3 cap3) := f2
  clear d0 Hr1 Ha f0 f1 f2
  generalize w0.drewN nq = wA at *
  have f0' := g0; have f1' := g1; have f2' := g2
  have hng : IntKind.i64.wrap (-(1099511627776 : Int)) = -1099511627776 := by decide
  go_wp2_with fail
  go_loopg [6] n1 (fun gk iv wx => ∃ i : Nat, i ≤ n1 ∧ gk = n1 - i ∧ iv = .int .i64 i ∧ (∀ a, a < i → -1099511627776 ≤ gi R a ∧ gi R a ≤ 1099511627776) ∧ wA = wx)
  case atStart => exact ⟨0, Nat.zero_le _, rfl, rfl, (fun a ha => absurd ha (by omega)), rfl⟩
  case round =>
    obtain ⟨i, hi, rfl, rfl, hall, rfl⟩ := hrel
    have Hall := Lib.hid hall
    clear hall
    by_cases hlt : i < n1
    · have hii : (i : Int) < (n1 : Int) := by omega
      have hi0 : (0 : Int) ≤ (i : Int) := by omega
      obtain ⟨bR, oR, xR, rfl, hbR, hxR, r1A⟩ := (HR.out.below (flat_lasts _) hbA (Nat.le_refl _) (Nat.le_refl _)).atI hlt
      have HxR := Lib.hid (gi_eq hxR)
      clear hxR
      go_wp2_with fail
      refine (rin_any xR (-1099511627776) 1099511627776 _).mono ?_
      rintro e _ ⟨rfl, rfl⟩
      cases hin : inB (-1099511627776) 1099511627776 xR
      · have Hno := Lib.hid (HnoR.out i hlt (by rw [HxR.out]; have : ¬ (-1099511627776 ≤ xR ∧ xR ≤ 1099511627776) := fun h => by rw [inB_iff.2 h] at hin; cases hin
                                                omega))
        clear hin
        go_wp2
        exact Hno.out _ hbA
      · have Hin := Lib.hid (inB_iff.1 hin)
        clear hin
        go_wp2
        go_roundg (n1 - (i + 1))
        case rel => exact ⟨i + 1, by omega, rfl, by go_num, (fun a ha => by
          by_cases e : a = i
          · subst e; rw [HxR.out]; exact Hin.out
          · exact Hall.out a (by omega)), rfl⟩
        case measure => omega
    · have ei : i = n1 := by omega
      subst ei
      have Hra := Lib.hid Hall.out
      go_wp2
      clear g0 g1 g2
      go_loopg [7] n3 (fun gk kv wx => ∃ k : Nat, k ≤ n3 ∧ gk = n3 - k ∧ kv = .int .i64 k ∧ (∀ a, a < k → (-1099511627776 ≤ gi K a ∧ gi K a ≤ 0) ∧ (∀ r, r < i → gi R r + gi K a ≤ tb cl r a ∧ (gi ta r = (a : Int) → tb cl r a = gi R r + gi K a)) ∧ (gi K a ≠ 0 → ∃ r, r < i ∧ gi ta r = (a : Int))) ∧ ∃ q, wx = wA.drewN q)
      case atStart => exact ⟨0, Nat.zero_le _, rfl, rfl, (fun a ha => absurd ha (by omega)), dr_zero _⟩
      case round =>
        obtain ⟨k, hk, rfl, rfl, hall2, hq2⟩ := hrel
        have Hall2 := Lib.hid hall2; have Hq2 := Lib.hid hq2
        have g0 := (dr_cell hq2 ⟨g, 0, none⟩).trans f0'
        have g1 := (dr_cell hq2 ⟨g, 1, none⟩).trans f1'
        have g2 := (dr_cell hq2 ⟨g, 2, none⟩).trans f2'
        have hbw2 : Below w.heap.size w wr := by obtain ⟨q, rfl⟩ := hq2; exact below_drewN hbA q
        clear hall2 hq2
        by_cases hltk : k < n3
        · obtain ⟨bK, oK, xK, rfl, hbK, hxK, s1A⟩ := (HK.out.below (flat_lasts _) hbA (Nat.le_refl _) (Nat.le_refl _)).atI hltk
          have HxK := Lib.hid (gi_eq hxK)
          have s1 := (dr_cell Hq2.out ⟨bK, oK + k, none⟩).trans s1A
          have hkk : (k : Int) < (n3 : Int) := by omega
          have hk0 : (0 : Int) ≤ (k : Int) := by omega
          clear hxK
          go_wp2_with fail
          refine (rin_any xK (-1099511627776) 0 _).mono ?_
          rintro e _ ⟨rfl, rfl⟩
          cases hin : inB (-1099511627776) 0 xK
          · have Hno := Lib.hid (HnoK.out k hltk (by rw [HxK.out]; have : ¬ (-1099511627776 ≤ xK ∧ xK ≤ 0) := fun h => by rw [inB_iff.2 h] at hin; cases hin
                                                     omega))
            clear hin
            go_wp2
            exact Hno.out _ hbw2
          have hinK := inB_iff.1 hin
          clear hin g0 g1 g2 s1
          go_wp2
          go_loopg [8, 9] i (fun gk u rv wx => ∃ (r : Nat) (bu : Bool), r ≤ i ∧ gk = i - r ∧ rv = .int .i64 r ∧ u = .bool bu ∧ UsedP ta k r bu ∧ (∀ a, a < r → gi R a + gi K k ≤ tb cl a k ∧ (gi ta a = (k : Int) → tb cl a k = gi R a + gi K k)) ∧ ∃ q, wx = wA.drewN q)
          case atStart => exact ⟨0, false, Nat.zero_le _, rfl, rfl, rfl, UsedP.zero, (fun a ha => absurd ha (by omega)), Hq2.out⟩
          case round =>
            obtain ⟨r, bu, hr, rfl, rfl, rfl, hU, hall3, hq3⟩ := hrel
            have Hall3 := Lib.hid hall3; have Hq3 := Lib.hid hq3; have HU := Lib.hid hU
            have g0 := (dr_cell hq3 ⟨g, 0, none⟩).trans f0'
            have g1 := (dr_cell hq3 ⟨g, 1, none⟩).trans f1'
            have g2 := (dr_cell hq3 ⟨g, 2, none⟩).trans f2'
            have s1 := (dr_cell hq3 ⟨bK, oK + k, none⟩).trans s1A
            have hbw3 : Below w.heap.size w wr := by obtain ⟨q, rfl⟩ := hq3; exact below_drewN hbA q
            clear hall3 hq3 hU
            by_cases hltr : r < i
            · have hrr : (r : Int) < (i : Int) := by omega
              have hr0 : (0 : Int) ≤ (r : Int) := by omega
              obtain ⟨b', off', Ai, ni, capi, xi, hA, hb1, hxi, c1A, ri⟩ := (Hl.out.below ii_lasts hbA (Nat.le_refl _) (Nat.le_refl _)).atII (k := r) hltr
              injection hA with hA; injection hA with hA1 hA2
              subst hA1 hA2
              have hcl := clAt_eq hxi
              have hni : n3 = ni := by have h5 := Hrow.out r hltr; rw [hcl] at h5; rw [← ri.len]; exact h5.symm
              subst hni
              have hcapi := ri.caps
              obtain ⟨bR, oR, xR, rfl, hbR, hxR, r1A⟩ := (HR.out.below (flat_lasts _) hbA (Nat.le_refl _) (Nat.le_refl _)).atI hltr
              obtain ⟨bT, oT, xT, rfl, hbT, hxT, r2A⟩ := (Ht.out.below (flat_lasts _) hbA (Nat.le_refl _) (Nat.le_refl _)).atI hltr
              obtain ⟨bc, oc, xc, rfl, hbc, hxc, s0A⟩ := ri.atI hltk
              have HxR := Lib.hid (gi_eq hxR); have HxT := Lib.hid (gi_eq hxT)
              have Hxc := Lib.hid (show tb cl r k = xc by rw [tb, hcl]; exact gi_eq hxc)
              have c1 := (dr_cell Hq3.out ⟨b, off + r, none⟩).trans c1A
              have r1 := (dr_cell Hq3.out ⟨bR, oR + r, none⟩).trans r1A
              have r2 := (dr_cell Hq3.out ⟨bT, oT + r, none⟩).trans r2A
              have s0 := (dr_cell Hq3.out ⟨bc, oc + k, none⟩).trans s0A
              have hRb := Hra.out r hltr
              rw [HxR.out] at hRb
              have hwrap : IntKind.i64.wrap (xR + xK) = xR + xK := IntWalk.i64_in _ (by omega)
              have heq : (xT == (k : Int)) = true ∨ (xT == (k : Int)) = false := by cases xT == (k : Int) <;> simp
              clear hxi hcl hxR hxT hxc c1A r1A r2A s0A
              cases bu
              · -- used = false
                by_cases a3 : xc < xR + xK
                · have ad3 : decide (xc < xR + xK) = true := by simpa using a3
                  have Hno := Lib.hid (HnoP.out r k hltr hltk (Or.inl (by rw [HxR.out, HxK.out, Hxc.out]; exact a3)))
                  rcases heq with ad4 | ad4
                  all_goals
                    go_wp2_with fail
                    go_quiet (fail)
                    go_wp2
                    refine Hno.out _ ?_
                    obtain ⟨qq0, hq0⟩ := Hq3.out
                    rw [hq0, World.drewN_drewN]
                    exact below_drewN hbA _
                have ad3 : decide (xc < xR + xK) = false := by simpa using a3
                by_cases a4 : xT = (k : Int)
                · have ad4 : (xT == (k : Int)) = true := by simp [a4]
                  by_cases a5 : xc = xR + xK
                  · have ad5 : (xc != xR + xK) = false := by simp [a5]
                    have Hgood := Lib.hid (show xR + xK ≤ xc ∧ (xT = (k : Int) → xc = xR + xK) from ⟨by omega, fun _ => a5⟩)
                    have Hus := Lib.hid (UsedP.yes (u := true) (r := r) (show gi ta r = (k : Int) by rw [HxT.out]; exact a4))
                    clear a3 a4 a5 heq
                    go_wp2_with fail
                    go_quiet (fail)
                    go_wp2
                    go_roundg (i - (r + 1))
                    case rel => exact ⟨r + 1, true, by omega, rfl, by go_num, rfl, Hus.out, (fun a ha => by
                      by_cases e : a = r
                      · subst e; rw [HxR.out, HxK.out, HxT.out, Hxc.out]; exact Hgood.out
                      · exact Hall3.out a (by omega)), dr_more Hq3.out _⟩
                    case measure => omega
                  · have ad5 : (xc != xR + xK) = true := by simp [a5]
                    have Hno := Lib.hid (HnoP.out r k hltr hltk (Or.inr ⟨by rw [HxT.out]; exact a4, by rw [HxR.out, HxK.out, Hxc.out]; exact a5⟩))
                    clear a3 a4 a5 heq
                    go_wp2_with fail
                    go_quiet (fail)
                    go_wp2
                    refine Hno.out _ ?_
                    obtain ⟨qq0, hq0⟩ := Hq3.out
                    rw [hq0, World.drewN_drewN]
                    exact below_drewN hbA _
                · have ad4 : (xT == (k : Int)) = false := by simp [a4]
                  have Hgood := Lib.hid (show xR + xK ≤ xc ∧ (xT = (k : Int) → xc = xR + xK) from ⟨by omega, fun e => absurd e a4⟩)
                  have Hus := Lib.hid (UsedP.no HU.out (show gi ta r ≠ (k : Int) by rw [HxT.out]; exact a4))
                  clear a3 a4 heq
                  go_wp2_with fail
                  go_quiet (fail)
                  go_wp2
                  go_roundg (i - (r + 1))
                  case rel => exact ⟨r + 1, false, by omega, rfl, by go_num, rfl, Hus.out, (fun a ha => by
                    by_cases e : a = r
                    · subst e; rw [HxR.out, HxK.out, HxT.out, Hxc.out]; exact Hgood.out
                    · exact Hall3.out a (by omega)), dr_more Hq3.out _⟩
                  case measure => omega
              · -- used = true
                by_cases a3 : xc < xR + xK
                · have ad3 : decide (xc < xR + xK) = true := by simpa using a3
                  have Hno := Lib.hid (HnoP.out r k hltr hltk (Or.inl (by rw [HxR.out, HxK.out, Hxc.out]; exact a3)))
                  go_wp2_with fail
                  go_quiet (fail)
                  go_wp2
                  refine Hno.out _ ?_
                  obtain ⟨qq0, hq0⟩ := Hq3.out
                  rw [hq0, World.drewN_drewN]
                  exact below_drewN hbA _
                have ad3 : decide (xc < xR + xK) = false := by simpa using a3
                by_cases a4 : xT = (k : Int)
                · have ad4 : (xT == (k : Int)) = true := by simp [a4]
                  by_cases a5 : xc = xR + xK
                  · have ad5 : (xc != xR + xK) = false := by simp [a5]
                    have Hgood := Lib.hid (show xR + xK ≤ xc ∧ (xT = (k : Int) → xc = xR + xK) from ⟨by omega, fun _ => a5⟩)
                    have Hus := Lib.hid (UsedP.yes (u := true) (r := r) (show gi ta r = (k : Int) by rw [HxT.out]; exact a4))
                    clear a3 a4 a5 heq
                    go_wp2_with fail
                    go_quiet (fail)
                    go_wp2
                    go_roundg (i - (r + 1))
                    case rel => exact ⟨r + 1, true, by omega, rfl, by go_num, rfl, Hus.out, (fun a ha => by
                      by_cases e : a = r
                      · subst e; rw [HxR.out, HxK.out, HxT.out, Hxc.out]; exact Hgood.out
                      · exact Hall3.out a (by omega)), dr_more Hq3.out _⟩
                    case measure => omega
                  · have ad5 : (xc != xR + xK) = true := by simp [a5]
                    have Hno := Lib.hid (HnoP.out r k hltr hltk (Or.inr ⟨by rw [HxT.out]; exact a4, by rw [HxR.out, HxK.out, Hxc.out]; exact a5⟩))
                    clear a3 a4 a5 heq
                    go_wp2_with fail
                    go_quiet (fail)
                    go_wp2
                    refine Hno.out _ ?_
                    obtain ⟨qq0, hq0⟩ := Hq3.out
                    rw [hq0, World.drewN_drewN]
                    exact below_drewN hbA _
                · have ad4 : (xT == (k : Int)) = false := by simp [a4]
                  have Hgood := Lib.hid (show xR + xK ≤ xc ∧ (xT = (k : Int) → xc = xR + xK) from ⟨by omega, fun e => absurd e a4⟩)
                  have Hus := Lib.hid (UsedP.stay HU.out)
                  clear a3 a4 heq
                  go_wp2_with fail
                  go_quiet (fail)
                  go_wp2
                  go_roundg (i - (r + 1))
                  case rel => exact ⟨r + 1, true, by omega, rfl, by go_num, rfl, Hus.out, (fun a ha => by
                    by_cases e : a = r
                    · subst e; rw [HxR.out, HxK.out, HxT.out, Hxc.out]; exact Hgood.out
                    · exact Hall3.out a (by omega)), dr_more Hq3.out _⟩
                  case measure => omega
            · have er : r = i := by omega
              subst er
              by_cases a1 : xK = 0
              · have ad1 : (xK != 0) = false := by simp [a1]
                have Hz := Lib.hid a1
                clear a1
                cases bu
                all_goals
                  go_wp2
                  go_roundg (n3 - (k + 1))
                  case rel => exact ⟨k + 1, by omega, rfl, by go_num, (fun a ha => by
                    by_cases e : a = k
                    · subst e; exact ⟨by rw [HxK.out]; exact hinK, Hall3.out, fun h0 => absurd (HxK.out.trans Hz.out) h0⟩
                    · exact Hall2.out a (by omega)), Hq3.out⟩
                  case measure => omega
              · have ad1 : (xK != 0) = true := by simp [a1]
                cases bu
                · have Hno := Lib.hid (HnoF.out k hltk (by rw [HxK.out]; exact a1) (fun j hj e => by have := HU.out.2 ⟨j, hj, e⟩; cases this))
                  clear a1
                  go_wp2
                  exact Hno.out _ hbw3
                · have Hu := Lib.hid (HU.out.1 rfl)
                  clear a1
                  go_wp2
                  go_roundg (n3 - (k + 1))
                  case rel => exact ⟨k + 1, by omega, rfl, by go_num, (fun a ha => by
                    by_cases e : a = k
                    · subst e; exact ⟨by rw [HxK.out]; exact hinK, Hall3.out, fun _ => Hu.out⟩
                    · exact Hall2.out a (by omega)), Hq3.out⟩
                  case measure => omega
        · have ek : k = n3 := by omega
          subst ek
          go_wp2
          exact Hyes.out Hra.out (fun a ha => (Hall2.out a ha).1) (fun a q ha hq => (Hall2.out q hq).2.1 a ha) (fun a ha => (Hall2.out a ha).2.2) _ hbw2
end Go.Proofs.Ytmcamadcoglodaa
