/- Walk over Regret of package idle. Conditions stand in the theorem. -/
import Derived.Test.YtmcamadcoglodaaQ11
import Derived.Test.YtmcamadcoglodaaI5
import Derived.Test.YtmcamadcoglodaaKq
namespace Go.Proofs.Ytmcamadcoglodaa
open Go.RowKit
set_option linter.unusedVariables false

/-- the costs that are high where an assignment goes -/
def worF (lo hi : List (List Int)) (ta : List Int) : Nat → Nat → Int := fun r k => if (k : Int) = gi ta r then tb hi r k else tb lo r k
def regC (lo hi : List (List Int)) (ta : List Int) : Bool := bndC lo hi && assC lo ta
def RegretYes (m n : Nat) (lo hi : List (List Int)) (ta : List Int) (r : Int) : Prop := ∃ T : Nat → Nat, As m n T ∧ (∀ F, As m n F → costF m (worF lo hi ta) T ≤ costF m (worF lo hi ta) F) ∧ r = sumN (fun i => worF lo hi ta i (gi ta i).toNat) m - costF m (worF lo hi ta) T
def RegretPost (w : World) (lo hi : List (List Int)) (ta : List Int) (e : Ending) (w' : World) : Prop :=
  ∃ r er : Int, e = .returned (.tuple #[.int .i64 r, .int .i64 er]) ∧ Below w.heap.size w w' ∧ ((regC lo hi ta = false ∧ r = 0 ∧ er = 1) ∨ (regC lo hi ta = true ∧ er = 0 ∧ RegretYes lo.length (wid lo) lo hi ta r))
set_option maxRecDepth 100000 in
set_option maxHeartbeats 2000000 in
theorem regret_any (A A2 A3 : Option Addr) (n cap n2 cap2 n3 cap3 : Nat) (lo hi : List (List Int)) (ta : List Int) (w : World) (hl : RdII w w.heap.size A n cap lo) (ht : RdII w w.heap.size A2 n2 cap2 hi) (hto : RdI w w.heap.size A3 n3 cap3 ta) :
    Calls Try.prog 16 #[.slice A n cap, .slice A2 n2 cap2, .slice A3 n3 cap3] w (RegretPost w lo hi ta) := by
  have hcaps := hl.caps
  have hlen := hl.len
  have hcaps2 := ht.caps
  have hlen2 := ht.len
  obtain ⟨ι, f, hne, hfw, hfb, hfc⟩ := cls_of w w.heap.size w (Below.refl _ _)
  have Hfc := Lib.hid hfc; have Hfb := Lib.hid hfb; have Hfw := Lib.hid hfw
  have Hr1 := Lib.hid (fun q => (right_any A n cap lo (f q) (hl.below ii_lasts (hfb q) (Nat.le_refl _) (hfb q).size)).mono fun e w'' ⟨he, h⟩ => (⟨he, hfc _ ((hfb q).trans (h.mono (hfb q).size))⟩ : e = Ending.returned (.bool (rightC lo)) ∧ ∃ s, w'' = f s))
  have Hr2 := Lib.hid (fun q => (right_any A2 n2 cap2 hi (f q) (ht.below ii_lasts (hfb q) (Nat.le_refl _) (hfb q).size)).mono fun e w'' ⟨he, h⟩ => (⟨he, hfc _ ((hfb q).trans (h.mono (hfb q).size))⟩ : e = Ending.returned (.bool (rightC hi)) ∧ ∃ s, w'' = f s))
  have Ha := Lib.hid (fun q => (assigns_any A A3 n cap n3 cap3 lo ta (f q) (hl.below ii_lasts (hfb q) (Nat.le_refl _) (hfb q).size) (hto.below (flat_lasts _) (hfb q) (Nat.le_refl _) (hfb q).size)).mono fun e w'' ⟨he, h⟩ => (⟨he, q, h.symm⟩ : e = Ending.returned (.bool (assC lo ta)) ∧ ∃ s, w'' = f s))
  have hfail : regC lo hi ta = false → ∀ w', Below w.heap.size w w' → RegretPost w lo hi ta (.returned (.tuple #[.int .i64 0, .int .i64 1])) w' := fun h w' hb => ⟨0, 1, rfl, hb, Or.inl ⟨h, rfl, rfl⟩⟩
  clear hfc hfb hfw
  cases h1 : rightC lo
  · have hF : regC lo hi ta = false := by rw [regC, bndC, h1]; rfl
    have Hfail := Lib.hid (hfail hF)
    rw [h1] at Hr1
    clear hF h1 hlen hlen2 hfail
    generalize RegretPost w lo hi ta = Q at *
    go_enter Try.func16, Try.ntmps16
    go_wp2_with fail
    refine wp_region_cls (C := fun w' => ∃ n, w' = f n) (by kernel_rfl) (by kernel_rfl) Hfw.out ?_
    repeat (first
      | go_big_quiet_skip
      | (go_big_quiet_want; go_big_quiet_op; first | go_big_quiet_on | go_big_quiet_call ((go_at_call 11; first | with_reducible exact Hr1.out _ | with_reducible exact Hr2.out _))))
    refine wpQuiet_nil ?_
    rintro _ ⟨nq, rfl⟩
    go_wp2
    exact Hfail.out _ (Hfb.out nq)
  cases h2 : rightC hi
  · have hF : regC lo hi ta = false := by rw [regC, bndC, h1, h2]; rfl
    have Hfail := Lib.hid (hfail hF)
    rw [h1] at Hr1
    rw [h2] at Hr2
    clear hF h1 h2 hlen hlen2 hfail
    generalize RegretPost w lo hi ta = Q at *
    go_enter Try.func16, Try.ntmps16
    go_wp2_with fail
    refine wp_region_cls (C := fun w' => ∃ n, w' = f n) (by kernel_rfl) (by kernel_rfl) Hfw.out ?_
    repeat (first
      | go_big_quiet_skip
      | (go_big_quiet_want; go_big_quiet_op; first | go_big_quiet_on | go_big_quiet_call ((go_at_call 11; first | with_reducible exact Hr1.out _ | with_reducible exact Hr2.out _))))
    refine wpQuiet_nil ?_
    rintro _ ⟨nq, rfl⟩
    go_wp2
    exact Hfail.out _ (Hfb.out nq)
  have hB : bndC lo hi = (decide (lo.length = hi.length ∧ wid lo = wid hi) && leC lo hi) := by rw [bndC, h1, h2, Bool.true_and, Bool.true_and]
  obtain ⟨⟨n1, n20⟩, ⟨w1, w40⟩, hrow⟩ := rightC_iff.1 h1
  obtain ⟨⟨m1, m20⟩, ⟨v1, v40⟩, hrow2⟩ := rightC_iff.1 h2
  rw [hlen] at n1 n20 w1
  rw [hlen2] at m1 m20 v1
  rw [h1] at Hr1
  rw [h2] at Hr2
  obtain ⟨b, off, A0, n0, cap0, x0, rfl, hbB, hx0, c0, r0⟩ := hl.atII (k := 0) (by omega)
  obtain ⟨b', off', A0', n0', cap0', x0', rfl, hbB', hx0', c0', r0'⟩ := ht.atII (k := 0) (by omega)
  have hw0 : wid lo = n0 := by rw [wid, clAt_eq hx0]; exact r0.len
  have hw0' : wid hi = n0' := by rw [wid, clAt_eq hx0']; exact r0'.len
  have hcap0 := r0.caps
  have hcap0' := r0'.caps
  have hn0 : (0 : Int) < (n : Int) := by omega
  have hn00 : 0 < n := by omega
  have hm0 : (0 : Int) < (n2 : Int) := by omega
  have hm00 : 0 < n2 := by omega
  rw [Nat.add_zero] at c0 c0'
  have d0 : ∀ q, (f q).cell? ⟨b, off, none⟩ = some (.slice A0 n0 cap0) := fun q => ((Hfb.out q).cell (p := ⟨b, off, none⟩) hbB).trans c0
  have d0' : ∀ q, (f q).cell? ⟨b', off', none⟩ = some (.slice A0' n0' cap0') := fun q => ((Hfb.out q).cell (p := ⟨b', off', none⟩) hbB').trans c0'
  by_cases hnn : n = n2
  case neg =>
    have hF : regC lo hi ta = false := by rw [regC, hB, decide_eq_false (by omega), Bool.false_and, Bool.false_and]
    have Hfail := Lib.hid (hfail hF)
    have hne2 : ((n : Int) != (n2 : Int)) = true := by simp; omega
    clear hF h1 h2 hB hx0 hx0' hw0 hw0' hrow hrow2 hlen hlen2 hnn hfail
    generalize RegretPost w lo hi ta = Q at *
    go_enter Try.func16, Try.ntmps16
    go_wp2_with fail
    refine wp_region_cls (C := fun w' => ∃ n, w' = f n) (by kernel_rfl) (by kernel_rfl) Hfw.out ?_
    repeat (first
      | go_big_quiet_skip
      | (go_big_quiet_want; go_big_quiet_op; first | go_big_quiet_on | go_big_quiet_call ((first | (go_at_call 11; first | with_reducible exact Hr1.out _ | with_reducible exact Hr2.out _) | (go_at_call 39; exact Ha.out _)))))
    refine wpQuiet_nil ?_
    rintro _ ⟨nq, rfl⟩
    go_wp2
    exact Hfail.out _ (Hfb.out nq)
  subst hnn
  have hnn : ((n : Int) != (n : Int)) = false := by simp
  by_cases hww : n0 = n0'
  case neg =>
    have hF : regC lo hi ta = false := by rw [regC, hB, decide_eq_false (by omega), Bool.false_and, Bool.false_and]
    have Hfail := Lib.hid (hfail hF)
    have hne2 : ((n0 : Int) != (n0' : Int)) = true := by simp; omega
    clear hF h1 h2 hB hx0 hx0' hw0 hw0' hrow hrow2 hlen hlen2 hww hfail
    generalize RegretPost w lo hi ta = Q at *
    go_enter Try.func16, Try.ntmps16
    go_wp2_with fail
    refine wp_region_cls (C := fun w' => ∃ n, w' = f n) (by kernel_rfl) (by kernel_rfl) Hfw.out ?_
    repeat (first
      | go_big_quiet_skip
      | (go_big_quiet_want; go_big_quiet_op; first | go_big_quiet_on | go_big_quiet_call ((first | (go_at_call 11; first | with_reducible exact Hr1.out _ | with_reducible exact Hr2.out _) | (go_at_call 39; exact Ha.out _)))))
    refine wpQuiet_nil ?_
    rintro _ ⟨nq, rfl⟩
    go_wp2
    exact Hfail.out _ (Hfb.out nq)
  subst hww
  have hww : ((n0 : Int) != (n0 : Int)) = false := by simp
  have hT : bndC lo hi = leC lo hi := by rw [hB, decide_eq_true (by omega), Bool.true_and]
  cases h3 : assC lo ta
  · have hF : regC lo hi ta = false := by rw [regC, h3, Bool.and_false]
    have Hfail := Lib.hid (hfail hF)
    rw [h3] at Ha
    clear hF h1 h2 h3 hB hT hx0 hx0' hw0 hw0' hrow hrow2 hlen hlen2 hfail
    generalize RegretPost w lo hi ta = Q at *
    go_enter Try.func16, Try.ntmps16
    go_wp2_with fail
    refine wp_region_cls (C := fun w' => ∃ n, w' = f n) (by kernel_rfl) (by kernel_rfl) Hfw.out ?_
    repeat (first
      | go_big_quiet_skip
      | (go_big_quiet_want; go_big_quiet_op; first | go_big_quiet_on | go_big_quiet_call ((first | (go_at_call 11; first | with_reducible exact Hr1.out _ | with_reducible exact Hr2.out _) | (go_at_call 39; exact Ha.out _)))))
    refine wpQuiet_nil ?_
    rintro _ ⟨nq, rfl⟩
    go_wp2
    exact Hfail.out _ (Hfb.out nq)
  rw [h3] at Ha
  have hreg : regC lo hi ta = leC lo hi := by rw [regC, hT, h3, Bool.and_true]
  obtain ⟨t1, t2⟩ := assC_iff.1 h3
  have htn : ∀ r, r < n → ∃ q : Nat, gi ta r = (q : Int) ∧ q < n0 := fun r hr => by
    have h4 := inB_iff.1 (okA_iff.1 (t2 r (by omega))).1
    exact ⟨(gi ta r).toNat, by omega, by omega⟩
  obtain ⟨tN, htN⟩ : ∃ tN : Nat → Nat, tN = fun r => (gi ta r).toNat := ⟨_, rfl⟩
  have htN1 : ∀ r, r < n → gi ta r = ((tN r : Nat) : Int) ∧ tN r < n0 := fun r hr => by
    obtain ⟨q, hq1, hq2⟩ := htn r hr
    rw [htN]
    simp only [hq1]
    omega
  have htl : ta = ofF n (fun r => ((tN r : Nat) : Int)) := by
    rw [list_gi (l := ta) (n := n) (by omega)]
    exact ofF_congr fun r hr => (htN1 r hr).1
  have hn3 : n3 = n := by rw [← hto.len]; omega
  subst hn3
  have n0b : n3 ≤ n0 ∧ n0 ≤ 40 ∧ 1 ≤ n3 ∧ n3 ≤ 20 := by omega
  have hok : leC lo hi = true → ∀ r w', Below w.heap.size w w' → RegretYes n3 n0 lo hi ta r → RegretPost w lo hi ta (.returned (.tuple #[.int .i64 r, .int .i64 0])) w' := fun h r w' hb hy => ⟨r, 0, rfl, hb, Or.inr ⟨by rw [hreg, h], rfl, by rw [hlen, hw0]; exact hy⟩⟩
  have Hok := Lib.hid hok
  have Hbad := Lib.hid (fun h : leC lo hi = false => hfail (by rw [hreg, h]))
  have HF : RowKit.Hid (∀ i k, i < n3 → k < n0 → ¬ tb lo i k ≤ tb hi i k → leC lo hi = false) := Lib.hid fun i k h3 h4 h5 => by
    cases hr : leC lo hi
    · rfl
    · exact absurd (leC_iff.1 hr i (by omega) k (by omega)) h5
  have HT : RowKit.Hid ((∀ i, i < n3 → ∀ k, k < n0 → tb lo i k ≤ tb hi i k) → leC lo hi = true) := Lib.hid fun h => leC_iff.2 (by rw [hlen, hw0]; exact h)
  have Hrl : RowKit.Hid (∀ i, i < n3 → (clAt lo i).length = n0 ∧ (clAt hi i).length = n0) := Lib.hid fun i h => ⟨by rw [(rowC_iff.1 (hrow i (by omega))).1, hw0], by rw [(rowC_iff.1 (hrow2 i (by omega))).1, hw0']⟩
  have hWb : ∀ r k, r < n3 → k < n0 → 0 ≤ worF lo hi ta r k ∧ worF lo hi ta r k ≤ 1000000000 := fun r k hr hk => by
    have h5 := inB_iff.1 ((rowC_iff.1 (hrow r (by omega))).2 k (by omega))
    have h6 := inB_iff.1 ((rowC_iff.1 (hrow2 r (by omega))).2 k (by omega))
    unfold worF
    split
    · exact h6
    · exact h5
  have HWb := Lib.hid hWb; have HtN := Lib.hid htN1; have Htl := Lib.hid htl
  have hyes : ∀ T r, As n3 n0 T → (∀ F, As n3 n0 F → costF n3 (worF lo hi ta) T ≤ costF n3 (worF lo hi ta) F) → r = costF n3 (worF lo hi ta) tN - costF n3 (worF lo hi ta) T → RegretYes n3 n0 lo hi ta r := fun T r h1 h2 h3 => ⟨T, h1, h2, by rw [h3, htN]; rfl⟩
  have Hyes := Lib.hid hyes
  obtain ⟨W, hW⟩ : ∃ W, W = worF lo hi ta := ⟨_, rfl⟩
  have HWe := Lib.hid (fun r k (hr : r < n3) => (show W r k = if k = tN r then tb hi r k else tb lo r k by
    rw [hW]
    unfold worF
    rw [(htN1 r hr).1]
    by_cases e : k = tN r
    · rw [if_pos e, if_pos (by omega)]
    · rw [if_neg e, if_neg (by omega)]))
  rw [← hW] at HWb Hyes
  have Hl := Lib.hid hl; have Hh := Lib.hid ht; have Hto := Lib.hid hto
  have hcap3 := hto.caps
  clear hT hreg h1 h2 h3 hB hx0 hx0' hw0 hw0' hrow hrow2 hlen hlen2 hfail hok htn htN htN1 htl hWb hyes t1 t2 hW hl ht hto
  generalize RegretPost w lo hi ta = Q at *
  go_enter Try.func16, Try.ntmps16
  go_wp2_with fail
  refine wp_region_cls (C := fun w' => ∃ n, w' = f n) (by kernel_rfl) (by kernel_rfl) Hfw.out ?_
  repeat (first
    | go_big_quiet_skip
    | (go_big_quiet_want; go_big_quiet_op; first | go_big_quiet_on | go_big_quiet_call ((first | (go_at_call 11; first | with_reducible exact Hr1.out _ | with_reducible exact Hr2.out _) | (go_at_call 39; exact Ha.out _)))))
  refine wpQuiet_nil ?_
  rintro _ ⟨nq, rfl⟩
  have hbA := Hfb.out nq
  generalize f nq = wA at *
  clear d0 d0' Hr1 Hr2 Ha Hfw Hfc Hfb hne
  have hmk := run_make_row' (P := Try.prog) 22 23 (.slice none 0 0) 24 Try.underlying22 rows_info rfl .i64 .i64 n3 (by omega) (by omega)
  have hf0 : Fx (wA.alloc (.cells (madeCells #[.slice none 0 0] n3) 23)) wA.heap.size n3 n0 0 wA.heap.size (fun _ => 0) (fun _ => 0) W := ⟨by
    have := Own.madeQ (n := n3) (e := 23) (base := wA.heap.size) (H := wA.heap.size) rfl rfl (Nat.le_refl _) (by omega)
    simpa using this, fun i hi => absurd hi (by omega), fun i j hi => absurd hi (by omega), fun i hi => absurd hi (by omega)⟩
  have hbF := (Below.refl wA.heap.size wA).alloc (Nat.le_refl _) (.cells (madeCells #[.slice none 0 0] n3) 23)
  have hclone := Lib.hid (fun A n cap l w hl hn hn2 => clone_any A n cap l w hl hn hn2)
  go_wp2_with fail
  generalize wA.alloc (.cells (madeCells #[.slice none 0 0] n3) 23) = w4 at *
  obtain ⟨h, hh⟩ : ∃ g, g = wA.heap.size := ⟨_, rfl⟩
  rw [← hh] at hf0 hbF ⊢
  have Hhh := Lib.hid hh
  clear hmk hh
  go_loopg [48] n3 (fun gk iv wx => ∃ (i : Nat) (rows caps : Nat → Nat) (D : Nat → Nat → Int), i ≤ n3 ∧ gk = n3 - i ∧ iv = .int .i64 i ∧ Fx wx h n3 n0 i h rows caps D ∧ (∀ r k, r < i → k < n0 → D r k = W r k) ∧ (∀ a, a < i → ∀ k, k < n0 → tb lo a k ≤ tb hi a k) ∧ Below h wA wx)
  case atStart => exact ⟨0, _, _, _, Nat.zero_le _, rfl, rfl, hf0, (fun r k hr => absurd hr (by omega)), (fun a ha => absurd ha (by omega)), hbF⟩
  case round =>
    clear hf0 hbF
    obtain ⟨i, rows, caps, D, hi', rfl, rfl, hfx, hDe, hall, hb⟩ := hrel
    have HDe := Lib.hid hDe; have Hall := Lib.hid hall
    clear hDe hall
    have hbw : Below w.heap.size w wr := hbA.trans (hb.mono (by rw [Hhh.out]; exact hbA.size))
    obtain ⟨wo, hwo⟩ : ∃ wo, wo = wr := ⟨wr, rfl⟩
    subst hwo
    by_cases hlt : i < n3
    · obtain ⟨l1, l2⟩ := Hrl.out i hlt
      obtain ⟨bl1, ol1, Ai, ni, capi, xi, hA, hb1, hxi, d0, ri⟩ := (Hl.out.below ii_lasts hbw (Nat.le_refl _) (Nat.le_refl _)).atII (k := i) hlt
      injection hA with hA; injection hA with hA1 hA2
      subst hA1 hA2
      obtain ⟨bl2, ol2, Bi, mi, capj, yi, hA, hb2, hyi, e0, rj⟩ := (Hh.out.below ii_lasts hbw (Nat.le_refl _) (Nat.le_refl _)).atII (k := i) hlt
      injection hA with hA; injection hA with hA1 hA2
      subst hA1 hA2
      have hci := clAt_eq hxi
      have hcj := clAt_eq hyi
      have hli := ri.len
      have hlj := rj.len
      rw [hci, hli] at l1
      rw [hcj, hlj] at l2
      subst l1; subst l2
      have hcapi := ri.caps
      have hcapj := rj.caps
      have hii : (i : Int) < (n3 : Int) := by omega
      have hi0 : (0 : Int) ≤ (i : Int) := by omega
      have Hci := Lib.hid hci; have Hcj := Lib.hid hcj
      have Hxe := Lib.hid (list_gi hli)
      clear hci hcj hxi hyi hli hlj
      go_wp2_with fail
      go_loopg [56] mi (fun gk k wr2 => ∃ k' : Nat, k' ≤ mi ∧ gk = mi - k' ∧ k = .int .i64 k' ∧ (∀ a, a < k' → tb lo i a ≤ tb hi i a) ∧ ∃ q, wr2 = wo.drewN q)
      case atStart => exact ⟨0, Nat.zero_le _, rfl, rfl, (fun a h => absurd h (by omega)), dr_zero _⟩
      case round =>
        obtain ⟨k, hk, rfl, rfl, hall2, hq2⟩ := hrel
        have Hall2 := Lib.hid hall2; have Hq2 := Lib.hid hq2
        clear hall2 hq2
        have d0' := (dr_cell Hq2.out ⟨b, off + i, none⟩).trans d0
        have e0' := (dr_cell Hq2.out ⟨b', off' + i, none⟩).trans e0
        by_cases hlt2 : k < mi
        · obtain ⟨b3, o3, x, rfl, hb3, hx, f0⟩ := ri.atI hlt2
          obtain ⟨b4, o4, y, rfl, hb4, hy, g0⟩ := rj.atI hlt2
          have Hx := Lib.hid (show tb lo i k = x by rw [tb, Hci.out]; exact gi_eq hx)
          have Hy := Lib.hid (show tb hi i k = y by rw [tb, Hcj.out]; exact gi_eq hy)
          have f0' := (dr_cell Hq2.out ⟨b3, o3 + k, none⟩).trans f0
          have g0' := (dr_cell Hq2.out ⟨b4, o4 + k, none⟩).trans g0
          have hki : (k : Int) < (mi : Int) := by omega
          have hk0 : (0 : Int) ≤ (k : Int) := by omega
          clear hx hy
          by_cases hyx : y < x
          · have hd : decide (y < x) = true := by simpa using hyx
            have HFF := Lib.hid (HF.out i k hlt hlt2 (by rw [Hx.out, Hy.out]; omega))
            clear hyx
            go_wp2_with fail
            go_quiet (fail)
            go_wp2
            refine Hbad.out HFF.out _ ?_
            obtain ⟨qq0, hq0⟩ := Hq2.out
            rw [hq0, World.drewN_drewN]
            exact below_drewN hbw _
          · have hd : decide (y < x) = false := by simpa using hyx
            go_wp2_with fail
            go_quiet (fail)
            go_wp2
            go_roundg (mi - (k + 1))
            case rel => exact ⟨k + 1, by omega, rfl, by go_num, (fun a ha => by
              by_cases e : a = k
              · subst e; rw [Hx.out, Hy.out]; omega
              · exact Hall2.out a (by omega)), dr_more Hq2.out _⟩
            case measure => omega
        · have ee : k = mi := by omega
          subst ee
          obtain ⟨qq, rfl⟩ := Hq2.out
          have hfx5 := Fx.drewN hfx qq
          have hb5 : Below h wA (wo.drewN qq) := below_drewN hb qq
          have hbw5 := below_drewN hbw qq
          have ri5 : RdI (wo.drewN qq) (wo.drewN qq).heap.size Ai k capi xi := (Rd.drewN (flat_lasts _) ri qq).keep (flat_lasts _) (by have := hbw5.size; exact this) (fun _ _ => rfl)
          have rj5 := Rd.drewN (flat_lasts _) rj qq
          have d05 : (wo.drewN qq).cell? ⟨b, off + i, none⟩ = some (.slice Ai k capi) := d0
          have e05 : (wo.drewN qq).cell? ⟨b', off' + i, none⟩ = some (.slice Bi k capj) := e0
          clear hfx hb hbw ri rj d0 e0 d0' e0'
          generalize wo.drewN qq = w5 at *
          have d5 := ((Hl.out.below ii_lasts hbw5 (Nat.le_refl _) (Nat.le_refl _)).atII (k := i) hlt)
          obtain ⟨⟨u5, s50⟩, s51⟩ := hfx5.spot (i := i) hlt
          clear d5
          go_wp2_with fail
          refine (hclone.out _ k capi _ w5 ri5 (by omega) (by omega)).mono ?_
          rintro e w6 ⟨g6, c6, rfl, ho6, hb6⟩
          rw [Hxe.out] at ho6
          obtain ⟨⟨u6, s60⟩, s61⟩ := (hfx5.below hb6).spot (i := i) hlt
          have hf6 := hfx5.next hlt hb6 ho6 (Nat.le_trans hfx5.hlt.1 (Nat.le_of_lt hfx5.hlt.2))
          have hb7 : Below h wA (w6.setCell ⟨h, i, none⟩ (.slice (some ⟨g6, 0, none⟩) k c6)) := (hb5.trans (hb6.mono (Nat.le_of_lt hfx5.hlt.2))).setCell (Nat.le_refl _) _
          clear hfx5 ho6 hb6 d05 e05 s50 s51 hb5 hbw5 ri5
          go_wp2_with (first
            | (refine wpList_st0 rfl rfl _ _ _ rfl ⟨h, i, none⟩ (.slice (some ⟨g6, 0, none⟩) k c6) rfl rfl rfl rows_size s60 s61 ?_
               intro w7 hw7
               rw [← hw7] at hf6 hb7
               clear hw7 s60 s61))
          have hbw7 : Below w.heap.size w w7 := hbA.trans (hb7.mono (by rw [Hhh.out]; exact hbA.size))
          obtain ⟨bq2, oq2, Bq, mq, capq, yq, hA, hbq2, hyq, e0, rj⟩ := (Hh.out.below ii_lasts hbw7 (Nat.le_refl _) (Nat.le_refl _)).atII (k := i) hlt
          injection hA with hA; injection hA with hA1 hA2
          subst hA1 hA2
          have hyy : clAt hi i = yq := clAt_eq hyq
          have hmq : mq = k := by
            have h1 := rj.len
            have h2 := (Hrl.out i hlt).2
            rw [hyy] at h2
            omega
          subst hmq
          obtain ⟨bt, ot, xt, hA3, hbt, hxt, t0⟩ := (Hto.out.below (flat_lasts _) hbw7 (Nat.le_refl _) (Nat.le_refl _)).atI hlt
          subst hA3
          have hxt2 : xt = ((tN i : Nat) : Int) := by rw [← gi_eq hxt]; exact (HtN.out i hlt).1
          subst hxt2
          have htm := (HtN.out i hlt).2
          obtain ⟨by', oy, yv, hA4, hby, hyv, y0⟩ := rj.atI htm
          subst hA4
          have Hyv := Lib.hid (show tb hi i (tN i) = yv by rw [tb, hyy]; exact gi_eq hyv)
          have hrow6 := hf6.row i (by omega)
          have hhd := hf6.head (i := i) (by omega) hlt
          have hcap6 := hrow6.capOf (by rw [ofF_len]; omega)
          simp only [if_true] at hrow6 hhd hcap6
          obtain ⟨z0, z1⟩ := hrow6.cellI htm
          have ht0 : (0 : Int) ≤ ((tN i : Nat) : Int) := by omega
          have ht1 : ((tN i : Nat) : Int) < (mq : Int) := by omega
          have hcapy := rj.caps
          obtain ⟨t, htt⟩ : ∃ t, t = tN i := ⟨_, rfl⟩
          rw [← htt] at t0 htm y0 z0 z1 ht0 ht1 Hyv
          have Htt := Lib.hid htt
          clear hyq hyy hxt hyv rj htt
          go_wp2_with fail
          go_still_tail 19, (by kernel_rfl)
          change wpList _ _ _ _ _ w7.drew
          refine wpList_st0 (w := w7.drew) rfl rfl _ _ _ rfl ⟨g6, t, none⟩ (.int .i64 yv) rfl rfl rfl int_size z0 z1 ?_
          intro w8 hw8
          have hrow8 := (Own.drew hrow6).setI (i := t) htm yv
          have hk8 : Kept (fun b => b = g6) w7.drew w8 := by rw [hw8]; exact (grown_kept (grown_set _ g6 t _)).mono (fun b _ e => by injection e with e; exact e.symm)
          rw [← hw8] at hrow8
          have hf8 := Fx.turn (w := w7.drew) (w' := w8) (Fx.drew hf6) (i := i) (f := fun j => if j = t then yv else updR D i (gi xi) i j) (by omega) (by simp only [if_true]; exact hk8) (by simp only [if_true]; exact hrow8)
          have hb8 : Below h wA w8 := by rw [hw8]; exact hb7.drew.setCell (by have := (hrow6.lt g6 rfl).1; exact this) _
          have hDe8 : ∀ r q, r < i + 1 → q < mq → updR (updR D i (gi xi)) i (fun j => if j = t then yv else updR D i (gi xi) i j) r q = W r q := fun r q hr hq => by
            rw [HWe.out r q (by omega)]
            unfold updR
            by_cases e : r = i
            · subst e
              simp only [if_true]
              rw [← Htt.out]
              by_cases e2 : q = t
              · subst e2
                rw [if_pos rfl, if_pos rfl, Hyv.out]
              · rw [if_neg e2, if_neg e2, tb, Hci.out]
            · simp only [if_neg e]
              rw [HDe.out r q (by omega) hq, HWe.out r q (by omega)]
          have HDe8 := Lib.hid hDe8
          clear hDe8 hw8 hrow8 hk8 hf6 hb7 hbw7 z0 z1 t0 y0 e0 hhd hrow6
          go_wp2
          go_roundg (n3 - (i + 1))
          case rel => exact ⟨i + 1, _, _, _, by omega, rfl, by go_num, hf8, HDe8.out, (fun a ha => by
            by_cases e : a = i
            · subst e; exact Hall2.out
            · exact Hall.out a (by omega)), hb8⟩
          case measure => omega
    · have ei : n3 = i := by omega
      subst ei
      have hleq := HT.out Hall.out
      have hfW : Fx wo h n3 n0 n3 h rows caps W := hfx.congr fun r k hr hk => HDe.out r k hr hk
      have htab := tabL_tab (m := n3) (n := n0) (M := 1000000000) HWb.out (by omega) (by omega)
      have hrd := hfW.rd (by omega) (by omega) (by omega)
      have hto5 := Hto.out.below (flat_lasts _) hbw (Nat.le_refl _) hbw.size
      rw [Htl.out] at hto5
      have hs1 := tab_sums htab HWb.out (T := tN) (fun r hr => (HtN.out r hr).2)
      have hc1 := tab_costT (n := n0) (D := W) (T := tN) (fun r hr => (HtN.out r hr).2) n3 (Nat.le_refl _)
      have hc1' : costT (tabL n3 n0 W) (ofF n3 (fun r => ((tN r : Nat) : Int))) n3 = costF n3 W tN := hc1
      have Hc1 := Lib.hid hc1'; have Hs1 := Lib.hid hs1; have Htab := Lib.hid htab
      have hbd1 := sumN_bd (M := 1000000000) (by omega) n3 (fun r hr => HWb.out r (tN r) hr (HtN.out r hr).2)
      have hbd1' : 0 ≤ costF n3 W tN ∧ costF n3 W tN ≤ (n3 : Int) * 1000000000 := hbd1
      clear hs1 hc1 hc1' htab hbd1 hfx
      go_wp2_with fail
      refine (cost_any _ A3 n3 n3 n3 cap3 _ _ wo hrd hto5 Hs1.out).mono ?_
      rw [Hc1.out]
      rintro e _ ⟨rfl, rfl⟩
      obtain ⟨C1, hC1⟩ : ∃ C, C = costF n3 W tN := ⟨_, rfl⟩
      rw [← hC1] at hbd1' ⊢
      have HC1 := Lib.hid hC1
      clear hC1
      go_wp2_with fail
      refine (prices_any _ n3 _ n3 n0 1000000000 wo hrd Htab.out).mono ?_
      intro e w3 hp3
      obtain ⟨T, R, K, gT, g2, g3, rfl, hT, rR, rK, hce, hRb, hKb, hb3⟩ := hp3
      have hce' := hce.congr (fun r q hr hq => tabL_at hr hq)
      have Hce := Lib.hid hce'
      have hf3 := hfW.below hb3
      have hr3 := hf3.rd (by omega) (by omega) (by omega)
      obtain ⟨A4, cc4, hv4, r4⟩ := hT.rd iSized (by rw [ofF_len]; omega)
      rw [ofF_len] at hv4 r4
      injection hv4 with v1 v2 v3
      subst v1 v3
      have hc2 := tab_costT (n := n0) (D := W) (T := T) (fun r hr => hce'.1.1 r hr) n3 (Nat.le_refl _)
      have hc2' : costT (tabL n3 n0 W) (ofF n3 (fun r => ((T r : Nat) : Int))) n3 = costF n3 W T := hc2
      have Hc2 := Lib.hid hc2'
      have Hs2 := Lib.hid (tab_sums Htab.out HWb.out (fun r hr => hce'.1.1 r hr))
      have hbd2 := sumN_bd (M := 1000000000) (by omega) n3 (fun r hr => HWb.out r (T r) hr (hce'.1.1 r hr))
      have hbd2' : 0 ≤ costF n3 W T ∧ costF n3 W T ≤ (n3 : Int) * 1000000000 := hbd2
      have hfield := fun w => field_to w (.slice (some ⟨gT, 0, none⟩) n3 n3) (.slice (some ⟨g2, 1, none⟩) n3 n3) (.slice (some ⟨g3, 1, none⟩) n0 n0)
      have hbw3 := hbw.trans (hb3.mono hbw.size)
      clear hce hce' hc2 hc2' hRb hKb rR rK hrd v2 hbd2
      go_wp2_with fail
      refine (cost_any _ _ n3 n3 n3 n3 _ _ w3 hr3 r4 Hs2.out).mono ?_
      rw [Hc2.out]
      rintro e _ ⟨rfl, rfl⟩
      obtain ⟨C2, hC2⟩ : ∃ C, C = costF n3 W T := ⟨_, rfl⟩
      rw [← hC2] at hbd2' ⊢
      have HC2 := Lib.hid hC2
      have hwr : IntKind.i64.wrap (C1 - C2) = C1 - C2 := IntWalk.i64_in _ (by omega)
      have Hle := Lib.hid hleq
      clear hC2 hleq
      go_wp2
      exact Hok.out Hle.out _ _ hbw3 (Hyes.out T _ Hce.out.1 (fun F hF => Hce.out.least hF) (by rw [HC1.out, HC2.out]))
end Go.Proofs.Ytmcamadcoglodaa
