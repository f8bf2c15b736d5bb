/- Walk over the statement IdleRegret. Conditions stand in the theorem. -/
import Derived.Test.YtmcamadcoglodaaS7
import Derived.Test.YtmcamadcoglodaaOps
namespace Go.Proofs.Ytmcamadcoglodaa
open Go.RowKit
set_option linter.unusedVariables false

theorem Btw.nil {n : Nat} {lo hi : List (List Int)} : Btw 0 n lo hi [] := ⟨rfl, fun i hi => absurd hi (by omega)⟩
theorem Btw.next {j n : Nat} {lo hi L : List (List Int)} {f : Nat → Int} (h : Btw j n lo hi L) (hf : ∀ q, q < n → tb lo j q ≤ f q ∧ f q ≤ tb hi j q) : Btw (j + 1) n lo hi (L ++ [ofF n f]) := by
  have hl := h.1
  refine ⟨by rw [List.length_append, hl]; rfl, fun i hi => ?_⟩
  have hc := clAt_app L (ofF n f) (k := i) (by rw [List.length_append, hl]; exact hi)
  by_cases e : i < j
  · rw [if_pos (by omega)] at hc
    obtain ⟨h1, h2⟩ := h.2 i e
    refine ⟨by rw [hc]; exact h1, fun k hk => ?_⟩
    have := h2 k hk
    have e2 : tb (L ++ [ofF n f]) i k = tb L i k := by unfold tb; rw [hc]
    rw [e2]; exact this
  · rw [if_neg (by omega)] at hc
    have hij : i = j := by omega
    subst hij
    refine ⟨by rw [hc, ofF_len], fun k hk => ?_⟩
    have e2 : tb (L ++ [ofF n f]) i k = f k := by unfold tb; rw [hc]; exact gi_eq (ofF_get hk)
    rw [e2]; exact hf k hk
theorem part_bd {d p : Int} (h1 : 0 ≤ d ∧ d ≤ 1000000000) (h2 : 0 ≤ p ∧ p ≤ 255) : 0 ≤ d * p ∧ d * p ≤ 255000000000 ∧ 0 ≤ d * p / 255 ∧ d * p / 255 ≤ d ∧ (d * p).tdiv 255 = d * p / 255 := by
  have h3 := Int.mul_nonneg h1.1 h2.1
  have h4 : d * p ≤ d * 255 := Int.mul_le_mul_of_nonneg_left h2.2 h1.1
  refine ⟨h3, by omega, by omega, by omega, Int.tdiv_eq_ediv_of_nonneg h3⟩
set_option maxRecDepth 100000 in
set_option maxHeartbeats 4000000 in
theorem idleRegret_walk (A : Option Addr) (n cap : Nat) (lo : List (List Int)) (A2 : Option Addr) (n2 cap2 : Nat) (hi : List (List Int)) (A3 : Option Addr) (n3 cap3 : Nat) (ta : List Int) (A4 : Option Addr) (n4 cap4 : Nat) (pl : List Int) (w : World)
    (hl : RdII w w.heap.size A n cap lo) (hh : RdII w w.heap.size A2 n2 cap2 hi) (ht : RdI w w.heap.size A3 n3 cap3 ta) (hp : Rd 1 (flat u8Enc) w w.heap.size A4 n4 cap4 pl) (hpb : ∀ y ∈ pl, 0 ≤ y ∧ y ≤ 255) :
    Calls Try.prog 5 #[.slice A n cap, .slice A2 n2 cap2, .slice A3 n3 cap3, .slice A4 n4 cap4] w fun e w' => e = .returned (.bool true) ∧ Below w.heap.size w w' := by
  have Hf1 := Lib.hid (fun w hl => few_any A n cap lo w hl)
  have Hf2 := Lib.hid (fun w hl => few_any A2 n2 cap2 hi w hl)
  by_cases hsz : fewC lo = true ∧ fewC hi = true ∧ n3 ≤ 8
  case neg =>
    obtain ⟨bf, hbf⟩ : ∃ bf, fewC lo = bf := ⟨_, rfl⟩
    obtain ⟨bg, hbg⟩ : ∃ bg, fewC hi = bg := ⟨_, rfl⟩
    rw [hbf] at hsz Hf1
    rw [hbg] at hsz Hf2
    have hd : bf = false ∨ (bf = true ∧ bg = false) ∨ (bf = true ∧ bg = true ∧ decide ((8 : Int) < (n3 : Int)) = true) := by
      cases bf
      · exact Or.inl rfl
      · cases bg
        · exact Or.inr (Or.inl ⟨rfl, rfl⟩)
        · simp only [true_and] at hsz
          refine Or.inr (Or.inr ⟨rfl, rfl, ?_⟩)
          simp; omega
    clear hbf hbg hsz
    rcases hd with rfl | ⟨rfl, rfl⟩ | ⟨rfl, rfl, h1⟩
    · go_enter Try.func5, Try.ntmps5
      go_wp2_with fail
      refine (small_any _).mono ?_
      rintro e w1 ⟨rfl, hb1⟩
      go_wp2_with fail
      refine (Hf1.out _ (hl.up ii_lasts hb1)).mono ?_
      rintro e _ ⟨rfl, rfl⟩
      go_wp2
      go_ret
      exact ⟨rfl, hb1⟩
    all_goals
      go_enter Try.func5, Try.ntmps5
      go_wp2_with fail
      refine (small_any _).mono ?_
      rintro e w1 ⟨rfl, hb1⟩
      go_wp2_with fail
      refine (Hf1.out _ (hl.up ii_lasts hb1)).mono ?_
      rintro e _ ⟨rfl, rfl⟩
      go_wp2_with fail
      refine (Hf2.out _ (hh.up ii_lasts hb1)).mono ?_
      rintro e _ ⟨rfl, rfl⟩
      go_wp2
      go_ret
      exact ⟨rfl, hb1⟩
  obtain ⟨hf1, hf2, s3⟩ := hsz
  rw [hf1] at Hf1
  rw [hf2] at Hf2
  have d3 : decide ((8 : Int) < (n3 : Int)) = false := by simp; omega
  have Hreg := Lib.hid (fun w hl hh ht => regret_any A A2 A3 n cap n2 cap2 n3 cap3 lo hi ta w hl hh ht)
  clear hf1 hf2 s3
  cases hreg : regC lo hi ta
  · have Hb := Lib.hid (fun w hl hh => rbounds_any A A2 n cap n2 cap2 lo hi w hl hh)
    have Ha := Lib.hid (fun w hl ht => rassigns_any A A3 n cap n3 cap3 lo ta w hl ht)
    have hand : bndC lo hi = false ∨ (bndC lo hi = true ∧ assC lo ta = false) := by
      unfold regC at hreg
      cases h1 : bndC lo hi
      · exact Or.inl rfl
      · rw [h1, Bool.true_and] at hreg
        exact Or.inr ⟨rfl, hreg⟩
    have Hr := Lib.hid hreg
    clear hreg
    generalize bndC lo hi = bb at *
    generalize assC lo ta = ab at *
    rcases hand with rfl | ⟨rfl, rfl⟩
    · go_enter Try.func5, Try.ntmps5
      go_wp2_with fail
      refine (small_any _).mono ?_
      rintro e w1 ⟨rfl, hb1⟩
      go_wp2_with fail
      refine (Hf1.out _ (hl.up ii_lasts hb1)).mono ?_
      rintro e _ ⟨rfl, rfl⟩
      go_wp2_with fail
      refine (Hf2.out _ (hh.up ii_lasts hb1)).mono ?_
      rintro e _ ⟨rfl, rfl⟩
      go_wp2_with fail
      refine (Hreg.out _ (hl.up ii_lasts hb1) (hh.up ii_lasts hb1) (ht.up (flat_lasts _) hb1)).mono ?_
      rintro e w2 ⟨r, er, rfl, hb2, ⟨-, rfl, rfl⟩ | ⟨h, -⟩⟩
      case inr => rw [Hr.out] at h; cases h
      have hb := hb1.trans (hb2.mono hb1.size)
      clear hb1 hb2
      go_wp2_with fail
      refine (Hb.out _ (hl.up ii_lasts hb) (hh.up ii_lasts hb)).mono ?_
      rintro e w3 ⟨rfl, q, hq⟩
      have hb3 : Below w.heap.size w w3 := by rw [hq]; exact below_drewN hb q
      clear hq hb
      go_wp2
      go_ret
      exact ⟨rfl, hb3⟩
    · go_enter Try.func5, Try.ntmps5
      go_wp2_with fail
      refine (small_any _).mono ?_
      rintro e w1 ⟨rfl, hb1⟩
      go_wp2_with fail
      refine (Hf1.out _ (hl.up ii_lasts hb1)).mono ?_
      rintro e _ ⟨rfl, rfl⟩
      go_wp2_with fail
      refine (Hf2.out _ (hh.up ii_lasts hb1)).mono ?_
      rintro e _ ⟨rfl, rfl⟩
      go_wp2_with fail
      refine (Hreg.out _ (hl.up ii_lasts hb1) (hh.up ii_lasts hb1) (ht.up (flat_lasts _) hb1)).mono ?_
      rintro e w2 ⟨r, er, rfl, hb2, ⟨-, rfl, rfl⟩ | ⟨h, -⟩⟩
      case inr => rw [Hr.out] at h; cases h
      have hb := hb1.trans (hb2.mono hb1.size)
      clear hb1 hb2
      go_wp2_with fail
      refine (Hb.out _ (hl.up ii_lasts hb) (hh.up ii_lasts hb)).mono ?_
      rintro e w3 ⟨rfl, q, hq⟩
      have hb3 : Below w.heap.size w w3 := by rw [hq]; exact below_drewN hb q
      clear hq hb
      go_wp2_with fail
      refine (Ha.out _ (hl.up ii_lasts hb3) (ht.up (flat_lasts _) hb3)).mono ?_
      rintro e w4 ⟨rfl, q2, hq2⟩
      have hb4 : Below w.heap.size w w4 := by rw [hq2]; exact below_drewN hb3 q2
      clear hq2 hb3
      go_wp2
      go_ret
      exact ⟨rfl, hb4⟩
  have hreg2 := hreg
  rw [regC, Bool.and_eq_true] at hreg2
  obtain ⟨hb, ha⟩ := hreg2
  have hln := hl.len
  have hlh := hh.len
  obtain ⟨b1, b2, b3, b4, b5⟩ := bnd_parts hb
  obtain ⟨⟨m1, m20⟩, ⟨v1, v40⟩, hrow⟩ := rightC_iff.1 b1
  obtain ⟨-, -, hrow2⟩ := rightC_iff.1 b2
  have hn2 : n2 = n := by omega
  subst hn2
  obtain ⟨N, hN⟩ : ∃ N, wid lo = N := ⟨_, rfl⟩
  rw [hN] at v1 v40
  have hn20 : n2 ≤ 20 := by omega
  have hn1 : 1 ≤ n2 := by omega
  have hN1 : 1 ≤ N := by omega
  have Hr1 := Lib.hid (fun i (hi' : i < n2) => (show (clAt lo i).length = N by rw [(rowC_iff.1 (hrow i (by omega))).1, hN]))
  have Hr2 := Lib.hid (fun i (hi' : i < n2) => (show (clAt hi i).length = N by rw [(rowC_iff.1 (hrow2 i (by omega))).1, ← b4, hN]))
  have Hlohi := Lib.hid (fun i k (hi' : i < n2) (hk : k < N) => (show 0 ≤ tb lo i k ∧ tb lo i k ≤ tb hi i k ∧ tb hi i k ≤ 1000000000 from ⟨(right_at b1 (i := i) (k := k) (by omega) (by omega)).1, b5 i k (by omega) (by omega), (right_at b2 (i := i) (k := k) (by omega) (by omega)).2⟩))
  have hA0 := ass_as ha
  have Hbtw := Lib.hid (fun L (hL : Btw n2 N lo hi L) => (show rightC L = true ∧ assC L ta = true ∧ L.length = n2 ∧ ∀ r T, RegretYes n2 N lo hi ta r → First L.length (wid L) (tb L) T → costV L ta - costF L.length (tb L) T ≤ r from by
    rw [← hln, ← hN] at hL
    obtain ⟨c1, c2, c3⟩ := btw_right hb hL
    have ha2 : assC L ta = true := by rw [assC_congr c2 c3]; exact ha
    refine ⟨c1, ha2, by omega, fun r T hy hT => ?_⟩
    rw [← hln, ← hN] at hy
    rw [costV_ok (okC_iff.2 ⟨c1, ha2⟩), c2]
    rw [c2, c3] at hT
    exact btw_regret hA0 (fun i hi' => (ass_at ha hi').1) (fun i k h1 h2 => (hL.2 i h1).2 k h2) hy hT.1))
  have Hwor := Lib.hid (fun (w : World) hl hh ht => worst_any A A2 A3 n2 cap n2 cap2 n3 cap3 lo hi ta w hl hh ht hb ha)
  have Hwm := Lib.hid (fun B c w hl ht => more_any B A3 n2 c n3 cap3 (tabL n2 N (worF lo hi ta)) ta w hl ht (by
    have := worst_right (ta := ta) hb
    rw [hln, hN] at this
    exact this) (by
    rw [assC_congr (cl' := lo) (by rw [tabL_len]; omega) (by rw [tabL_wid (by omega), hN])]
    exact ha))
  have Hwr := Lib.hid (fun r T (hy : RegretYes n2 N lo hi ta r) (hT : First (tabL n2 N (worF lo hi ta)).length (wid (tabL n2 N (worF lo hi ta))) (tb (tabL n2 N (worF lo hi ta))) T) => (show costV (tabL n2 N (worF lo hi ta)) ta - costF (tabL n2 N (worF lo hi ta)).length (tb (tabL n2 N (worF lo hi ta))) T = r from by
    have e1 : rightC (tabL n2 N (worF lo hi ta)) = true := by
      have := worst_right (ta := ta) hb
      rw [hln, hN] at this
      exact this
    have e2 : assC (tabL n2 N (worF lo hi ta)) ta = true := by
      rw [assC_congr (cl' := lo) (by rw [tabL_len]; omega) (by rw [tabL_wid (by omega), hN])]
      exact ha
    rw [costV_ok (okC_iff.2 ⟨e1, e2⟩)]
    rw [tabL_len, tabL_wid (by omega)] at hT
    rw [tabL_len]
    rw [hln, hN] at hA0
    exact worst_regret hA0 hy hT))
  have Hmore := Lib.hid (fun B c L w hl ht h1 h2 => more_any B A3 n2 c n3 cap3 L ta w hl ht h1 h2)
  have HwP : RowKit.Hid (∀ (w : World) e w', WorstPost w n2 lo hi ta e w' → ∃ B c, e = .returned (.slice B n2 c) ∧ RdII w' w'.heap.size B n2 c (tabL n2 N (worF lo hi ta)) ∧ Below w.heap.size w w') := Lib.hid (fun w e w' h => by unfold WorstPost at h; rw [hN] at h; exact h)
  have Hyes := Lib.hid (fun r (h : RegretYes lo.length (wid lo) lo hi ta r) => (show RegretYes n2 N lo hi ta r from by rw [hln, hN] at h; exact h))
  have Hrg := Lib.hid hreg
  have hcap1 := hl.caps
  have hcap2 := hh.caps
  have hcap4 := hp.caps
  have hlp := hp.len
  clear hreg hb ha b1 b2 b3 b4 b5 hrow hrow2 hA0 m1 m20 v1 hln hlh hN
  go_enter Try.func5, Try.ntmps5
  go_wp2_with fail
  refine (small_any _).mono ?_
  rintro e w1 ⟨rfl, hb1⟩
  go_wp2_with fail
  refine (Hf1.out _ (hl.up ii_lasts hb1)).mono ?_
  rintro e _ ⟨rfl, rfl⟩
  go_wp2_with fail
  refine (Hf2.out _ (hh.up ii_lasts hb1)).mono ?_
  rintro e _ ⟨rfl, rfl⟩
  go_wp2_with fail
  refine (Hreg.out _ (hl.up ii_lasts hb1) (hh.up ii_lasts hb1) (ht.up (flat_lasts _) hb1)).mono ?_
  rintro e w2 ⟨r, er, rfl, hb2, ⟨h, -⟩ | ⟨-, rfl, hy⟩⟩
  · rw [Hrg.out] at h; cases h
  have Hy := Lib.hid (Hyes.out r hy)
  have hb02 := hb1.trans (hb2.mono hb1.size)
  clear hb1 hb2 hy Hyes Hrg Hreg Hf1 Hf2
  go_wp2
  go_loopg [12, 13, 14] n2 (fun gk v a i wr => ∃ (j a' : Nat) (S : Nat → Prop) (L : List (List Int)), j ≤ n2 ∧ gk = n2 - j ∧ i = .int .i64 j ∧ a = .int .i64 a' ∧ a' ≤ 40 * j ∧ TbO wr w.heap.size S v L ∧ Btw j N lo hi L ∧ Below w.heap.size w wr)
  case atStart => exact ⟨0, 0, _, [], Nat.zero_le _, rfl, rfl, rfl, Nat.zero_le _, TbO.nil _ _, Btw.nil, hb02⟩
  case round =>
    clear hb02
    obtain ⟨j, a, S, L, hj, rfl, rfl, rfl, haj, htb, hbt, hbel⟩ := hrel
    have HL := Lib.hid hbt
    clear hbt
    by_cases hlt : j < n2
    · obtain ⟨b, off, A', n', cap', x, rfl, hbB, hx, c1, r1⟩ := hl.atII hlt
      have hn' : n' = N := by
        have h1 := Hr1.out j hlt
        rw [clAt_eq hx, r1.len] at h1
        exact h1
      subst hn'
      have hxe : x = ofF n' (tb lo j) := by
        have h1 := row_ofF (Hr1.out j hlt)
        rw [clAt_eq hx] at h1
        exact h1
      subst hxe
      obtain ⟨b', off', A'', n'', cap'', y, rfl, hbB', hy, d1, s1⟩ := hh.atII hlt
      have hn'' : n'' = n' := by
        have h1 := Hr2.out j hlt
        rw [clAt_eq hy, s1.len] at h1
        exact h1
      subst hn''
      have hyy : clAt hi j = y := clAt_eq hy
      have Hyy := Lib.hid hyy
      have hcapr := r1.caps
      have hcapy := s1.caps
      have rr := r1.up (flat_lasts _) hbel
      have c1a := ((hbel.alloc hbel.size (.cells #[] 3)).cell (p := ⟨b, off + j, none⟩) hbB).trans c1
      have hji : (j : Int) < (n2 : Int) := by omega
      have hj0 : (0 : Int) ≤ (j : Int) := by omega
      have hlenL : L.length ≤ 1000000 := by rw [HL.out.1]; omega
      obtain ⟨i0, hi0, hz0, hz1, hz2⟩ := info_parts int_info
      obtain ⟨is, his, hs0, hs1, hs2⟩ := info_parts slices_info
      have hB0 := hbel.size
      clear hx hy hyy
      go_wp2_with (at_builtin; refine wpList_row rfl _ _ 23 rfl i0 _ Try.underlying23 hi0 hz0 hz1 hz2 rfl _ rfl rfl _ n'' _ _ rfl rr (by omega) (by omega) ?_
                   intro g4 c4 wd ho4 hbd)
      have hg4 := ho4.lt g4 rfl
      have hbw := hbel.trans (hbd.mono hbel.size)
      have htb4 := htb.below hbd
      have HS4 := Lib.hid (show ∀ g, S g → g ≠ g4 from fun g h => by
        have h1 := (htb.1 g h).2
        omega)
      have hcap4' := ho4.capOf (by rw [ofF_len]; omega)
      have hgw : w.heap.size ≤ g4 := by omega
      have ho4 := ho4.mono (base' := w.heap.size) hB0
      clear htb rr c1a hbd hbel hB0
      go_loopg [13, 16] n'' (fun gk a' k wk => ∃ (k' c : Nat) (f : Nat → Int), k' ≤ n'' ∧ gk = n'' - k' ∧ k = .int .i64 k' ∧ a' = .int .i64 c ∧ c ≤ 40 * j + k' ∧ (∀ q, q < n'' → tb lo j q ≤ f q ∧ f q ≤ tb hi j q) ∧ (∀ q, q < n'' → k' ≤ q → f q = tb lo j q) ∧ Own 1 iEnc wk w.heap.size 3 (.slice (some ⟨g4, 0, none⟩) n'' c4) (ofF n'' f) ∧ Kept (fun g => g = g4) wd wk ∧ Below w.heap.size w wk)
      case atStart => exact ⟨0, a, tb lo j, Nat.zero_le _, rfl, rfl, rfl, by omega, (fun q hq => by have := Hlohi.out j q hlt hq; omega), (fun q hq _ => rfl), ho4, Kept.refl _ _, hbw⟩
      case round =>
        clear ho4 hbw
        obtain ⟨k, c, f, hk, rfl, rfl, rfl, hck, hf1, hf2, ho, hkp, hbw⟩ := hrel
        have HF1 := Lib.hid hf1; have HF2 := Lib.hid hf2
        clear hf1 hf2
        by_cases hkn : k < n''
        · have hki : (k : Int) < (n'' : Int) := by omega
          have hk0 : (0 : Int) ≤ (k : Int) := by omega
          obtain ⟨z0, z1⟩ := ho.cellI hkn
          rw [HF2.out k hkn (Nat.le_refl _)] at z0
          by_cases hc : c < n4
          · obtain ⟨bp, op, p, rfl, hbp, hpp, pc⟩ := hp.atU8 hc
            have hpd : 0 ≤ p ∧ p ≤ 255 := hpb p (List.mem_of_getElem? hpp)
            obtain ⟨b4, off4, yv, rfl, hbB4, hyv, y1⟩ := s1.atI hkn
            obtain ⟨b5, off5, xv, rfl, hbB5, hxv, x1⟩ := r1.atI hkn
            have hxe : tb lo j k = xv := by
              rw [ofF_get hkn] at hxv
              exact Option.some.inj hxv
            have hye : tb hi j k = yv := by rw [tb, Hyy.out]; exact gi_eq hyv
            have hbd := Hlohi.out j k hlt hkn
            rw [hxe] at z0 hbd
            rw [hye] at hbd
            have Hx := Lib.hid hxe; have Hyv := Lib.hid hye
            have pc' := (hbw.cell (p := ⟨bp, op + c, none⟩) hbp).trans pc
            have y1' := (hbw.cell (p := ⟨b4, off4 + k, none⟩) hbB4).trans y1
            have x1' := (hbw.cell (p := ⟨b5, off5 + k, none⟩) hbB5).trans x1
            have c1' := (hbw.cell (p := ⟨b, off + j, none⟩) hbB).trans c1
            have d1' := (hbw.cell (p := ⟨b', off' + j, none⟩) hbB').trans d1
            obtain ⟨q1, q2, q3, q4, q5⟩ := part_bd (d := yv - xv) (p := p) (by omega) hpd
            have hw1 : IntKind.i64.wrap (yv - xv) = yv - xv := IntWalk.i64_in _ (by omega)
            have hw2 : IntKind.i64.wrap p = p := IntWalk.i64_in _ (by omega)
            have hw3 : IntKind.i64.wrap ((yv - xv) * p) = (yv - xv) * p := IntWalk.i64_in _ (by omega)
            obtain ⟨Q, hQ⟩ : ∃ Q, (yv - xv) * p / 255 = Q := ⟨_, rfl⟩
            rw [hQ] at q3 q4 q5
            have hw4 : IntKind.i64.wrap Q = Q := IntWalk.i64_in _ (by omega)
            have hw5 : IntKind.i64.wrap (xv + Q) = xv + Q := IntWalk.i64_in _ (by omega)
            have hn255 : ¬ (255 : Int) = 0 := by omega
            have hci : (c : Int) < (n4 : Int) := by omega
            have hc0 : (0 : Int) ≤ (c : Int) := by omega
            have hnew : 0 ≤ Q ∧ Q ≤ yv - xv := ⟨q3, q4⟩
            clear hxe hye hxv hyv hpp pc y1 x1 q1 q2 q3 q4
            go_wp2_with fail
            go_still_tail 30, (by kernel_rfl)
            change wpList _ _ _ _ _ wr.drew
            refine wpList_st0 (w := wr.drew) rfl rfl _ _ _ rfl ⟨g4, k, none⟩ (.int .i64 (xv + Q)) rfl rfl rfl int_size z0 z1 ?_
            intro w8 hw8
            have ho8 := (Own.drew ho).setI (i := k) hkn (xv + Q)
            have hk8 : Kept (fun b => b = g4) wr.drew w8 := by rw [hw8]; exact (grown_kept (grown_set _ g4 k _)).mono (fun b _ e => by injection e with e; exact e.symm)
            rw [← hw8] at ho8
            have hb8 : Below w.heap.size w w8 := by rw [hw8]; exact hbw.drew.setCell hgw _
            have hkp8 : Kept (fun g => g = g4) wd w8 := hkp.drew.trans hk8 (fun _ _ h => h)
            have hf18 : ∀ q, q < n'' → tb lo j q ≤ (if q = k then xv + Q else f q) ∧ (if q = k then xv + Q else f q) ≤ tb hi j q := fun q hq => by
              by_cases e : q = k
              · subst e
                rw [if_pos rfl, Hx.out, Hyv.out]
                omega
              · rw [if_neg e]
                exact HF1.out q hq
            have hf28 : ∀ q, q < n'' → k + 1 ≤ q → (if q = k then xv + Q else f q) = tb lo j q := fun q hq hkq => by
              rw [if_neg (by omega)]
              exact HF2.out q hq (by omega)
            have Hf1 := Lib.hid hf18; have Hf2 := Lib.hid hf28
            clear hw8 hk8 hf18 hf28 hkp hbw ho z0 z1 pc' y1' x1' c1' d1' hw1 hw2 hw3 hw4 hw5 hQ q5 hnew hbd
            go_wp2
            go_roundg (n'' - (k + 1))
            case rel => exact ⟨k + 1, c + 1, _, by omega, rfl, by go_num, by go_num, by omega, Hf1.out, Hf2.out, ho8, hkp8, hb8⟩
            case measure => omega
          · have hdc : decide (c < n4) = false := by simp; omega
            clear z0 z1
            go_wp2
            go_roundg (n'' - (k + 1))
            case rel => exact ⟨k + 1, c + 1, f, by omega, rfl, by go_num, by go_num, by omega, HF1.out, (fun q hq hkq => HF2.out q hq (by omega)), ho, hkp, hbw⟩
            case measure => omega
        · have ee : k = n'' := by omega
          subst ee
          have htbk := htb4.keptS hkp (fun g hg h => HS4.out g hg h)
          have hgk : g4 < wr.heap.size := by have := hkp.size; omega
          have hBk := hbw.size
          have rr4 : RdI wr wr.heap.size (some ⟨g4, 0, none⟩) k c4 (ofF k f) := by
            obtain ⟨A2, cc2, hv, hr2⟩ := ho.rd iSized (by rw [ofF_len]; omega)
            rw [ofF_len] at hv hr2
            injection hv with h1 h2 h3
            subst h1 h3
            exact hr2
          have Hnext := Lib.hid (HL.out.next HF1.out)
          clear hkp ho htb4
          go_wp2_with (at_builtin; refine wpList_push rfl _ _ 22 rfl w.heap.size is _ Try.underlying22 his hs0 hs1 hs2 rfl u12 L (by exact rfl) htbk (some ⟨g4, 0, none⟩) k c4 _ rr4 (fun b off e => by injection e with e; injection e with e1 e2 e3; subst e1; exact ⟨fun h => HS4.out _ h rfl, hgw, hgk⟩) _ rfl (by exact rfl) hlenL hBk ?_
                       intro v' w9 S' htb9 hk9 hS9 hbb9)
          have hb9 := hbb9 w.heap.size w (Nat.le_refl _) hbw
          go_roundg (n2 - (j + 1))
          case rel => exact ⟨j + 1, c, S', _, by omega, rfl, by go_num, rfl, by omega, htb9, Hnext.out, hb9⟩
          case measure => omega
    · have ee : j = n2 := by omega
      subst ee
      obtain ⟨L1, L2, L3, L4⟩ := Hbtw.out L HL.out
      obtain ⟨B, c, he, rdL⟩ := htb.rd (by omega)
      rw [L3] at he rdL
      subst he
      have L5 := Lib.hid (fun T h => L4 r T Hy.out h)
      clear L4 htb
      go_wp2_with fail
      refine (Hmore.out B c L _ rdL (ht.up (flat_lasts _) hbel) L1 L2).mono ?_
      rintro e w5 ⟨T5, hT5, rfl, hb5⟩
      have h5 := L5.out T5 hT5
      have hb05 := hbel.trans (hb5.mono hbel.size)
      generalize costV L ta - costF L.length (tb L) T5 = V5 at *
      have hd5 : decide (V5 ≤ r) = true := by simpa using h5
      clear hT5 hb5 L5 hbel rdL L1 L2 h5
      go_wp2_with fail
      refine (Hwor.out _ (hl.up ii_lasts hb05) (hh.up ii_lasts hb05) (ht.up (flat_lasts _) hb05)).mono ?_
      intro e w6 h6
      obtain ⟨B6, c6, rfl, rd6, hb6⟩ := HwP.out _ _ _ h6
      have hb06 := hb05.trans (hb6.mono hb05.size)
      clear h6 hb6 hb05
      go_wp2_with fail
      refine (Hwm.out B6 c6 _ rd6 (ht.up (flat_lasts _) hb06)).mono ?_
      rintro e w7 ⟨T7, hT7, rfl, hb7⟩
      have h7 := Hwr.out r T7 Hy.out hT7
      rw [h7]
      have hb07 := hb06.trans (hb7.mono hb06.size)
      have hrr : (r == r) = true := by simp
      clear hT7 hb7 hb06 h7 rd6
      go_wp2
      go_ret
      exact ⟨rfl, hb07⟩
end Go.Proofs.Ytmcamadcoglodaa
