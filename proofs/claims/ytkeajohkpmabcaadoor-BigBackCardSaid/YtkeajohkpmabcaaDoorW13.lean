
/- Walk over Add of package big. Conditions stand in the theorem. -/
import Derived.Test.YtkeajohkpmabcaaDoorW12
import Derived.Test.YtkeajohkpmabcaaDoorW9
namespace Go.Proofs.YtkeajohkpmabcaaDoor
open Go.RowKit
set_option linter.unusedVariables false

theorem sub_val {a b : List Int} (ca : DgOk a) (cb : DgOk b) (h : val b ≤ val a) : val (digs (val a - val b).toNat) = val a - val b := by
  rw [digs_val]; omega
theorem add_val {a b : List Int} (ca : DgOk a) (cb : DgOk b) : val (digs (val a + val b).toNat) = val a + val b := by
  rw [digs_val]; have := val_nonneg ca; have := val_nonneg cb; omega
theorem sgn_mul (s t : Int) (h1 : s = 0 ∨ s = 1 ∨ s = -1) (h2 : t = 0 ∨ t = 1 ∨ t = -1) : IntKind.i64.wrap (s * t) = s * t := by
  rcases h1 with rfl | rfl | rfl <;> exact IntWalk.i64_in _ (by omega)
theorem add_signs {s t : Int} {a b : List Int} (h1 : rightB s a = true) (h2 : rightB t b = true) (h : 0 ≤ s * t) : (orI [s, t] = 1 ∨ orI [s, t] = -1 ∨ digs (val a + val b).toNat = []) ∧ orI [s, t] * val (digs (val a + val b).toNat) = bval s a + bval t b := by
  obtain ⟨c1, l1, e1⟩ := rightB_cn h1
  obtain ⟨c2, l2, e2⟩ := rightB_cn h2
  rw [add_val c1.1 c2.1]
  unfold bval
  rcases e1 with ⟨rfl, rfl⟩ | ⟨-, rfl | rfl⟩ <;> rcases e2 with ⟨rfl, rfl⟩ | ⟨-, rfl | rfl⟩ <;> simp [orI, val, digs_zero] at h ⊢ <;> omega
theorem opp_signs {s t : Int} {a b : List Int} (h1 : rightB s a = true) (h2 : rightB t b = true) (h : s * t < 0) : (t = 1 ∨ t = -1) ∧ (s = 1 ∨ s = -1) ∧ t * (val b - val a) = bval s a + bval t b ∧ s * (val a - val b) = bval s a + bval t b := by
  obtain ⟨c1, l1, e1⟩ := rightB_cn h1
  obtain ⟨c2, l2, e2⟩ := rightB_cn h2
  unfold bval
  rcases e1 with ⟨rfl, rfl⟩ | ⟨-, rfl | rfl⟩ <;> rcases e2 with ⟨rfl, rfl⟩ | ⟨-, rfl | rfl⟩ <;> simp at h ⊢ <;> omega
theorem right_sg {s : Int} {l : List Int} (h : rightB s l = true) : s = 0 ∨ s = 1 ∨ s = -1 := by
  rcases (rightB_cn h).2.2 with ⟨-, h⟩ | ⟨-, h | h⟩
  · exact Or.inl h
  · exact Or.inr (Or.inl h)
  · exact Or.inr (Or.inr h)
set_option maxRecDepth 100000 in
set_option maxHeartbeats 1000000 in
theorem bAdd_any (s t : Int) (A A2 : Option Addr) (n cap n2 cap2 : Nat) (a b : List Int) (w : World) (ha : RdI w w.heap.size A n cap a) (hb : RdI w w.heap.size A2 n2 cap2 b) :
    Calls Tryd.prog 20 #[.agg #[.int .i64 s, .slice A n cap], .agg #[.int .i64 t, .slice A2 n2 cap2]] w (BigE w (resZ (rightB s a && rightB t b) (bval s a + bval t b)) (errZ (rightB s a && rightB t b) (bval s a + bval t b))) := by
  have hcap := ha.caps
  have hcap2 := hb.caps
  have K0 := box2 w (.int .i64 s) (.slice A n cap) (.int .i64 t) (.slice A2 n2 cap2) (.int .i64 0) (.slice none 0 0) 24 24 24
  have HR1 := Lib.hid (fun W (h : Below w.heap.size w W) => bright_any s A n cap a W (ha.up (flat_lasts _) h))
  have HR2 := Lib.hid (fun W (h : Below w.heap.size w W) => bright_any t A2 n2 cap2 b W (hb.up (flat_lasts _) h))
  obtain ⟨w0, hw0⟩ : ∃ w0, w0 = ((w.alloc (.cells #[.int .i64 s, .slice A n cap] 24)).alloc (.cells #[.int .i64 t, .slice A2 n2 cap2] 24)).alloc (.cells #[.int .i64 0, .slice none 0 0] 24) := ⟨_, rfl⟩
  rw [← hw0] at K0
  obtain ⟨g, hg⟩ : ∃ g, g = w.heap.size := ⟨_, rfl⟩
  rw [← hg] at K0
  have HW := Lib.hid hw0; have HG := Lib.hid hg
  clear hw0 hg
  obtain ⟨hb0, ⟨⟨c0, c1⟩, c2, c3⟩, ⟨c4, c5⟩, c6, c7⟩ := raw2.1 K0
  cases h1 : rightB s a
  · rw [h1] at HR1
    rw [Bool.false_and, resZ_false, errZ_false]
    clear h1
    go_enter Tryd.func20, Tryd.ntmps20
    go_wp2_with fail
    rw [← HW.out, ← HG.out]
    refine (HR1.out _ hb0).mono ?_
    rintro e w1 ⟨rfl, hb1⟩
    have K1 := K0.keep hb1
    clear hb1
    have K2 := K1
    obtain ⟨hb0, ⟨⟨d0, d1⟩, d2, d3⟩, ⟨d4, d5⟩, d6, d7⟩ := raw2.1 K2
    clear K0 K1 c0 c1 c2 c3 c4 c5 c6 c7 hb0
    go_wp2_with fail
    refine (checkedD false 0 none 0 0 [] 0 _ Rd.nil Std.zero).mono ?_
    rintro e w3 hch
    rw [resZ_false, errZ_false] at hch
    obtain ⟨s3, A3, n3, c3, l3, rfl, hr3, hstd, hf3, k3, -⟩ := hch.keep K2
    have hA := hf3 (g + 2 + 1) FrA.none
    obtain ⟨-, -, ⟨x2, x3⟩, y2, y3⟩ := raw2.1 k3
    obtain ⟨e1, e2⟩ := set2_cells (u := .int .i64 s3) (v := .slice A3 n3 c3) x2 x3
    have K4 := Lib.hid (k3.set2 (Nat.le_of_eq HG.out.symm) (b := g + 2) (u := .int .i64 s3) (v := .slice A3 n3 c3) (by omega) (by simp <;> omega)).1
    have hr4 := Lib.hid (hr3.set2 (b := g + 2) (u := .int .i64 s3) (v := .slice A3 n3 c3) (fun a h => by have := hA a h; omega))
    have hA4 := Lib.hid (hA.mono (C := w.heap.size) (by have := HG.out; omega))
    clear hA k3 hf3 hr3 K2 d0 d1 d2 d3 d4 d5 d6 d7
    go_wp2
    exact bodyPost_ret (v := .tuple #[.agg #[.int .i64 s3, .slice A3 n3 c3], .int .i64 1]) (by simp [results, Tryd.results20, go_sem, e1, e2]) rfl ⟨s3, A3, n3, c3, l3, rfl, hr4.out, hstd, hA4.out, K4.out⟩
  cases h2 : rightB t b
  · rw [h1] at HR1
    rw [h2] at HR2
    rw [Bool.true_and, resZ_false, errZ_false]
    clear h1 h2
    go_enter Tryd.func20, Tryd.ntmps20
    go_wp2_with fail
    rw [← HW.out, ← HG.out]
    refine (HR1.out _ hb0).mono ?_
    rintro e w1 ⟨rfl, hb1⟩
    have K1 := K0.keep hb1
    clear K0 c0 c1 c2 c3 c4 c5 c6 c7 hb1 hb0
    obtain ⟨hb0, ⟨⟨d0, d1⟩, d2, d3⟩, ⟨d4, d5⟩, d6, d7⟩ := raw2.1 K1
    go_wp2_with fail
    refine (HR2.out _ hb0).mono ?_
    rintro e w2 ⟨rfl, hb1⟩
    have K2 := K1.keep hb1
    clear K1 d0 d1 d2 d3 d4 d5 d6 d7 hb1 hb0
    have K1 := K2
    have K0 := K2
    clear K2
    obtain ⟨hb0, ⟨⟨c0, c1⟩, c2, c3⟩, ⟨c4, c5⟩, c6, c7⟩ := raw2.1 K1
    have K2 := K1
    obtain ⟨hb0, ⟨⟨d0, d1⟩, d2, d3⟩, ⟨d4, d5⟩, d6, d7⟩ := raw2.1 K2
    clear K0 K1 c0 c1 c2 c3 c4 c5 c6 c7 hb0
    go_wp2_with fail
    refine (checkedD false 0 none 0 0 [] 0 _ Rd.nil Std.zero).mono ?_
    rintro e w3 hch
    rw [resZ_false, errZ_false] at hch
    obtain ⟨s3, A3, n3, c3, l3, rfl, hr3, hstd, hf3, k3, -⟩ := hch.keep K2
    have hA := hf3 (g + 2 + 1) FrA.none
    obtain ⟨-, -, ⟨x2, x3⟩, y2, y3⟩ := raw2.1 k3
    obtain ⟨e1, e2⟩ := set2_cells (u := .int .i64 s3) (v := .slice A3 n3 c3) x2 x3
    have K4 := Lib.hid (k3.set2 (Nat.le_of_eq HG.out.symm) (b := g + 2) (u := .int .i64 s3) (v := .slice A3 n3 c3) (by omega) (by simp <;> omega)).1
    have hr4 := Lib.hid (hr3.set2 (b := g + 2) (u := .int .i64 s3) (v := .slice A3 n3 c3) (fun a h => by have := hA a h; omega))
    have hA4 := Lib.hid (hA.mono (C := w.heap.size) (by have := HG.out; omega))
    clear hA k3 hf3 hr3 K2 d0 d1 d2 d3 d4 d5 d6 d7
    go_wp2
    exact bodyPost_ret (v := .tuple #[.agg #[.int .i64 s3, .slice A3 n3 c3], .int .i64 1]) (by simp [results, Tryd.results20, go_sem, e1, e2]) rfl ⟨s3, A3, n3, c3, l3, rfl, hr4.out, hstd, hA4.out, K4.out⟩
  rw [h1] at HR1
  rw [h2] at HR2
  rw [Bool.true_and]
  obtain ⟨c1', l1, -⟩ := rightB_cn h1
  obtain ⟨c2', l2, -⟩ := rightB_cn h2
  have hst := sgn_mul s t (right_sg h1) (right_sg h2)
  rw [ha.len] at l1
  rw [hb.len] at l2
  have HC := Lib.hid (fun s' A' n' c' l' W (hr : RdI W W.heap.size A' n' c' l') (hz : Std s' l' (bval s a + bval t b)) (h : BxC w g [(0, 0, .int .i64 s), (0, 1, .slice A n cap), (1, 0, .int .i64 t), (1, 1, .slice A2 n2 cap2)] [(2, 0), (2, 1)] W) => (checkedD true s' A' n' c' l' _ W hr hz).mono fun e W' hd => hd.keep h)
  by_cases hs0 : 0 ≤ s * t
  · obtain ⟨m1, m2⟩ := add_signs h1 h2 hs0
    have hd : decide (0 ≤ s * t) = true := decide_eq_true hs0
    have HM := Lib.hid (fun W (h : BxC w g [(0, 0, .int .i64 s), (0, 1, .slice A n cap), (1, 0, .int .i64 t), (1, 1, .slice A2 n2 cap2)] [(2, 0), (2, 1)] W) => (addD A A2 n cap n2 cap2 a b W (ha.up (flat_lasts _) h.1) (hb.up (flat_lasts _) h.1) c1'.1 c2'.1 (by omega) (by omega)).mono fun e W' hd => hd.keep h (m := 2) (j := 0) (by simp))
    have HS := Lib.hid (fun A' n' c' W (hr : RdI W W.heap.size A' n' c' (digs (val a + val b).toNat)) (h : BxC w g [(0, 0, .int .i64 s), (0, 1, .slice A n cap), (1, 0, .int .i64 t), (1, 1, .slice A2 n2 cap2)] [(2, 0), (2, 1)] W) => (signedD (orI [s, t]) A' n' c' _ _ W hr (digs_cn _) m1 m2).mono fun e W' hd => hd.keep h)
    have HO := Lib.hid (fun W H (hH : W.heap.size = H) W' (h : Below (W.alloc (.cells #[.int .i64 s, .int .i64 t] 3)).heap.size (W.alloc (.cells #[.int .i64 s, .int .i64 t] 3)) W') => or_any (some ⟨H, 0, none⟩) 2 2 [s, t] W' ((Rd.litG iSized (w := W) 3 [s, t] #[.int .i64 s, .int .i64 t] 2 H hH rfl rfl (by omega)).up (flat_lasts _) h))
    clear m1 m2 c1' c2' l1 l2 h1 h2 hs0
    generalize digs (val a + val b).toNat = D at *
    generalize bval s a + bval t b = Z at *
    generalize resZ true Z = RS at *
    generalize errZ true Z = ER at *
    generalize orI [s, t] = OR at *
    go_enter Tryd.func20, Tryd.ntmps20
    go_wp2_with fail
    rw [← HW.out, ← HG.out]
    refine (HR1.out _ hb0).mono ?_
    rintro e w1 ⟨rfl, hb1⟩
    have K1 := K0.keep hb1
    clear K0 c0 c1 c2 c3 c4 c5 c6 c7 hb1 hb0
    obtain ⟨hb0, ⟨⟨d0, d1⟩, d2, d3⟩, ⟨d4, d5⟩, d6, d7⟩ := raw2.1 K1
    go_wp2_with fail
    refine (HR2.out _ hb0).mono ?_
    rintro e w2 ⟨rfl, hb1⟩
    have K2 := K1.keep hb1
    clear K1 d0 d1 d2 d3 d4 d5 d6 d7 hb1 hb0
    obtain ⟨hb0, ⟨⟨d0, d1⟩, d2, d3⟩, ⟨d4, d5⟩, d6, d7⟩ := raw2.1 K2
    go_wp2_with fail
    clear hb0 d0 d1 d2 d3 d4 d5 d6 d7
    go_region_held3 (fun W => Below w.heap.size w W ∧ ((W.cell? ⟨g, 0, none⟩ = some (.int .i64 s) ∧ W.cell? ⟨g, 1, none⟩ = some (.slice A n cap)) ∧ W.cell? ⟨g + 1, 0, none⟩ = some (.int .i64 t) ∧ W.cell? ⟨g + 1, 1, none⟩ = some (.slice A2 n2 cap2)) ∧ (W.cell? ⟨g + 2, 0, none⟩ = some (cellD W ⟨g + 2, 0, none⟩) ∧ W.cell? ⟨g + 2, 1, none⟩ = some (cellD W ⟨g + 2, 1, none⟩)) ∧ W.frozen? ⟨g + 2, 0, none⟩ = false ∧ W.frozen? ⟨g + 2, 1, none⟩ = false)
      ((refine raw2.1 ?_; first | assumption | exact K2.drew | exact BxC.set2 (Nat.le_of_eq HG.out.symm) (by assumption) (by omega) (by simp <;> omega) | exact raw2.2 (by assumption) | exact (raw2.2 (by assumption)).keep ((Below.refl _ _).alloc (Nat.le_refl _) _)))
      (first
        | (go_at_call 29; refine (HS.out _ _ _ _ (by first | assumption | exact hr2.up (flat_lasts _) ((Below.refl _ _).alloc (Nat.le_refl _) _)) (raw2.2 (by assumption))).mono ?_; rintro e w3 ⟨s6, A6, n6, c6, l6, rfl, hr6, hstd6, hf6, k6, -⟩)
        | (go_at_call 26; refine (HC.out _ _ _ _ _ _ (by assumption) (by assumption) (raw2.2 (by assumption))).mono ?_; rintro e w3 ⟨s3, A3, n3, c3, l3, rfl, hr3, hstd, hf3, k3, -⟩)
        | (go_at_call 31; refine (HM.out _ (raw2.2 (by assumption))).mono ?_; rintro e w2 ⟨A5, n5, c5, rfl, hr2, hf2, k2, b2⟩)
        | (go_at_call 42; refine (HO.out _ _ rfl _ (by first | exact (Below.refl _ _).drew | exact (Below.refl _ _).drew.trans b2 | exact b2)).mono ?_; rintro e _ ⟨rfl, rfl⟩))
    all_goals
      have hA := hf3 _ (hf6 _ hf2)
      clear hf3 hf6 hf2 hr2 k2 hr6 hstd6 k6 K2 b2
      obtain ⟨-, -, ⟨x2, x3⟩, -⟩ := raw2.1 k3
      obtain ⟨e1, e2⟩ := set2_cells (u := .int .i64 s3) (v := .slice A3 n3 c3) x2 x3
      have K4 := Lib.hid (k3.set2 (Nat.le_of_eq HG.out.symm) (b := g + 2) (u := .int .i64 s3) (v := .slice A3 n3 c3) (by omega) (by simp <;> omega)).1
      have hr4 := Lib.hid (hr3.set2 (b := g + 2) (u := .int .i64 s3) (v := .slice A3 n3 c3) (fun a h => by have := hA a h; omega))
      have hA4 := Lib.hid (hA.mono (C := w.heap.size) (by have := HG.out; omega))
      clear hA k3 hr3 x2 x3
      go_wp2
      exact bodyPost_ret (v := .tuple #[.agg #[.int .i64 s3, .slice A3 n3 c3], .int .i64 ER]) (by simp [results, Tryd.results20, go_sem, e1, e2]) rfl ⟨s3, A3, n3, c3, l3, rfl, hr4.out, hstd, hA4.out, K4.out⟩
  · have hs0' : s * t < 0 := by omega
    obtain ⟨m1, m2, m3, m4⟩ := opp_signs h1 h2 hs0'
    have hd : decide (0 ≤ s * t) = false := decide_eq_false hs0
    have HCp := Lib.hid (fun W (h : BxC w g [(0, 0, .int .i64 s), (0, 1, .slice A n cap), (1, 0, .int .i64 t), (1, 1, .slice A2 n2 cap2)] [(2, 0), (2, 1)] W) => (bcmp_any A A2 n cap n2 cap2 a b W (ha.up (flat_lasts _) h.1) (hb.up (flat_lasts _) h.1) c1' c2').mono fun e W' ⟨he, hb⟩ => (⟨he, h.keep hb⟩ : e = Ending.returned (.int .i64 (cmpI (val a) (val b))) ∧ BxC w g [(0, 0, .int .i64 s), (0, 1, .slice A n cap), (1, 0, .int .i64 t), (1, 1, .slice A2 n2 cap2)] [(2, 0), (2, 1)] W'))
    by_cases hlt : val a < val b
    · have hd2 : decide (cmpI (val a) (val b) < 0) = true := by rw [cmpI_lt hlt]; rfl
      have hle := cn_le c1' c2'.1 (Int.le_of_lt hlt)
      rw [ha.len, hb.len] at hle
      have hv := sub_val c2'.1 c1'.1 (Int.le_of_lt hlt)
      have hm : t = 1 ∨ t = -1 ∨ digs (val b - val a).toNat = [] := by rcases m1 with h | h; exact Or.inl h; exact Or.inr (Or.inl h)
      have HM := Lib.hid (fun W (h : BxC w g [(0, 0, .int .i64 s), (0, 1, .slice A n cap), (1, 0, .int .i64 t), (1, 1, .slice A2 n2 cap2)] [(2, 0), (2, 1)] W) => (subD A2 A n2 cap2 n cap b a W (hb.up (flat_lasts _) h.1) (ha.up (flat_lasts _) h.1) c2'.1 c1'.1 (by omega) hle (Int.le_of_lt hlt)).mono fun e W' hd => hd.keep h (m := 2) (j := 0) (by simp))
      have HS := Lib.hid (fun A' n' c' W (hr : RdI W W.heap.size A' n' c' (digs (val b - val a).toNat)) (h : BxC w g [(0, 0, .int .i64 s), (0, 1, .slice A n cap), (1, 0, .int .i64 t), (1, 1, .slice A2 n2 cap2)] [(2, 0), (2, 1)] W) => (signedD t A' n' c' _ _ W hr (digs_cn _) hm (show t * val (digs (val b - val a).toNat) = bval s a + bval t b by rw [hv]; exact m3)).mono fun e W' hd => hd.keep h)
      clear m1 m2 m3 m4 c1' c2' l1 l2 h1 h2 hs0 hs0' hlt hle hv hm
      generalize digs (val b - val a).toNat = D at *
      generalize bval s a + bval t b = Z at *
      generalize resZ true Z = RS at *
      generalize errZ true Z = ER at *
      generalize cmpI (val a) (val b) = CM at *
      go_enter Tryd.func20, Tryd.ntmps20
      go_wp2_with fail
      rw [← HW.out, ← HG.out]
      refine (HR1.out _ hb0).mono ?_
      rintro e w1 ⟨rfl, hb1⟩
      have K1 := K0.keep hb1
      clear K0 c0 c1 c2 c3 c4 c5 c6 c7 hb1 hb0
      obtain ⟨hb0, ⟨⟨d0, d1⟩, d2, d3⟩, ⟨d4, d5⟩, d6, d7⟩ := raw2.1 K1
      go_wp2_with fail
      refine (HR2.out _ hb0).mono ?_
      rintro e w2 ⟨rfl, hb1⟩
      have K2 := K1.keep hb1
      clear K1 d0 d1 d2 d3 d4 d5 d6 d7 hb1 hb0
      obtain ⟨hb0, ⟨⟨d0, d1⟩, d2, d3⟩, ⟨d4, d5⟩, d6, d7⟩ := raw2.1 K2
      go_wp2_with fail
      refine (HCp.out _ K2).mono ?_
      rintro e w3 ⟨rfl, K3⟩
      clear hb0 d0 d1 d2 d3 d4 d5 d6 d7 K2
      have K2 := K3
      clear K3
      obtain ⟨hb0, ⟨⟨d0, d1⟩, d2, d3⟩, ⟨d4, d5⟩, d6, d7⟩ := raw2.1 K2
      go_wp2_with fail
      clear hb0 d0 d1 d2 d3 d4 d5 d6 d7
      go_region_held3 (fun W => Below w.heap.size w W ∧ ((W.cell? ⟨g, 0, none⟩ = some (.int .i64 s) ∧ W.cell? ⟨g, 1, none⟩ = some (.slice A n cap)) ∧ W.cell? ⟨g + 1, 0, none⟩ = some (.int .i64 t) ∧ W.cell? ⟨g + 1, 1, none⟩ = some (.slice A2 n2 cap2)) ∧ (W.cell? ⟨g + 2, 0, none⟩ = some (cellD W ⟨g + 2, 0, none⟩) ∧ W.cell? ⟨g + 2, 1, none⟩ = some (cellD W ⟨g + 2, 1, none⟩)) ∧ W.frozen? ⟨g + 2, 0, none⟩ = false ∧ W.frozen? ⟨g + 2, 1, none⟩ = false)
        ((refine raw2.1 ?_; first | assumption | exact K2.drew | exact BxC.set2 (Nat.le_of_eq HG.out.symm) (by assumption) (by omega) (by simp <;> omega) | exact raw2.2 (by assumption) | exact (raw2.2 (by assumption)).keep ((Below.refl _ _).alloc (Nat.le_refl _) _)))
        (first
          | (go_at_call 29; refine (HS.out _ _ _ _ (by first | assumption | exact hr2.up (flat_lasts _) ((Below.refl _ _).alloc (Nat.le_refl _) _)) (raw2.2 (by assumption))).mono ?_; rintro e w3 ⟨s6, A6, n6, c6, l6, rfl, hr6, hstd6, hf6, k6, -⟩)
          | (go_at_call 26; refine (HC.out _ _ _ _ _ _ (by assumption) (by assumption) (raw2.2 (by assumption))).mono ?_; rintro e w3 ⟨s3, A3, n3, c3, l3, rfl, hr3, hstd, hf3, k3, -⟩)
          | (go_at_call 32; refine (HM.out _ (raw2.2 (by assumption))).mono ?_; rintro e w2 ⟨A5, n5, c5, rfl, hr2, hf2, k2, b2⟩))
      have hA := hf3 _ (hf6 _ hf2)
      clear hf3 hf6 hf2 hr2 k2 hr6 hstd6 k6 K2 b2
      obtain ⟨-, -, ⟨x2, x3⟩, -⟩ := raw2.1 k3
      obtain ⟨e1, e2⟩ := set2_cells (u := .int .i64 s3) (v := .slice A3 n3 c3) x2 x3
      have K4 := Lib.hid (k3.set2 (Nat.le_of_eq HG.out.symm) (b := g + 2) (u := .int .i64 s3) (v := .slice A3 n3 c3) (by omega) (by simp <;> omega)).1
      have hr4 := Lib.hid (hr3.set2 (b := g + 2) (u := .int .i64 s3) (v := .slice A3 n3 c3) (fun a h => by have := hA a h; omega))
      have hA4 := Lib.hid (hA.mono (C := w.heap.size) (by have := HG.out; omega))
      clear hA k3 hr3 x2 x3
      go_wp2
      exact bodyPost_ret (v := .tuple #[.agg #[.int .i64 s3, .slice A3 n3 c3], .int .i64 ER]) (by simp [results, Tryd.results20, go_sem, e1, e2]) rfl ⟨s3, A3, n3, c3, l3, rfl, hr4.out, hstd, hA4.out, K4.out⟩
    · have hd2 : decide (cmpI (val a) (val b) < 0) = false := by
        unfold cmpI; rw [if_neg hlt]; split <;> rfl
      have hle := cn_le c2' c1'.1 (Int.le_of_not_gt hlt)
      rw [ha.len, hb.len] at hle
      have hv := sub_val c1'.1 c2'.1 (Int.le_of_not_gt hlt)
      have hm : s = 1 ∨ s = -1 ∨ digs (val a - val b).toNat = [] := by rcases m2 with h | h; exact Or.inl h; exact Or.inr (Or.inl h)
      have HM := Lib.hid (fun W (h : BxC w g [(0, 0, .int .i64 s), (0, 1, .slice A n cap), (1, 0, .int .i64 t), (1, 1, .slice A2 n2 cap2)] [(2, 0), (2, 1)] W) => (subD A A2 n cap n2 cap2 a b W (ha.up (flat_lasts _) h.1) (hb.up (flat_lasts _) h.1) c1'.1 c2'.1 (by omega) hle (Int.le_of_not_gt hlt)).mono fun e W' hd => hd.keep h (m := 2) (j := 0) (by simp))
      have HS := Lib.hid (fun A' n' c' W (hr : RdI W W.heap.size A' n' c' (digs (val a - val b).toNat)) (h : BxC w g [(0, 0, .int .i64 s), (0, 1, .slice A n cap), (1, 0, .int .i64 t), (1, 1, .slice A2 n2 cap2)] [(2, 0), (2, 1)] W) => (signedD s A' n' c' _ _ W hr (digs_cn _) hm (show s * val (digs (val a - val b).toNat) = bval s a + bval t b by rw [hv]; exact m4)).mono fun e W' hd => hd.keep h)
      clear m1 m2 m3 m4 c1' c2' l1 l2 h1 h2 hs0 hs0' hlt hle hv hm
      generalize digs (val a - val b).toNat = D at *
      generalize bval s a + bval t b = Z at *
      generalize resZ true Z = RS at *
      generalize errZ true Z = ER at *
      generalize cmpI (val a) (val b) = CM at *
      go_enter Tryd.func20, Tryd.ntmps20
      go_wp2_with fail
      rw [← HW.out, ← HG.out]
      refine (HR1.out _ hb0).mono ?_
      rintro e w1 ⟨rfl, hb1⟩
      have K1 := K0.keep hb1
      clear K0 c0 c1 c2 c3 c4 c5 c6 c7 hb1 hb0
      obtain ⟨hb0, ⟨⟨d0, d1⟩, d2, d3⟩, ⟨d4, d5⟩, d6, d7⟩ := raw2.1 K1
      go_wp2_with fail
      refine (HR2.out _ hb0).mono ?_
      rintro e w2 ⟨rfl, hb1⟩
      have K2 := K1.keep hb1
      clear K1 d0 d1 d2 d3 d4 d5 d6 d7 hb1 hb0
      obtain ⟨hb0, ⟨⟨d0, d1⟩, d2, d3⟩, ⟨d4, d5⟩, d6, d7⟩ := raw2.1 K2
      go_wp2_with fail
      refine (HCp.out _ K2).mono ?_
      rintro e w3 ⟨rfl, K3⟩
      clear hb0 d0 d1 d2 d3 d4 d5 d6 d7 K2
      have K2 := K3
      clear K3
      obtain ⟨hb0, ⟨⟨d0, d1⟩, d2, d3⟩, ⟨d4, d5⟩, d6, d7⟩ := raw2.1 K2
      go_wp2_with fail
      clear hb0 d0 d1 d2 d3 d4 d5 d6 d7
      go_region_held3 (fun W => Below w.heap.size w W ∧ ((W.cell? ⟨g, 0, none⟩ = some (.int .i64 s) ∧ W.cell? ⟨g, 1, none⟩ = some (.slice A n cap)) ∧ W.cell? ⟨g + 1, 0, none⟩ = some (.int .i64 t) ∧ W.cell? ⟨g + 1, 1, none⟩ = some (.slice A2 n2 cap2)) ∧ (W.cell? ⟨g + 2, 0, none⟩ = some (cellD W ⟨g + 2, 0, none⟩) ∧ W.cell? ⟨g + 2, 1, none⟩ = some (cellD W ⟨g + 2, 1, none⟩)) ∧ W.frozen? ⟨g + 2, 0, none⟩ = false ∧ W.frozen? ⟨g + 2, 1, none⟩ = false)
        ((refine raw2.1 ?_; first | assumption | exact K2.drew | exact BxC.set2 (Nat.le_of_eq HG.out.symm) (by assumption) (by omega) (by simp <;> omega) | exact raw2.2 (by assumption) | exact (raw2.2 (by assumption)).keep ((Below.refl _ _).alloc (Nat.le_refl _) _)))
        (first
          | (go_at_call 29; refine (HS.out _ _ _ _ (by first | assumption | exact hr2.up (flat_lasts _) ((Below.refl _ _).alloc (Nat.le_refl _) _)) (raw2.2 (by assumption))).mono ?_; rintro e w3 ⟨s6, A6, n6, c6, l6, rfl, hr6, hstd6, hf6, k6, -⟩)
          | (go_at_call 26; refine (HC.out _ _ _ _ _ _ (by assumption) (by assumption) (raw2.2 (by assumption))).mono ?_; rintro e w3 ⟨s3, A3, n3, c3, l3, rfl, hr3, hstd, hf3, k3, -⟩)
          | (go_at_call 32; refine (HM.out _ (raw2.2 (by assumption))).mono ?_; rintro e w2 ⟨A5, n5, c5, rfl, hr2, hf2, k2, b2⟩))
      have hA := hf3 _ (hf6 _ hf2)
      clear hf3 hf6 hf2 hr2 k2 hr6 hstd6 k6 K2 b2
      obtain ⟨-, -, ⟨x2, x3⟩, -⟩ := raw2.1 k3
      obtain ⟨e1, e2⟩ := set2_cells (u := .int .i64 s3) (v := .slice A3 n3 c3) x2 x3
      have K4 := Lib.hid (k3.set2 (Nat.le_of_eq HG.out.symm) (b := g + 2) (u := .int .i64 s3) (v := .slice A3 n3 c3) (by omega) (by simp <;> omega)).1
      have hr4 := Lib.hid (hr3.set2 (b := g + 2) (u := .int .i64 s3) (v := .slice A3 n3 c3) (fun a h => by have := hA a h; omega))
      have hA4 := Lib.hid (hA.mono (C := w.heap.size) (by have := HG.out; omega))
      clear hA k3 hr3 x2 x3
      go_wp2
      exact bodyPost_ret (v := .tuple #[.agg #[.int .i64 s3, .slice A3 n3 c3], .int .i64 ER]) (by simp [results, Tryd.results20, go_sem, e1, e2]) rfl ⟨s3, A3, n3, c3, l3, rfl, hr4.out, hstd, hA4.out, K4.out⟩
end Go.Proofs.YtkeajohkpmabcaaDoor
