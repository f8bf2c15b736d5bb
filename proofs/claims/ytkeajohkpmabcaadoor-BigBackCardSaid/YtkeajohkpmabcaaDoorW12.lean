
/- Walk over Mul of package big. Conditions stand in the theorem. -/
import Derived.Test.YtkeajohkpmabcaaDoorG1
namespace Go.Proofs.YtkeajohkpmabcaaDoor
open Go.RowKit
set_option linter.unusedVariables false

theorem resZ_false {z : Int} : resZ false z = 0 := by unfold resZ; rw [if_neg (by simp)]
theorem errZ_false {z : Int} : errZ false z = 1 := by unfold errZ; rw [if_pos rfl]
theorem sign_mul {s t : Int} (h1 : s = 1 ∨ s = -1) (h2 : t = 1 ∨ t = -1) : s * t = 1 ∨ s * t = -1 := by
  rcases h1 with rfl | rfl <;> rcases h2 with rfl | rfl <;> simp
theorem mul_signs {s t : Int} {a b : List Int} (h1 : rightB s a = true) (h2 : rightB t b = true) : (s * t = 1 ∨ s * t = -1 ∨ digs (val a * val b).toNat = []) ∧ s * t * val (digs (val a * val b).toNat) = bval s a * bval t b ∧ IntKind.i64.wrap (s * t) = s * t := by
  obtain ⟨c1, l1, e1⟩ := rightB_cn h1
  obtain ⟨c2, l2, e2⟩ := rightB_cn h2
  have n1 := val_nonneg c1.1
  have n2 := val_nonneg c2.1
  have hv : val (digs (val a * val b).toNat) = val a * val b := by rw [digs_val]; have := Int.mul_nonneg n1 n2; omega
  refine ⟨?_, by rw [hv]; unfold bval; grind, ?_⟩
  · rcases e1 with ⟨rfl, rfl⟩ | ⟨-, e1⟩
    · right; right; simp [val, digs_zero]
    · rcases e2 with ⟨rfl, rfl⟩ | ⟨-, e2⟩
      · right; right; simp [val, digs_zero]
      · rcases sign_mul e1 e2 with h | h
        · exact Or.inl h
        · exact Or.inr (Or.inl h)
  · have : -1 ≤ s ∧ s ≤ 1 := by rcases e1 with ⟨-, h⟩ | ⟨-, h | h⟩ <;> omega
    have h3 : s = -1 ∨ s = 0 ∨ s = 1 := by omega
    have : -1 ≤ t ∧ t ≤ 1 := by rcases e2 with ⟨-, h⟩ | ⟨-, h | h⟩ <;> omega
    rcases h3 with rfl | rfl | rfl <;> exact IntWalk.i64_in _ (by omega)
set_option maxRecDepth 100000 in
set_option maxHeartbeats 1000000 in
theorem bMul_any (s t : Int) (A A2 : Option Addr) (n cap n2 cap2 : Nat) (a b : List Int) (w : World) (ha : RdI w w.heap.size A n cap a) (hb : RdI w w.heap.size A2 n2 cap2 b) :
    Calls Tryd.prog 16 #[.agg #[.int .i64 s, .slice A n cap], .agg #[.int .i64 t, .slice A2 n2 cap2]] w (BigE w (resZ (rightB s a && rightB t b) (bval s a * bval t b)) (errZ (rightB s a && rightB t b) (bval s a * bval t b))) := by
  have hcap := ha.caps
  have hcap2 := hb.caps
  have K0 := box2 w (.int .i64 s) (.slice A n cap) (.int .i64 t) (.slice A2 n2 cap2) (.int .i64 0) (.slice none 0 0) 24 24 24
  have HR1 := Lib.hid (fun W (h : Below w.heap.size w W) => bright_any s A n cap a W (ha.up (flat_lasts _) h))
  have HR2 := Lib.hid (fun W (h : Below w.heap.size w W) => bright_any t A2 n2 cap2 b W (hb.up (flat_lasts _) h))
  obtain ⟨w0, hw0⟩ : ∃ w0, w0 = ((w.alloc (.cells #[.int .i64 s, .slice A n cap] 24)).alloc (.cells #[.int .i64 t, .slice A2 n2 cap2] 24)).alloc (.cells #[.int .i64 0, .slice none 0 0] 24) := ⟨_, rfl⟩
  rw [← hw0] at K0
  obtain ⟨g, hg⟩ : ∃ g, g = w.heap.size := ⟨_, rfl⟩
  rw [← hg] at K0
  have HW := Lib.hid hw0; have HG := Lib.hid hg
  clear hw0 hg
  obtain ⟨hb0, ⟨⟨c0, c1⟩, c2, c3⟩, ⟨c4, c5⟩, c6, c7⟩ := raw2.1 K0
  cases h1 : rightB s a
  · rw [h1] at HR1
    rw [Bool.false_and, resZ_false, errZ_false]
    clear h1
    go_enter Tryd.func16, Tryd.ntmps16
    go_wp2_with fail
    rw [← HW.out, ← HG.out]
    refine (HR1.out _ hb0).mono ?_
    rintro e w1 ⟨rfl, hb1⟩
    have K1 := K0.keep hb1
    clear hb1
    have K2 := K1
    obtain ⟨hb0, ⟨⟨d0, d1⟩, d2, d3⟩, ⟨d4, d5⟩, d6, d7⟩ := raw2.1 K2
    clear K0 K1 c0 c1 c2 c3 c4 c5 c6 c7 hb0
    go_wp2_with fail
    refine (checkedD false 0 none 0 0 [] 0 _ Rd.nil Std.zero).mono ?_
    rintro e w3 hch
    rw [resZ_false, errZ_false] at hch
    obtain ⟨s3, A3, n3, c3, l3, rfl, hr3, hstd, hf3, k3, -⟩ := hch.keep K2
    have hA := hf3 (g + 2 + 1) FrA.none
    obtain ⟨-, -, ⟨x2, x3⟩, y2, y3⟩ := raw2.1 k3
    obtain ⟨e1, e2⟩ := set2_cells (u := .int .i64 s3) (v := .slice A3 n3 c3) x2 x3
    have K4 := Lib.hid (k3.set2 (Nat.le_of_eq HG.out.symm) (b := g + 2) (u := .int .i64 s3) (v := .slice A3 n3 c3) (by omega) (by simp <;> omega)).1
    have hr4 := Lib.hid (hr3.set2 (b := g + 2) (u := .int .i64 s3) (v := .slice A3 n3 c3) (fun a h => by have := hA a h; omega))
    have hA4 := Lib.hid (hA.mono (C := w.heap.size) (by have := HG.out; omega))
    clear hA k3 hf3 hr3 K2 d0 d1 d2 d3 d4 d5 d6 d7
    go_wp2
    exact bodyPost_ret (v := .tuple #[.agg #[.int .i64 s3, .slice A3 n3 c3], .int .i64 1]) (by simp [results, Tryd.results16, go_sem, e1, e2]) rfl ⟨s3, A3, n3, c3, l3, rfl, hr4.out, hstd, hA4.out, K4.out⟩
  cases h2 : rightB t b
  · rw [h1] at HR1
    rw [h2] at HR2
    rw [Bool.true_and, resZ_false, errZ_false]
    clear h1 h2
    go_enter Tryd.func16, Tryd.ntmps16
    go_wp2_with fail
    rw [← HW.out, ← HG.out]
    refine (HR1.out _ hb0).mono ?_
    rintro e w1 ⟨rfl, hb1⟩
    have K1 := K0.keep hb1
    clear K0 c0 c1 c2 c3 c4 c5 c6 c7 hb1 hb0
    obtain ⟨hb0, ⟨⟨d0, d1⟩, d2, d3⟩, ⟨d4, d5⟩, d6, d7⟩ := raw2.1 K1
    go_wp2_with fail
    refine (HR2.out _ hb0).mono ?_
    rintro e w2 ⟨rfl, hb1⟩
    have K2 := K1.keep hb1
    clear K1 d0 d1 d2 d3 d4 d5 d6 d7 hb1 hb0
    have K1 := K2
    have K0 := K2
    clear K2
    obtain ⟨hb0, ⟨⟨c0, c1⟩, c2, c3⟩, ⟨c4, c5⟩, c6, c7⟩ := raw2.1 K1
    have K2 := K1
    obtain ⟨hb0, ⟨⟨d0, d1⟩, d2, d3⟩, ⟨d4, d5⟩, d6, d7⟩ := raw2.1 K2
    clear K0 K1 c0 c1 c2 c3 c4 c5 c6 c7 hb0
    go_wp2_with fail
    refine (checkedD false 0 none 0 0 [] 0 _ Rd.nil Std.zero).mono ?_
    rintro e w3 hch
    rw [resZ_false, errZ_false] at hch
    obtain ⟨s3, A3, n3, c3, l3, rfl, hr3, hstd, hf3, k3, -⟩ := hch.keep K2
    have hA := hf3 (g + 2 + 1) FrA.none
    obtain ⟨-, -, ⟨x2, x3⟩, y2, y3⟩ := raw2.1 k3
    obtain ⟨e1, e2⟩ := set2_cells (u := .int .i64 s3) (v := .slice A3 n3 c3) x2 x3
    have K4 := Lib.hid (k3.set2 (Nat.le_of_eq HG.out.symm) (b := g + 2) (u := .int .i64 s3) (v := .slice A3 n3 c3) (by omega) (by simp <;> omega)).1
    have hr4 := Lib.hid (hr3.set2 (b := g + 2) (u := .int .i64 s3) (v := .slice A3 n3 c3) (fun a h => by have := hA a h; omega))
    have hA4 := Lib.hid (hA.mono (C := w.heap.size) (by have := HG.out; omega))
    clear hA k3 hf3 hr3 K2 d0 d1 d2 d3 d4 d5 d6 d7
    go_wp2
    exact bodyPost_ret (v := .tuple #[.agg #[.int .i64 s3, .slice A3 n3 c3], .int .i64 1]) (by simp [results, Tryd.results16, go_sem, e1, e2]) rfl ⟨s3, A3, n3, c3, l3, rfl, hr4.out, hstd, hA4.out, K4.out⟩
  rw [h1] at HR1
  rw [h2] at HR2
  rw [Bool.true_and]
  obtain ⟨c1', l1, e1'⟩ := rightB_cn h1
  obtain ⟨c2', l2, e2'⟩ := rightB_cn h2
  obtain ⟨m1, m2, m3⟩ := mul_signs h1 h2
  rw [ha.len] at l1
  rw [hb.len] at l2
  have HM := Lib.hid (fun W (h : BxC w g [(0, 0, .int .i64 s), (0, 1, .slice A n cap), (1, 0, .int .i64 t), (1, 1, .slice A2 n2 cap2)] [(2, 0), (2, 1)] W) => (mulD A A2 n cap n2 cap2 a b W (ha.up (flat_lasts _) h.1) (hb.up (flat_lasts _) h.1) c1'.1 c2'.1 (by omega) (by omega)).mono fun e W' hd => hd.keep h (m := 2) (j := 0) (by simp))
  have HS := Lib.hid (fun A' n' c' W (hr : RdI W W.heap.size A' n' c' (digs (val a * val b).toNat)) (h : BxC w g [(0, 0, .int .i64 s), (0, 1, .slice A n cap), (1, 0, .int .i64 t), (1, 1, .slice A2 n2 cap2)] [(2, 0), (2, 1)] W) => (signedD (s * t) A' n' c' _ _ W hr (digs_cn _) m1 m2).mono fun e W' hd => hd.keep h)
  have HC := Lib.hid (fun s' A' n' c' l' W (hr : RdI W W.heap.size A' n' c' l') (hz : Std s' l' (bval s a * bval t b)) (h : BxC w g [(0, 0, .int .i64 s), (0, 1, .slice A n cap), (1, 0, .int .i64 t), (1, 1, .slice A2 n2 cap2)] [(2, 0), (2, 1)] W) => (checkedD true s' A' n' c' l' _ W hr hz).mono fun e W' hd => hd.keep h)
  clear m1 m2 c1' c2' l1 l2 e1' e2' h1 h2
  generalize digs (val a * val b).toNat = D at *
  generalize bval s a * bval t b = Z at *
  generalize resZ true Z = RS at *
  generalize errZ true Z = ER at *
  go_enter Tryd.func16, Tryd.ntmps16
  go_wp2_with fail
  rw [← HW.out, ← HG.out]
  refine (HR1.out _ hb0).mono ?_
  rintro e w1 ⟨rfl, hb1⟩
  have K1 := K0.keep hb1
  clear K0 c0 c1 c2 c3 c4 c5 c6 c7 hb1 hb0
  obtain ⟨hb0, ⟨⟨d0, d1⟩, d2, d3⟩, ⟨d4, d5⟩, d6, d7⟩ := raw2.1 K1
  go_wp2_with fail
  refine (HR2.out _ hb0).mono ?_
  rintro e w2 ⟨rfl, hb1⟩
  have K2 := K1.keep hb1
  clear K1 d0 d1 d2 d3 d4 d5 d6 d7 hb1 hb0
  obtain ⟨hb0, ⟨⟨d0, d1⟩, d2, d3⟩, ⟨d4, d5⟩, d6, d7⟩ := raw2.1 K2
  go_wp2_with fail
  clear hb0 d0 d1 d2 d3 d4 d5 d6 d7
  go_region_held3 (fun W => Below w.heap.size w W ∧ ((W.cell? ⟨g, 0, none⟩ = some (.int .i64 s) ∧ W.cell? ⟨g, 1, none⟩ = some (.slice A n cap)) ∧ W.cell? ⟨g + 1, 0, none⟩ = some (.int .i64 t) ∧ W.cell? ⟨g + 1, 1, none⟩ = some (.slice A2 n2 cap2)) ∧ (W.cell? ⟨g + 2, 0, none⟩ = some (cellD W ⟨g + 2, 0, none⟩) ∧ W.cell? ⟨g + 2, 1, none⟩ = some (cellD W ⟨g + 2, 1, none⟩)) ∧ W.frozen? ⟨g + 2, 0, none⟩ = false ∧ W.frozen? ⟨g + 2, 1, none⟩ = false)
    ((refine raw2.1 ?_; first | assumption | exact K2.drew | exact BxC.set2 (Nat.le_of_eq HG.out.symm) (by assumption) (by omega) (by simp <;> omega) | exact raw2.2 (by assumption)))
    (first
      | (go_at_call 33; refine (HM.out _ (raw2.2 (by assumption))).mono ?_; rintro e w2 ⟨A5, n5, c5, rfl, hr2, hf2, k2, -⟩)
      | (go_at_call 29; refine (HS.out _ _ _ _ (by assumption) (raw2.2 (by assumption))).mono ?_; rintro e w3 ⟨s6, A6, n6, c6, l6, rfl, hr6, hstd6, hf6, k6, -⟩)
      | (go_at_call 26; refine (HC.out _ _ _ _ _ _ (by assumption) (by assumption) (raw2.2 (by assumption))).mono ?_; rintro e w3 ⟨s3, A3, n3, c3, l3, rfl, hr3, hstd, hf3, k3, -⟩))
  have hA := hf3 _ (hf6 _ hf2)
  clear hf3 hf6 hf2 hr2 k2 hr6 hstd6 k6 K2
  obtain ⟨-, -, ⟨x2, x3⟩, -⟩ := raw2.1 k3
  obtain ⟨e1, e2⟩ := set2_cells (u := .int .i64 s3) (v := .slice A3 n3 c3) x2 x3
  have K4 := Lib.hid (k3.set2 (Nat.le_of_eq HG.out.symm) (b := g + 2) (u := .int .i64 s3) (v := .slice A3 n3 c3) (by omega) (by simp <;> omega)).1
  have hr4 := Lib.hid (hr3.set2 (b := g + 2) (u := .int .i64 s3) (v := .slice A3 n3 c3) (fun a h => by have := hA a h; omega))
  have hA4 := Lib.hid (hA.mono (C := w.heap.size) (by have := HG.out; omega))
  clear hA k3 hr3 x2 x3
  go_wp2
  exact bodyPost_ret (v := .tuple #[.agg #[.int .i64 s3, .slice A3 n3 c3], .int .i64 ER]) (by simp [results, Tryd.results16, go_sem, e1, e2]) rfl ⟨s3, A3, n3, c3, l3, rfl, hr4.out, hstd, hA4.out, K4.out⟩
end Go.Proofs.YtkeajohkpmabcaaDoor
