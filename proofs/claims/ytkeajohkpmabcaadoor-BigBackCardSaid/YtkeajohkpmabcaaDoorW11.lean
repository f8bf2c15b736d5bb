
/- Walk over Neg of package big. Conditions stand in the theorem. -/
import Derived.Test.YtkeajohkpmabcaaDoorG0
namespace Go.Proofs.YtkeajohkpmabcaaDoor
open Go.RowKit
set_option linter.unusedVariables false

/-- one boxed parameter, one result -/
theorem raw1 {w W : World} {g : Nat} {u0 u1 : Value} : BxC w g [(0, 0, u0), (0, 1, u1)] [(1, 0), (1, 1)] W ↔ (Below w.heap.size w W ∧ (W.cell? ⟨g, 0, none⟩ = some u0 ∧ W.cell? ⟨g, 1, none⟩ = some u1) ∧ (W.cell? ⟨g + 1, 0, none⟩ = some (cellD W ⟨g + 1, 0, none⟩) ∧ W.cell? ⟨g + 1, 1, none⟩ = some (cellD W ⟨g + 1, 1, none⟩)) ∧ W.frozen? ⟨g + 1, 0, none⟩ = false ∧ W.frozen? ⟨g + 1, 1, none⟩ = false) := by
  simp [BxC]
theorem box1 (w : World) (u0 u1 z0 z1 : Value) (t t' : TypeId) : BxC w w.heap.size [(0, 0, u0), (0, 1, u1)] [(1, 0), (1, 1)] ((w.alloc (.cells #[u0, u1] t)).alloc (.cells #[z0, z1] t')) := by
  rw [raw1, cellD_iff, cellD_iff]
  have hb1 := (Below.refl w.heap.size w).alloc (Nat.le_refl _) (.cells #[u0, u1] t)
  exact ⟨hb1.alloc hb1.size _, ⟨by simp, by simp⟩, ⟨by simp, by simp⟩, by simp, by simp⟩
/-- what Neg returns -/
def negZ (s : Int) (l : List Int) : Int := if rightB s l = true then -(bval s l) else 0
set_option maxRecDepth 100000 in
set_option maxHeartbeats 1000000 in
theorem bneg_any (s : Int) (A : Option Addr) (n cap : Nat) (l : List Int) (w : World) (hl : RdI w w.heap.size A n cap l) :
    Calls Tryd.prog 13 #[.agg #[.int .i64 s, .slice A n cap]] w (BigR w (negZ s l)) := by
  have hln := hl.len
  have hcap := hl.caps
  have K0 := box1 w (.int .i64 s) (.slice A n cap) (.int .i64 0) (.slice none 0 0) 24 24
  have HR := Lib.hid (fun W (h : Below w.heap.size w W) => bright_any s A n cap l W (hl.up (flat_lasts _) h))
  obtain ⟨w0, hw0⟩ : ∃ w0, w0 = (w.alloc (.cells #[.int .i64 s, .slice A n cap] 24)).alloc (.cells #[.int .i64 0, .slice none 0 0] 24) := ⟨_, rfl⟩
  rw [← hw0] at K0
  obtain ⟨g, hg⟩ : ∃ g, g = w.heap.size := ⟨_, rfl⟩
  rw [← hg] at K0
  have HW := Lib.hid hw0; have HG := Lib.hid hg
  clear hw0 hg
  obtain ⟨hb0, ⟨c0, c1⟩, ⟨c2, c3⟩, c4, c5⟩ := raw1.1 K0
  cases h1 : rightB s l
  · have hN : negZ s l = 0 := by unfold negZ; rw [h1]; rfl
    rw [hN]
    rw [h1] at HR
    clear hN h1
    go_enter Tryd.func13, Tryd.ntmps13
    go_wp2_with fail
    rw [← HW.out, ← HG.out]
    refine (HR.out _ hb0).mono ?_
    rintro e w1 ⟨rfl, hb1⟩
    have K1 := K0.keep hb1
    obtain ⟨hb0, ⟨d0, d1⟩, ⟨d2, d3⟩, d4, d5⟩ := raw1.1 K1
    obtain ⟨e1, e2⟩ := set2_cells (u := .int .i64 0) (v := .slice none 0 0) d2 d3
    have K2 := K1.set2 (Nat.le_of_eq HG.out.symm) (b := g + 1) (u := .int .i64 0) (v := .slice none 0 0) (by omega) (by simp)
    have Hb := Lib.hid K2.1
    clear K0 K1 K2 c0 c1 c2 c3 c4 c5 hb1
    go_wp2
    exact bodyPost_ret (v := .agg #[.int .i64 0, .slice none 0 0]) (by simp [results, Tryd.results13, go_sem, e1, e2]) rfl ⟨0, none, 0, 0, [], rfl, Rd.nil, Std.zero, FrA.none, Hb.out⟩
  · have hN : negZ s l = -(bval s l) := if_pos h1
    rw [hN]
    rw [h1] at HR
    obtain ⟨hcn, hl60, hsg⟩ := rightB_cn h1
    have hsb : -1 ≤ s ∧ s ≤ 1 := by rcases hsg with ⟨-, h⟩ | ⟨-, h | h⟩ <;> omega
    have hsn : -s = 1 ∨ -s = -1 ∨ l = [] := by rcases hsg with ⟨h, -⟩ | ⟨-, h | h⟩ <;> first | exact Or.inr (Or.inr h) | omega
    have hws : IntKind.i64.wrap (-s) = -s := IntWalk.i64_in _ (by omega)
    have hval : -s * val l = -(bval s l) := by unfold bval; rw [Int.neg_mul]
    have HC := Lib.hid (fun W (h : BxC w g [(0, 0, .int .i64 s), (0, 1, .slice A n cap)] [(1, 0), (1, 1)] W) => (cloneD A n cap l W (hl.up (flat_lasts _) h.1) (by omega)).mono fun e W' ⟨A', n', c', he, hr, hf, hb⟩ => (⟨A', n', c', he, hr, hf.mono (h.lt (m := 1) (j := 0) (by simp)), h.keep hb⟩ : ∃ A' n' c', e = Ending.returned (.slice A' n' c') ∧ RdI W' W'.heap.size A' n' c' l ∧ FrA (g + 1 + 1) A' ∧ BxC w g [(0, 0, .int .i64 s), (0, 1, .slice A n cap)] [(1, 0), (1, 1)] W'))
    have HS := Lib.hid (fun A' n' c' W (hr : RdI W W.heap.size A' n' c' l) (h : BxC w g [(0, 0, .int .i64 s), (0, 1, .slice A n cap)] [(1, 0), (1, 1)] W) => (signedD (-s) A' n' c' l _ W hr hcn hsn hval).mono fun e W' ⟨s', A2, n2, c2, l2, he, h1, h2, h3, h4⟩ => (⟨s', A2, n2, c2, l2, he, h1, h2, h3, h.keep h4⟩ : ∃ s' A2 n2 c2 l2, e = Ending.returned (.agg #[.int .i64 s', .slice A2 n2 c2]) ∧ RdI W' W'.heap.size A2 n2 c2 l2 ∧ Std s' l2 (-(bval s l)) ∧ (∀ B, FrA B A' → FrA B A2) ∧ BxC w g [(0, 0, .int .i64 s), (0, 1, .slice A n cap)] [(1, 0), (1, 1)] W'))
    clear hN h1 hsg hsn hval hcn
    go_enter Tryd.func13, Tryd.ntmps13
    go_wp2_with fail
    rw [← HW.out, ← HG.out]
    refine (HR.out _ hb0).mono ?_
    rintro e w1 ⟨rfl, hb1⟩
    have K1 := K0.keep hb1
    clear K0 c0 c1 c2 c3 c4 c5 hb1 hb0
    obtain ⟨hb0, ⟨d0, d1⟩, ⟨d2, d3⟩, d4, d5⟩ := raw1.1 K1
    go_wp2_with fail
    clear hb0 d0 d1 d2 d3 d4 d5
    go_region_held3 (fun W => Below w.heap.size w W ∧ (W.cell? ⟨g, 0, none⟩ = some (.int .i64 s) ∧ W.cell? ⟨g, 1, none⟩ = some (.slice A n cap)) ∧ (W.cell? ⟨g + 1, 0, none⟩ = some (cellD W ⟨g + 1, 0, none⟩) ∧ W.cell? ⟨g + 1, 1, none⟩ = some (cellD W ⟨g + 1, 1, none⟩)) ∧ W.frozen? ⟨g + 1, 0, none⟩ = false ∧ W.frozen? ⟨g + 1, 1, none⟩ = false)
      ((refine raw1.1 ?_; first | assumption | exact K1.drew | exact BxC.set2 (Nat.le_of_eq HG.out.symm) (by assumption) (by omega) (by simp)))
      (first
        | (go_at_call 27; refine (HC.out _ (raw1.2 (by assumption))).mono ?_; rintro e w2 ⟨A2, n2, c2, rfl, hr2, hf2, k2⟩)
        | (go_at_call 29; refine (HS.out _ _ _ _ (by assumption) (raw1.2 (by assumption))).mono ?_; rintro e w3 ⟨s3, A3, n3, c3, l3, rfl, hr3, hstd, hf3, k3⟩))
    have hA := hf3 _ hf2
    obtain ⟨-, -, ⟨x2, x3⟩, -⟩ := raw1.1 k3
    obtain ⟨e1, e2⟩ := set2_cells (u := .int .i64 s3) (v := .slice A3 n3 c3) x2 x3
    have K4 := Lib.hid (k3.set2 (Nat.le_of_eq HG.out.symm) (b := g + 1) (u := .int .i64 s3) (v := .slice A3 n3 c3) (by omega) (by simp)).1
    have hr4 := Lib.hid (hr3.set2 (b := g + 1) (u := .int .i64 s3) (v := .slice A3 n3 c3) (fun a h => by have := hA a h; omega))
    have hA4 := Lib.hid (hA.mono (C := w.heap.size) (by have := HG.out; omega))
    clear hA k2 k3 hr2 hf2 hf3 hr3 K1 x2 x3
    go_wp2
    exact bodyPost_ret (v := .agg #[.int .i64 s3, .slice A3 n3 c3]) (by simp [results, Tryd.results13, go_sem, e1, e2]) rfl ⟨s3, A3, n3, c3, l3, rfl, hr4.out, hstd, hA4.out, K4.out⟩
end Go.Proofs.YtkeajohkpmabcaaDoor
