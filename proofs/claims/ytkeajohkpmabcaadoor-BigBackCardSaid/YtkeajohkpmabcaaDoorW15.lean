
/- Walk over Gcd of package big. Conditions stand in the theorem. -/
import Derived.Test.YtkeajohkpmabcaaDoorW14
namespace Go.Proofs.YtkeajohkpmabcaaDoor
open Go.RowKit
set_option linter.unusedVariables false

/-- what Gcd returns -/
def gcdZ (ok : Bool) (x y : Int) : Int := if ok = true then (Int.gcd x y : Int) else 0
def okE (ok : Bool) : Int := if ok = true then 0 else 1
/-- on the way: digits whose greatest common divisor is G -/
def GcI (G : Nat) (dx dy : List Int) : Prop := Cn dx ∧ Cn dy ∧ dx.length ≤ 60 ∧ dy.length ≤ 60 ∧ Int.gcd (val dx) (val dy) = G
theorem bval_abs {s : Int} {l : List Int} (h : rightB s l = true) : (bval s l).natAbs = (val l).natAbs := by
  rcases (rightB_cn h).2.2 with ⟨rfl, rfl⟩ | ⟨-, rfl | rfl⟩ <;> simp [bval, val]
theorem GcI.start {s t : Int} {a b : List Int} (h1 : rightB s a = true) (h2 : rightB t b = true) : GcI (Int.gcd (bval s a) (bval t b)) a b := by
  obtain ⟨c1, l1, -⟩ := rightB_cn h1
  obtain ⟨c2, l2, -⟩ := rightB_cn h2
  refine ⟨c1, c2, l1, l2, ?_⟩
  unfold Int.gcd
  rw [bval_abs h1, bval_abs h2]
theorem GcI.step {G : Nat} {dx dy : List Int} (h : GcI G dx dy) (hy : dy ≠ []) : GcI G dy (digs (val dx % val dy).toNat) ∧ (val (digs (val dx % val dy).toNat)).toNat < (val dy).toNat := by
  obtain ⟨c1, c2, l1, l2, hg⟩ := h
  have hp := c2.pos hy
  have h1 := Int.emod_nonneg (val dx) (b := val dy) (by omega)
  have h2 := Int.emod_lt_of_pos (val dx) hp
  have hv : val (digs (val dx % val dy).toNat) = val dx % val dy := by rw [digs_val]; omega
  refine ⟨⟨c2, digs_cn _, l2, ?_, ?_⟩, by rw [hv]; omega⟩
  · refine digs_small (n := 60) ?_
    have h3 := val_lt c2.1
    have h4 := pw_le l2
    omega
  · rw [hv, ← hg]
    obtain ⟨X, hX⟩ := Int.eq_ofNat_of_zero_le (val_nonneg c1.1)
    obtain ⟨Y, hY⟩ := Int.eq_ofNat_of_zero_le (val_nonneg c2.1)
    rw [hX, hY]
    show Nat.gcd Y (X % Y) = Nat.gcd X Y
    rw [Nat.gcd_comm X Y, Nat.gcd_rec Y X, Nat.gcd_comm]
theorem GcI.fin {G : Nat} {dx : List Int} (h : GcI G dx []) : val dx = (G : Int) := by
  obtain ⟨c1, -, -, -, hg⟩ := h
  have h0 := val_nonneg c1.1
  have : val [] = 0 := rfl
  rw [this, Int.gcd_zero_right] at hg
  omega
set_option maxRecDepth 100000 in
set_option maxHeartbeats 2000000 in
theorem bGcd_any (s t : Int) (A A2 : Option Addr) (n cap n2 cap2 : Nat) (a b : List Int) (w : World) (ha : RdI w w.heap.size A n cap a) (hb : RdI w w.heap.size A2 n2 cap2 b) :
    Calls Tryd.prog 12 #[.agg #[.int .i64 s, .slice A n cap], .agg #[.int .i64 t, .slice A2 n2 cap2]] w (BigE w (gcdZ (rightB s a && rightB t b) (bval s a) (bval t b)) (okE (rightB s a && rightB t b))) := by
  have hcap := ha.caps
  have hcap2 := hb.caps
  have K0 := box2 w (.int .i64 s) (.slice A n cap) (.int .i64 t) (.slice A2 n2 cap2) (.int .i64 0) (.slice none 0 0) 24 24 24
  have HR1 := Lib.hid (fun W (h : Below w.heap.size w W) => bright_any s A n cap a W (ha.up (flat_lasts _) h))
  have HR2 := Lib.hid (fun W (h : Below w.heap.size w W) => bright_any t A2 n2 cap2 b W (hb.up (flat_lasts _) h))
  obtain ⟨w0, hw0⟩ : ∃ w0, w0 = ((w.alloc (.cells #[.int .i64 s, .slice A n cap] 24)).alloc (.cells #[.int .i64 t, .slice A2 n2 cap2] 24)).alloc (.cells #[.int .i64 0, .slice none 0 0] 24) := ⟨_, rfl⟩
  rw [← hw0] at K0
  obtain ⟨g, hg⟩ : ∃ g, g = w.heap.size := ⟨_, rfl⟩
  rw [← hg] at K0
  have HW := Lib.hid hw0; have HG := Lib.hid hg
  clear hw0 hg
  obtain ⟨hb0, ⟨⟨c0, c1⟩, c2, c3⟩, ⟨c4, c5⟩, c6, c7⟩ := raw2.1 K0
  have resZ_false : ∀ {x y : Int}, gcdZ false x y = 0 := fun {x y} => by unfold gcdZ; simp
  have errZ_false : okE false = 1 := rfl
  cases h1 : rightB s a
  · rw [h1] at HR1
    rw [Bool.false_and, resZ_false, errZ_false]
    clear h1 resZ_false errZ_false
    go_enter Tryd.func12, Tryd.ntmps12
    go_wp2_with fail
    rw [← HW.out, ← HG.out]
    refine (HR1.out _ hb0).mono ?_
    rintro e w1 ⟨rfl, hb1⟩
    have K1 := K0.keep hb1
    clear hb1
    have K2 := K1
    obtain ⟨hb0, ⟨⟨d0, d1⟩, d2, d3⟩, ⟨d4, d5⟩, d6, d7⟩ := raw2.1 K2
    clear K0 K1 c0 c1 c2 c3 c4 c5 c6 c7 hb0
    go_wp2_with fail
    refine (checkedD false 0 none 0 0 [] 0 _ Rd.nil Std.zero).mono ?_
    rintro e w3 hch
    rw [resZ_false, errZ_false] at hch
    obtain ⟨s3, A3, n3, c3, l3, rfl, hr3, hstd, hf3, k3, -⟩ := hch.keep K2
    have hA := hf3 (g + 2 + 1) FrA.none
    obtain ⟨-, -, ⟨x2, x3⟩, y2, y3⟩ := raw2.1 k3
    obtain ⟨e1, e2⟩ := set2_cells (u := .int .i64 s3) (v := .slice A3 n3 c3) x2 x3
    have K4 := Lib.hid (k3.set2 (Nat.le_of_eq HG.out.symm) (b := g + 2) (u := .int .i64 s3) (v := .slice A3 n3 c3) (by omega) (by simp <;> omega)).1
    have hr4 := Lib.hid (hr3.set2 (b := g + 2) (u := .int .i64 s3) (v := .slice A3 n3 c3) (fun a h => by have := hA a h; omega))
    have hA4 := Lib.hid (hA.mono (C := w.heap.size) (by have := HG.out; omega))
    clear hA k3 hf3 hr3 K2 d0 d1 d2 d3 d4 d5 d6 d7
    go_wp2
    exact bodyPost_ret (v := .tuple #[.agg #[.int .i64 s3, .slice A3 n3 c3], .int .i64 1]) (by simp [results, Tryd.results12, go_sem, e1, e2]) rfl ⟨s3, A3, n3, c3, l3, rfl, hr4.out, hstd, hA4.out, K4.out⟩
  cases h2 : rightB t b
  · rw [h1] at HR1
    rw [h2] at HR2
    rw [Bool.true_and, resZ_false, errZ_false]
    clear h1 h2 resZ_false errZ_false
    go_enter Tryd.func12, Tryd.ntmps12
    go_wp2_with fail
    rw [← HW.out, ← HG.out]
    refine (HR1.out _ hb0).mono ?_
    rintro e w1 ⟨rfl, hb1⟩
    have K1 := K0.keep hb1
    clear K0 c0 c1 c2 c3 c4 c5 c6 c7 hb1 hb0
    obtain ⟨hb0, ⟨⟨d0, d1⟩, d2, d3⟩, ⟨d4, d5⟩, d6, d7⟩ := raw2.1 K1
    go_wp2_with fail
    refine (HR2.out _ hb0).mono ?_
    rintro e w2 ⟨rfl, hb1⟩
    have K2 := K1.keep hb1
    clear K1 d0 d1 d2 d3 d4 d5 d6 d7 hb1 hb0
    have K1 := K2
    have K0 := K2
    clear K2
    obtain ⟨hb0, ⟨⟨c0, c1⟩, c2, c3⟩, ⟨c4, c5⟩, c6, c7⟩ := raw2.1 K1
    have K2 := K1
    obtain ⟨hb0, ⟨⟨d0, d1⟩, d2, d3⟩, ⟨d4, d5⟩, d6, d7⟩ := raw2.1 K2
    clear K0 K1 c0 c1 c2 c3 c4 c5 c6 c7 hb0
    go_wp2_with fail
    refine (checkedD false 0 none 0 0 [] 0 _ Rd.nil Std.zero).mono ?_
    rintro e w3 hch
    rw [resZ_false, errZ_false] at hch
    obtain ⟨s3, A3, n3, c3, l3, rfl, hr3, hstd, hf3, k3, -⟩ := hch.keep K2
    have hA := hf3 (g + 2 + 1) FrA.none
    obtain ⟨-, -, ⟨x2, x3⟩, y2, y3⟩ := raw2.1 k3
    obtain ⟨e1, e2⟩ := set2_cells (u := .int .i64 s3) (v := .slice A3 n3 c3) x2 x3
    have K4 := Lib.hid (k3.set2 (Nat.le_of_eq HG.out.symm) (b := g + 2) (u := .int .i64 s3) (v := .slice A3 n3 c3) (by omega) (by simp <;> omega)).1
    have hr4 := Lib.hid (hr3.set2 (b := g + 2) (u := .int .i64 s3) (v := .slice A3 n3 c3) (fun a h => by have := hA a h; omega))
    have hA4 := Lib.hid (hA.mono (C := w.heap.size) (by have := HG.out; omega))
    clear hA k3 hf3 hr3 K2 d0 d1 d2 d3 d4 d5 d6 d7
    go_wp2
    exact bodyPost_ret (v := .tuple #[.agg #[.int .i64 s3, .slice A3 n3 c3], .int .i64 1]) (by simp [results, Tryd.results12, go_sem, e1, e2]) rfl ⟨s3, A3, n3, c3, l3, rfl, hr4.out, hstd, hA4.out, K4.out⟩
  have hok : gcdZ (true && true) (bval s a) (bval t b) = (Int.gcd (bval s a) (bval t b) : Int) := by unfold gcdZ; simp
  have hok2 : okE (true && true) = 0 := rfl
  rw [h1] at HR1
  rw [h2] at HR2
  rw [hok, hok2]
  have HG0 := Lib.hid (GcI.start h1 h2)
  have l1 := (rightB_cn h1).2.1
  rw [ha.len] at l1
  generalize Int.gcd (bval s a) (bval t b) = G at *
  clear hok hok2 h1 h2 resZ_false errZ_false
  have HCl := Lib.hid (fun W (h : BxC w g [(0, 0, .int .i64 s), (0, 1, .slice A n cap), (1, 0, .int .i64 t), (1, 1, .slice A2 n2 cap2)] [(2, 0), (2, 1)] W) => (cloneD A n cap a W (ha.up (flat_lasts _) h.1) (by omega)).mono fun e W' hd => hd.keep h (m := 2) (j := 0) (by simp))
  have HHb := Lib.hid hb
  go_enter Tryd.func12, Tryd.ntmps12
  go_wp2_with fail
  rw [← HW.out, ← HG.out]
  refine (HR1.out _ hb0).mono ?_
  rintro e w1 ⟨rfl, hb1⟩
  have K1 := K0.keep hb1
  clear K0 c0 c1 c2 c3 c4 c5 c6 c7 hb1 hb0
  obtain ⟨hb0, ⟨⟨d0, d1⟩, d2, d3⟩, ⟨d4, d5⟩, d6, d7⟩ := raw2.1 K1
  go_wp2_with fail
  refine (HR2.out _ hb0).mono ?_
  rintro e w2 ⟨rfl, hb1⟩
  have K2 := K1.keep hb1
  clear K1 d0 d1 d2 d3 d4 d5 d6 d7 hb1 hb0
  obtain ⟨hb0, ⟨⟨d0, d1⟩, d2, d3⟩, ⟨d4, d5⟩, d6, d7⟩ := raw2.1 K2
  go_wp2_with fail
  clear hb0 d0 d1 d2 d3 d4 d5 d6 d7
  go_region_held3 (fun W => Below w.heap.size w W ∧ ((W.cell? ⟨g, 0, none⟩ = some (.int .i64 s) ∧ W.cell? ⟨g, 1, none⟩ = some (.slice A n cap)) ∧ W.cell? ⟨g + 1, 0, none⟩ = some (.int .i64 t) ∧ W.cell? ⟨g + 1, 1, none⟩ = some (.slice A2 n2 cap2)) ∧ (W.cell? ⟨g + 2, 0, none⟩ = some (cellD W ⟨g + 2, 0, none⟩) ∧ W.cell? ⟨g + 2, 1, none⟩ = some (cellD W ⟨g + 2, 1, none⟩)) ∧ W.frozen? ⟨g + 2, 0, none⟩ = false ∧ W.frozen? ⟨g + 2, 1, none⟩ = false)
    ((refine raw2.1 ?_; first | assumption | exact K2.drew | exact raw2.2 (by assumption)))
    (first
      | (go_at_call 27; refine (HCl.out _ (raw2.2 (by assumption))).mono ?_; rintro e w3 ⟨A5, n5, c5, rfl, hr5, -, k5, -⟩))
  have hbw := Lib.hid (HHb.out.up (flat_lasts _) k5.1)
  clear K2
  go_wp2_with fail
  go_loopg [6, 7] (val b).toNat (fun gk x y wr => ∃ Ax nx cx dx Ay ny cy dy, x = .slice Ax nx cx ∧ y = .slice Ay ny cy ∧ RdI wr wr.heap.size Ax nx cx dx ∧ RdI wr wr.heap.size Ay ny cy dy ∧ GcI G dx dy ∧ gk = (val dy).toNat ∧ BxC w g [(0, 0, .int .i64 s), (0, 1, .slice A n cap), (1, 0, .int .i64 t), (1, 1, .slice A2 n2 cap2)] [(2, 0), (2, 1)] wr)
  case atStart => exact ⟨A5, n5, c5, a, A2, n2, cap2, b, rfl, rfl, hr5, hbw.out, HG0.out, rfl, k5⟩
  case round =>
    obtain ⟨Ax, nx, cx, dx, Ay, ny, cy, dy, rfl, rfl, rx, ry, hI, rfl, K⟩ := hrel
    have hlx := rx.len
    have hly := ry.len
    have HI := Lib.hid hI
    obtain ⟨cdx, cdy, lx, ly, -⟩ := hI
    rw [hlx] at lx
    rw [hly] at ly
    rcases Nat.eq_zero_or_pos ny with h0 | h0
    · have hdy : dy = [] := List.eq_nil_of_length_eq_zero (by omega)
      subst hdy
      have hv := HI.out.fin
      have hd : decide (0 < ny) = false := decide_eq_false (by omega)
      have hfit : fits (G : Int) = true := fits_iff.2 (by
        have h3 := val_lt cdx.1
        rw [hlx] at h3
        have h4 := pw_le lx
        omega)
      have e1 : resZ true (G : Int) = G := by unfold resZ; rw [if_pos ⟨rfl, hfit⟩]
      have e2 : errZ true (G : Int) = 0 := by unfold errZ; rw [if_neg (by simp), if_pos hfit]
      have HC2 := Lib.hid (fun W (hb : Below wr.heap.size wr W) (h : BxC w g [(0, 0, .int .i64 s), (0, 1, .slice A n cap), (1, 0, .int .i64 t), (1, 1, .slice A2 n2 cap2)] [(2, 0), (2, 1)] W) => (cloneD Ax nx cx dx W (rx.up (flat_lasts _) hb) (by omega)).mono fun e W' hd => hd.keep h (m := 2) (j := 0) (by simp))
      have HS := Lib.hid (fun A' n' c' W (hr : RdI W W.heap.size A' n' c' dx) (h : BxC w g [(0, 0, .int .i64 s), (0, 1, .slice A n cap), (1, 0, .int .i64 t), (1, 1, .slice A2 n2 cap2)] [(2, 0), (2, 1)] W) => (signedD 1 A' n' c' _ (G : Int) W hr cdx (Or.inl rfl) (by rw [Int.one_mul]; exact hv)).mono fun e W' hd => hd.keep h)
      have HC := Lib.hid (fun s' A' n' c' l' W (hr : RdI W W.heap.size A' n' c' l') (hz : Std s' l' (G : Int)) (h : BxC w g [(0, 0, .int .i64 s), (0, 1, .slice A n cap), (1, 0, .int .i64 t), (1, 1, .slice A2 n2 cap2)] [(2, 0), (2, 1)] W) => (checkedD true s' A' n' c' l' _ W hr hz).mono fun e W' hd => hd.keep h)
      rw [e1, e2] at HC
      clear e1 e2 hfit hv h0 hlx hly lx ly cdx cdy HI rx ry HCl HG0
      go_wp2_with fail
      refine (HC2.out _ (Below.refl _ _) K).mono ?_
      rintro e w4 ⟨A6, n6, c6, rfl, hr6, hf6, k6, -⟩
      go_wp2_with fail
      refine (HS.out _ _ _ _ hr6 k6).mono ?_
      rintro e w5 ⟨s7, A7, n7, c7, l7, rfl, hr7, hstd7, hf7, k7, -⟩
      obtain ⟨hb0, ⟨⟨d0, d1⟩, d2, d3⟩, ⟨d4, d5⟩, d6, d7⟩ := raw2.1 k7
      go_wp2_with fail
      refine (HC.out _ _ _ _ _ _ hr7 hstd7 k7).mono ?_
      rintro e w6 ⟨s3, A3, n3, c3, l3, rfl, hr3, hstd, hf3, k3, -⟩
      have hA := hf3 _ (hf7 _ hf6)
      clear hb0 d0 d1 d2 d3 d4 d5 d6 d7 hr6 hf6 k6 hr7 hstd7 hf7 k7 K hf3
      obtain ⟨-, -, ⟨x2, x3⟩, y2, y3⟩ := raw2.1 k3
      obtain ⟨e1, e2⟩ := set2_cells (u := .int .i64 s3) (v := .slice A3 n3 c3) x2 x3
      have K4 := Lib.hid (k3.set2 (Nat.le_of_eq HG.out.symm) (b := g + 2) (u := .int .i64 s3) (v := .slice A3 n3 c3) (by omega) (by simp <;> omega)).1
      have hr4 := Lib.hid (hr3.set2 (b := g + 2) (u := .int .i64 s3) (v := .slice A3 n3 c3) (fun a h => by have := hA a h; omega))
      have hA4 := Lib.hid (hA.mono (C := w.heap.size) (by have := HG.out; omega))
      clear hA k3 hr3
      go_wp2
      exact bodyPost_ret (v := .tuple #[.agg #[.int .i64 s3, .slice A3 n3 c3], .int .i64 0]) (by simp [results, Tryd.results12, go_sem, e1, e2]) rfl ⟨s3, A3, n3, c3, l3, rfl, hr4.out, hstd, hA4.out, K4.out⟩
    · have hd : decide (0 < ny) = true := decide_eq_true h0
      have hne : dy ≠ [] := fun e => by rw [e] at hly; simp at hly; omega
      obtain ⟨g1, g2⟩ := HI.out.step hne
      have HN := Lib.hid g1; have HN2 := Lib.hid g2
      have HDv := Lib.hid (bdiv_any Ax Ay nx cx ny cy dx dy wr rx ry cdx cdy (by omega) (by omega) h0)
      clear g1 g2
      go_wp2_with fail
      refine HDv.out.mono ?_
      rintro e w4 ⟨Aq, nq, cq, Ar, nr, cr, rfl, rq, rr, -, hb4⟩
      have K4 := K.keep hb4
      have ry4 := ry.up (flat_lasts _) hb4
      clear rx ry K rq hb4 HDv
      go_wp2
      go_roundg ((val (digs (val dx % val dy).toNat)).toNat)
      case rel => exact ⟨Ay, ny, cy, dy, Ar, nr, cr, _, rfl, rfl, ry4, rr, HN.out, rfl, K4⟩
      case measure => exact HN2.out
end Go.Proofs.YtkeajohkpmabcaaDoor
