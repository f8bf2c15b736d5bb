/- Walk over the examples of the statements of layer 24. No condition. -/
import Derived.Test.YtmcamadcoglodaaS2
namespace Go.Proofs.Ytmcamadcoglodaa
open Go.RowKit
set_option linter.unusedVariables false

theorem small_solve {w w' : World} {e : Ending} (h : SolvePost w (exL 0) e w') : ∃ (R K : Nat → Int) (g1 g2 g3 : Nat), e = .returned (.tuple #[.agg #[.slice (some ⟨g1, 0, none⟩) 2 2, .slice (some ⟨g2, 1, none⟩) 2 2, .slice (some ⟨g3, 1, none⟩) 3 3], .int .i64 0]) ∧
    RdI w' w'.heap.size (some ⟨g1, 0, none⟩) 2 2 [1, 0] ∧ RdI w' w'.heap.size (some ⟨g2, 1, none⟩) 2 2 (ofF 2 R) ∧ RdI w' w'.heap.size (some ⟨g3, 1, none⟩) 3 3 (ofF 3 K) ∧ ChkP (exL 0) [1, 0] (ofF 2 R) (ofF 3 K) ∧ Below w.heap.size w w' := by
  rcases h with ⟨h, -⟩ | ⟨hr, T, R, K, g1, g2, g3, rfl, rT, rR, rK, hf, hc, hR, hK, hb⟩
  · rw [ex_cost.2.2] at h; cases h
  · obtain ⟨t0, t1⟩ := ex_first hf
    have e : ofF 2 (fun r => ((T r : Nat) : Int)) = [1, 0] := by
      show [((T 0 : Nat) : Int), ((T 1 : Nat) : Int)] = _
      rw [t0, t1]; rfl
    have hk := ce_chk hr rfl rfl hc hR hK
    have rT' : RdI w' w'.heap.size (some ⟨g1, 0, none⟩) 2 2 (ofF 2 (fun r => ((T r : Nat) : Int))) := rT
    have hk' : ChkP (exL 0) (ofF 2 (fun r => ((T r : Nat) : Int))) (ofF 2 R) (ofF 3 K) := hk
    rw [e] at rT' hk'
    exact ⟨R, K, g1, g2, g3, rfl, rT', rR, rK, hk', hb⟩
theorem small_regret {w w' : World} {e : Ending} (h : RegretPost w (exL 0) (exL 2) [1, 0] e w') : e = .returned (.tuple #[.int .i64 4, .int .i64 0]) ∧ Below w.heap.size w w' := by
  obtain ⟨r, er, rfl, hb, h | ⟨-, rfl, hy⟩⟩ := h
  · rw [ex_reg] at h; cases h.1
  · have := ex_regret hy
    subst this
    exact ⟨rfl, hb⟩
set_option maxRecDepth 100000 in
set_option maxHeartbeats 4000000 in
theorem small_any (w : World) : Calls Try.prog 7 #[] w fun e w' => e = .returned (.bool true) ∧ Below w.heap.size w w' := by
  have Ht0 := Lib.hid (fun w => table_any 0 (by omega) w)
  have Ht2 := Lib.hid (fun w => table_any 2 (by omega) w)
  have Hs := Lib.hid (fun A c w hl => (solve_any A 2 c (exL 0) w hl).mono fun e w' h => small_solve h)
  have Hc := Lib.hid (fun A c A2 c2 w hl ht => pcost_any A A2 2 c 2 c2 (exL 0) [1, 0] w hl ht)
  rw [ex_cost.1, ex_cost.2.1] at Hc
  have Hg := Lib.hid (fun A c A2 c2 A3 c3 w hl ht hto => (regret_any A A2 A3 2 c 2 c2 2 c3 (exL 0) (exL 2) [1, 0] w hl ht hto).mono fun e w' h => small_regret h)
  go_enter Try.func7, Try.ntmps7
  go_wp2_with fail
  refine (Ht0.out _).mono ?_
  rintro e w1 ⟨g1, rfl, rl, hb1⟩
  go_wp2_with fail
  refine (Hs.out _ _ _ rl).mono ?_
  rintro e w2 ⟨R, K, h1, h2, h3, rfl, ra, rR, rK, hchk, hb2⟩
  have hb2 := hb1.trans (hb2.mono hb1.size)
  go_wp2_with fail
  have hbM := (Below.refl w2.heap.size w2).alloc (Nat.le_refl _) (.cells #[.slice (some ⟨h1, 0, none⟩) 2 2, .slice (some ⟨h2, 1, none⟩) 2 2, .slice (some ⟨h3, 1, none⟩) 3 3] 25)
  have pm := Hb.new w2 #[.slice (some ⟨h1, 0, none⟩) 2 2, .slice (some ⟨h2, 1, none⟩) 2 2, .slice (some ⟨h3, 1, none⟩) 3 3] 25
  have ra := ra.up (flat_lasts _) hbM
  have rR := rR.up (flat_lasts _) hbM
  have rK := rK.up (flat_lasts _) hbM
  have hb3 := hb2.trans (hbM.mono hb2.size)
  obtain ⟨gm, hgm⟩ : ∃ g, g = w2.heap.size := ⟨_, rfl⟩
  rw [← hgm] at pm ⊢
  clear hbM hb2 hb1 rl hgm
  generalize w2.alloc (.cells #[.slice (some ⟨h1, 0, none⟩) 2 2, .slice (some ⟨h2, 1, none⟩) 2 2, .slice (some ⟨h3, 1, none⟩) 3 3] 25) = w3 at *
  refine (Ht0.out _).mono ?_
  rintro e w4 ⟨g4, rfl, rl, hb⟩
  have ra := ra.up (flat_lasts _) hb
  have rR := rR.up (flat_lasts _) hb
  have rK := rK.up (flat_lasts _) hb
  have pm := pm.below hb
  have hb4 := hb3.trans (hb.mono hb3.size)
  clear hb hb3
  go_wp2_with fail
  have lit := Rd.litG iSized (w := w4) 3 [1, 0] #[.int .i64 1, .int .i64 0] 2 w4.heap.size rfl rfl rfl (by omega)
  have hbL := (Below.refl w4.heap.size w4).alloc (Nat.le_refl _) (.cells #[.int .i64 1, .int .i64 0] 3)
  refine (Hc.out _ _ _ _ _ (rl.up ii_lasts hbL) lit).mono ?_
  rintro e w5 ⟨rfl, hb5⟩
  have hb := hbL.trans (hb5.mono hbL.size)
  have ra := ra.up (flat_lasts _) hb
  have rR := rR.up (flat_lasts _) hb
  have rK := rK.up (flat_lasts _) hb
  have pm := pm.below hb
  have hb5 := hb4.trans (hb.mono hb4.size)
  clear hb hbL hb4 rl lit
  go_wp2_with fail
  refine (Ht0.out _).mono ?_
  rintro e w6 ⟨g6, rfl, rl, hb⟩
  have ra := ra.up (flat_lasts _) hb
  have rR := rR.up (flat_lasts _) hb
  have rK := rK.up (flat_lasts _) hb
  have pm := pm.below hb
  have hb6 := hb5.trans (hb.mono hb5.size)
  clear hb hb5
  go_wp2_with fail
  refine (Ht2.out _).mono ?_
  rintro e w7 ⟨g7, rfl, rl2, hb⟩
  have ra := ra.up (flat_lasts _) hb
  have rR := rR.up (flat_lasts _) hb
  have rK := rK.up (flat_lasts _) hb
  have pm := pm.below hb
  have rl := rl.up ii_lasts hb
  have hb7 := hb6.trans (hb.mono hb6.size)
  clear hb hb6
  go_wp2_with fail
  have lit := Rd.litG iSized (w := w7) 3 [1, 0] #[.int .i64 1, .int .i64 0] 2 w7.heap.size rfl rfl rfl (by omega)
  have hbL := (Below.refl w7.heap.size w7).alloc (Nat.le_refl _) (.cells #[.int .i64 1, .int .i64 0] 3)
  refine (Hg.out _ _ _ _ _ _ _ (rl.up ii_lasts hbL) (rl2.up ii_lasts hbL) lit).mono ?_
  rintro e w8 ⟨rfl, hb8⟩
  have hb := hbL.trans (hb8.mono hbL.size)
  have ra := ra.up (flat_lasts _) hb
  have rR := rR.up (flat_lasts _) hb
  have rK := rK.up (flat_lasts _) hb
  have pm := pm.below hb
  have hb8 := hb7.trans (hb.mono hb7.size)
  clear hb hbL hb7 rl rl2 lit
  have l1 := Rd.litG iSized (w := w8) 3 [1, 0] #[.int .i64 1, .int .i64 0] 2 w8.heap.size rfl rfl rfl (by omega)
  have b1 := (Below.refl w8.heap.size w8).alloc (Nat.le_refl _) (.cells #[.int .i64 1, .int .i64 0] 3)
  have hz1 : (w8.alloc (.cells #[.int .i64 1, .int .i64 0] 3)).heap.size = w8.heap.size + 1 := by simp
  obtain ⟨wa, hwa⟩ : ∃ wa, wa = w8.alloc (.cells #[.int .i64 1, .int .i64 0] 3) := ⟨_, rfl⟩
  rw [← hwa] at l1 b1 hz1
  have l2 := Rd.litG iSized (w := wa) 3 [3, 2] #[.int .i64 3, .int .i64 2] 2 (w8.heap.size + 1) hz1 rfl rfl (by omega)
  have b2 := (Below.refl wa.heap.size wa).alloc (Nat.le_refl _) (.cells #[.int .i64 3, .int .i64 2] 3)
  have hz2 : (wa.alloc (.cells #[.int .i64 3, .int .i64 2] 3)).heap.size = w8.heap.size + 1 + 1 := by simp [hz1]
  obtain ⟨wb, hwb⟩ : ∃ wb, wb = wa.alloc (.cells #[.int .i64 3, .int .i64 2] 3) := ⟨_, rfl⟩
  rw [← hwb] at l2 b2 hz2
  have l3 := Rd.litG iSized (w := wb) 3 [0, -2, 0] #[.int .i64 0, .int .i64 (-2), .int .i64 0] 3 (w8.heap.size + 1 + 1) hz2 rfl rfl (by omega)
  have b3 := (Below.refl wb.heap.size wb).alloc (Nat.le_refl _) (.cells #[.int .i64 0, .int .i64 (-2), .int .i64 0] 3)
  have hz3 : (wb.alloc (.cells #[.int .i64 0, .int .i64 (-2), .int .i64 0] 3)).heap.size = w8.heap.size + 1 + 1 + 1 := by simp [hz2]
  obtain ⟨wc', hwc⟩ : ∃ wc', wc' = wb.alloc (.cells #[.int .i64 0, .int .i64 (-2), .int .i64 0] 3) := ⟨_, rfl⟩
  rw [← hwc] at l3 b3 hz3
  have b4 := (Below.refl wc'.heap.size wc').alloc (Nat.le_refl _) (.cells #[.slice (some ⟨w8.heap.size, 0, none⟩) 2 2, .slice (some ⟨w8.heap.size + 1, 0, none⟩) 2 2, .slice (some ⟨w8.heap.size + 1 + 1, 0, none⟩) 3 3] 25)
  have po : Hb (wc'.alloc (.cells #[.slice (some ⟨w8.heap.size, 0, none⟩) 2 2, .slice (some ⟨w8.heap.size + 1, 0, none⟩) 2 2, .slice (some ⟨w8.heap.size + 1 + 1, 0, none⟩) 3 3] 25)) (w8.heap.size + 1 + 1 + 1) #[.slice (some ⟨w8.heap.size, 0, none⟩) 2 2, .slice (some ⟨w8.heap.size + 1, 0, none⟩) 2 2, .slice (some ⟨w8.heap.size + 1 + 1, 0, none⟩) 3 3] 25 := Hb.newH hz3
  obtain ⟨w9, hw9⟩ : ∃ w9, w9 = wc'.alloc (.cells #[.slice (some ⟨w8.heap.size, 0, none⟩) 2 2, .slice (some ⟨w8.heap.size + 1, 0, none⟩) 2 2, .slice (some ⟨w8.heap.size + 1 + 1, 0, none⟩) 3 3] 25) := ⟨_, rfl⟩
  rw [← hw9] at b4 po
  have c23 := b3.trans (b4.mono b3.size)
  have c123 := b2.trans (c23.mono b2.size)
  have c0123 := b1.trans (c123.mono b1.size)
  have l1 := l1.up (flat_lasts _) c123
  have l2 := l2.up (flat_lasts _) c23
  have l3 := l3.up (flat_lasts _) b4
  have ra := ra.up (flat_lasts _) c0123
  have rR := rR.up (flat_lasts _) c0123
  have rK := rK.up (flat_lasts _) c0123
  have pm := pm.below c0123
  have hb9 := hb8.trans (c0123.mono hb8.size)
  have HW := Lib.hid (And.intro hwa (And.intro hwb (And.intro hwc hw9)))
  clear b1 b2 b3 b4 c23 c123 c0123 hz1 hz2 hz3 hwa hwb hwc hw9 hb8
  go_wp2_with fail
  obtain ⟨e1, e2, e3, e4⟩ := HW.out
  rw [← e1, ← e2, ← e3, ← e4]
  clear e1 e2 e3 e4 HW
  obtain ⟨go', hgo⟩ : ∃ g, g = w8.heap.size + 1 + 1 + 1 := ⟨_, rfl⟩
  rw [← hgo] at po ⊢
  obtain ⟨k3, hk3⟩ : ∃ g, g = w8.heap.size + 1 + 1 := ⟨_, rfl⟩
  rw [← hk3] at po l3 ⊢
  obtain ⟨k2, hk2⟩ : ∃ g, g = w8.heap.size + 1 := ⟨_, rfl⟩
  rw [← hk2] at po l2 ⊢
  obtain ⟨k1, hk1⟩ : ∃ g, g = w8.heap.size := ⟨_, rfl⟩
  rw [← hk1] at po l1 ⊢
  clear hgo hk3 hk2 hk1
  have Sk : ∀ w', Below w9.heap.size w9 w' → (Below w9.heap.size w9 w' ∧ w'.cell? ⟨gm, 0, none⟩ = some (.slice (some ⟨h1, 0, none⟩) 2 2) ∧ w'.cell? ⟨gm, 1, none⟩ = some (.slice (some ⟨h2, 1, none⟩) 2 2) ∧ w'.cell? ⟨gm, 2, none⟩ = some (.slice (some ⟨h3, 1, none⟩) 3 3) ∧ w'.cell? ⟨go', 0, none⟩ = some (.slice (some ⟨k1, 0, none⟩) 2 2) ∧ w'.cell? ⟨go', 1, none⟩ = some (.slice (some ⟨k2, 0, none⟩) 2 2) ∧ w'.cell? ⟨go', 2, none⟩ = some (.slice (some ⟨k3, 0, none⟩) 3 3)) := fun w' hb => ⟨hb, (pm.below hb).cell rfl, (pm.below hb).cell rfl, (pm.below hb).cell rfl, (po.below hb).cell rfl, (po.below hb).cell rfl, (po.below hb).cell rfl⟩
  have HSk := Lib.hid Sk
  have HI := Lib.hid (fun w' (hb : Below w9.heap.size w9 w') => (ints_any (some ⟨h1, 0, none⟩) (some ⟨w'.heap.size, 0, none⟩) 2 2 2 2 [1, 0] [1, 0] (w'.alloc (.cells #[.int .i64 1, .int .i64 0] 3)) (ra.up (flat_lasts _) (hb.alloc hb.size _)) (Rd.litG iSized (w := w') 3 [1, 0] #[.int .i64 1, .int .i64 0] 2 w'.heap.size rfl rfl rfl (by omega))).mono fun e w'' h => (show e = .returned (.bool true) ∧ Below w9.heap.size w9 w'' from ⟨by rw [h.1]; rfl, by obtain ⟨q, hq⟩ := h.2; rw [hq]; exact below_drewN (hb.alloc hb.size _) q⟩))
  have HT := Lib.hid (fun w' (hb : Below w9.heap.size w9 w') => (Ht0.out w').mono fun e w'' h => (show ∃ g, e = .returned (.slice (some ⟨g, 0, none⟩) 2 2) ∧ RdII w'' w''.heap.size (some ⟨g, 0, none⟩) 2 2 (exL 0) ∧ Below w9.heap.size w9 w'' from by obtain ⟨g, q1, q2, q3⟩ := h; exact ⟨g, q1, q2, hb.trans (q3.mono hb.size)⟩))
  have HK1 := Lib.hid (fun g w' (rl : RdII w' w'.heap.size (some ⟨g, 0, none⟩) 2 2 (exL 0)) (hb : Below w9.heap.size w9 w') => (check_any (some ⟨g, 0, none⟩) _ _ _ 2 2 2 2 2 2 3 3 (exL 0) [1, 0] (ofF 2 R) (ofF 3 K) w' rl (ra.up (flat_lasts _) hb) (rR.up (flat_lasts _) hb) (rK.up (flat_lasts _) hb)).mono fun e w'' h => (show e = .returned (.bool true) ∧ Below w9.heap.size w9 w'' from by obtain ⟨b, q1, q2, q3⟩ := h; exact ⟨by rw [q1, q2.2 hchk], hb.trans (q3.mono hb.size)⟩))
  have HK2 := Lib.hid (fun g w' (rl : RdII w' w'.heap.size (some ⟨g, 0, none⟩) 2 2 (exL 0)) (hb : Below w9.heap.size w9 w') => (check_any (some ⟨g, 0, none⟩) _ _ _ 2 2 2 2 2 2 3 3 (exL 0) [1, 0] [3, 2] [0, -2, 0] w' rl (l1.up (flat_lasts _) hb) (l2.up (flat_lasts _) hb) (l3.up (flat_lasts _) hb)).mono fun e w'' h => (show e = .returned (.bool true) ∧ Below w9.heap.size w9 w'' from by obtain ⟨b, q1, q2, q3⟩ := h; exact ⟨by rw [q1, q2.2 ex_own], hb.trans (q3.mono hb.size)⟩))
  have HR := Lib.hid (fun g w' (rl : RdII w' w'.heap.size (some ⟨g, 0, none⟩) 2 2 (exL 0)) (hb : Below w9.heap.size w9 w') => (right_any (some ⟨g, 0, none⟩) 2 2 (exL 0) w' rl).mono fun e w'' h => (show e = .returned (.bool true) ∧ Below w9.heap.size w9 w'' from ⟨by rw [h.1, ex_cost.2.2], hb.trans (h.2.mono hb.size)⟩))
  clear Sk Ht0 Ht2 Hs Hc Hg ra rR rK l1 l2 l3 pm po
  go_region_held3 (fun w' => Below w9.heap.size w9 w' ∧ w'.cell? ⟨gm, 0, none⟩ = some (.slice (some ⟨h1, 0, none⟩) 2 2) ∧ w'.cell? ⟨gm, 1, none⟩ = some (.slice (some ⟨h2, 1, none⟩) 2 2) ∧ w'.cell? ⟨gm, 2, none⟩ = some (.slice (some ⟨h3, 1, none⟩) 3 3) ∧ w'.cell? ⟨go', 0, none⟩ = some (.slice (some ⟨k1, 0, none⟩) 2 2) ∧ w'.cell? ⟨go', 1, none⟩ = some (.slice (some ⟨k2, 0, none⟩) 2 2) ∧ w'.cell? ⟨go', 2, none⟩ = some (.slice (some ⟨k3, 0, none⟩) 3 3))
    ((refine HSk.out _ ?_; first | assumption | exact (Below.refl _ _).drew | exact (Below.refl _ _).drew.alloc (Nat.le_refl _) _))
    (first
      | (go_at_call 13; refine (HI.out _ (by first | assumption | exact (Below.refl _ _).drew)).mono ?_; rintro e wx ⟨rfl, hbx⟩)
      | (go_at_call 26; refine (HT.out _ (by assumption)).mono ?_; rintro e wx ⟨gx, rfl, rlx, hbx⟩)
      | (go_at_call 18; with_reducible refine (HK1.out _ _ (by assumption) (by assumption)).mono ?_; rintro e wx ⟨rfl, hbx⟩)
      | (go_at_call 18; with_reducible refine (HK2.out _ _ (by assumption) (by assumption)).mono ?_; rintro e wx ⟨rfl, hbx⟩)
      | (go_at_call 11; refine (HR.out _ _ (by assumption) (by assumption)).mono ?_; rintro e wx ⟨rfl, hbx⟩))
  go_wp2
  first
    | exact ⟨rfl, hb9.trans ((by assumption : Below w9.heap.size w9 _).mono hb9.size)⟩
    | (go_ret; exact ⟨rfl, hb9.trans (hbx.mono hb9.size)⟩)
end Go.Proofs.Ytmcamadcoglodaa
