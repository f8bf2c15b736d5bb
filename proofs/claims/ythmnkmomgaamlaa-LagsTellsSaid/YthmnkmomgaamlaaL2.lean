/- Walk over the examples of the statements of layer 15. No condition. -/
import Derived.Test.YthmnkmomgaamlaaL1
import Derived.Test.YthmnkmomgaamlaaG5
import Derived.Test.YthmnkmomgaamlaaLb
namespace Go.Proofs.Ythmnkmomgaamlaa
open Go.RowKit
set_option linter.unusedVariables false

theorem lag_info : (Try.prog.info? 47).map (fun i => (i.zero, i.size, i.bytes)) = some (some (.agg #[.int .i64 0, .int .i64 0, .int .i64 0, .int .i64 0]), 4, 32) := by kernel_rfl
set_option maxRecDepth 100000 in
set_option maxHeartbeats 4000000 in
theorem small_any (w : World) : Calls Try.prog 8 #[] w fun e w' => e = .returned (.bool true) ∧ Below w.heap.size w w' := by
  obtain ⟨i0, hi0, hz0, hz1, hz2⟩ := info_parts lag_info
  have Hs1 := Lib.hid (fun A c w hl => (solve_any 3 A 2 c someL w hl).mono fun e w' h => small_solve h)
  have Hs2 := Lib.hid (fun A c w hl => (solve_any 3 A 3 c moreL w hl).mono fun e w' h => small_more h)
  have Hl1 := Lib.hid (fun A c w hl => (latest_any 3 A 2 c someL 20 w hl).mono fun e w' h => small_latest (b := 9) (c := 20) h (by omega) (by omega) rfl)
  have Hl2 := Lib.hid (fun A c w hl => (latest_any 3 A 2 c someL 10 w hl).mono fun e w' h => small_latest (b := 7) (c := 10) h (by omega) (by omega) rfl)
  have Hl3 := Lib.hid (fun A c w hl => (latest_any 3 A 2 c someL 7 w hl).mono fun e w' h => small_late h)
  have Hi := Lib.hid (fun A B n m c d a b w h1 h2 => ints_any A B n m c d a b w h1 h2)
  have Hr1 := Lib.hid (fun A A2 c k c2 C w hl hc => refute_any 3 A A2 3 c k c2 moreL C w hl hc)
  have Hr2 := Lib.hid (fun A A2 c c2 w hl hc => refute_any 3 A A2 2 c 3 c2 someL threeC w hl hc)
  have Hc1 := Lib.hid (fun A A2 c c2 w hl ht => check_any 3 A A2 2 c 3 c2 someL [0, 5, 8] w hl ht (by decide))
  have Hc2 := Lib.hid (fun A A2 c c2 w hl ht => check_any 3 A A2 3 c 3 c2 moreL [0, 5, 8] w hl ht (by decide))
  obtain ⟨s1, s2, s3, s4⟩ := small_refs
  rw [s2] at Hr2
  rw [s3] at Hc1
  rw [s4] at Hc2
  have S1 := Lib.hid s1
  clear s1 s2 s3 s4
  have h28 : IntKind.i64.wrap 0 = 0 := rfl
  go_enter Try.func8, Try.ntmps8
  go_wp2_with fail
  refine (some_any _).mono ?_
  rintro e w1 ⟨g, rfl, rl, hb1⟩
  go_wp2_with fail
  refine (Hs1.out _ _ _ rl).mono ?_
  rintro e w2 ⟨g2, rfl, ra, hb2⟩
  have rl := rl.up (flat_lasts _) hb2
  have hb2 := hb1.trans (hb2.mono hb1.size)
  go_wp2_with fail
  refine (Hl1.out _ _ _ rl).mono ?_
  rintro e w3 ⟨A3, q3, rfl, rb, hb3⟩
  have rl := rl.up (flat_lasts _) hb3
  have ra := ra.up (flat_lasts _) hb3
  have hb3 := hb2.trans (hb3.mono hb2.size)
  go_wp2_with fail
  refine (Hl2.out _ _ _ rl).mono ?_
  rintro e w4 ⟨A4, q4, rfl, rc, hb4⟩
  have rl := rl.up (flat_lasts _) hb4
  have ra := ra.up (flat_lasts _) hb4
  have rb := rb.up (flat_lasts _) hb4
  have hb4 := hb3.trans (hb4.mono hb3.size)
  go_wp2_with fail
  refine (Hl3.out _ _ _ rl).mono ?_
  rintro e w5 ⟨v5, rfl, hb5⟩
  have rl := rl.up (flat_lasts _) hb5
  have ra := ra.up (flat_lasts _) hb5
  have rb := rb.up (flat_lasts _) hb5
  have rc := rc.up (flat_lasts _) hb5
  have hb5 := hb4.trans (hb5.mono hb4.size)
  go_wp2_with (at_builtin
               refine wpList_grow1 lSized rfl _ _ 22 rfl 47 i0 _ 32 Try.underlying22 hi0 hz0 hz1 hz2 rfl rl (Nat.le_refl _) rfl (by omega) (by omega) (0, 2, 0, 6) #[.int .i64 0, .int .i64 2, .int .i64 0, .int .i64 6] rfl w5.heap.size rfl rfl (by omega) (by omega) ?_
               intro v6 w6 ho6 hb6
               obtain ⟨A6, q6, hv6, rm⟩ := ho6.rd lSized (by decide)
               have hv6' : v6 = .slice A6 3 q6 := hv6
               subst hv6'
               have rm' : RdL w6 w6.heap.size A6 3 q6 moreL := rm)
  have rl := rl.up (flat_lasts _) hb6
  have ra := ra.up (flat_lasts _) hb6
  have rb := rb.up (flat_lasts _) hb6
  have rc := rc.up (flat_lasts _) hb6
  have hb6 := hb5.trans (hb6.mono hb5.size)
  clear rm ho6
  refine (Hs2.out _ _ _ rm').mono ?_
  rintro e w7 ⟨C, A7, k7, q7, rfl, rC, href, hb7⟩
  have Href := Lib.hid href
  clear href
  have rl := rl.up (flat_lasts _) hb7
  have ra := ra.up (flat_lasts _) hb7
  have rb := rb.up (flat_lasts _) hb7
  have rc := rc.up (flat_lasts _) hb7
  have rm' := rm'.up (flat_lasts _) hb7
  have hb7 := hb6.trans (hb7.mono hb6.size)
  go_wp2_with fail
  have hx := (Below.refl w7.heap.size w7).alloc (Nat.le_refl _) (.cells #[.int .i64 0, .int .i64 5, .int .i64 8] 3)
  refine (Hi.out _ _ 3 3 _ _ [0, 5, 8] [0, 5, 8] _ (ra.up (flat_lasts _) hx) (Rd.litG iSized (w := w7) 3 [0, 5, 8] #[.int .i64 0, .int .i64 5, .int .i64 8] 3 w7.heap.size rfl rfl rfl (by omega))).mono ?_
  rw [decide_eq_true rfl]
  rintro e w8 ⟨rfl, q, hw8⟩
  have hx8 : Below w7.heap.size w7 w8 := by rw [hw8]; exact below_drewN hx _
  clear hx hw8
  have rl := rl.up (flat_lasts _) hx8
  have ra := ra.up (flat_lasts _) hx8
  have rb := rb.up (flat_lasts _) hx8
  have rc := rc.up (flat_lasts _) hx8
  have rm' := rm'.up (flat_lasts _) hx8
  have rC := rC.up (flat_lasts _) hx8
  have hb8 := hb7.trans (hx8.mono hb7.size)
  go_wp2_with fail
  have hx := (Below.refl w8.heap.size w8).alloc (Nat.le_refl _) (.cells #[.int .i64 0, .int .i64 9, .int .i64 20] 3)
  refine (Hi.out _ _ 3 3 _ _ [0, 9, 20] [0, 9, 20] _ (rb.up (flat_lasts _) hx) (Rd.litG iSized (w := w8) 3 [0, 9, 20] #[.int .i64 0, .int .i64 9, .int .i64 20] 3 w8.heap.size rfl rfl rfl (by omega))).mono ?_
  rw [decide_eq_true rfl]
  rintro e w9 ⟨rfl, q, hw9⟩
  have hx9 : Below w8.heap.size w8 w9 := by rw [hw9]; exact below_drewN hx _
  clear hx hw9
  have rl := rl.up (flat_lasts _) hx9
  have ra := ra.up (flat_lasts _) hx9
  have rb := rb.up (flat_lasts _) hx9
  have rc := rc.up (flat_lasts _) hx9
  have rm' := rm'.up (flat_lasts _) hx9
  have rC := rC.up (flat_lasts _) hx9
  have hb9 := hb8.trans (hx9.mono hb8.size)
  go_wp2_with fail
  have hx := (Below.refl w9.heap.size w9).alloc (Nat.le_refl _) (.cells #[.int .i64 0, .int .i64 7, .int .i64 10] 3)
  refine (Hi.out _ _ 3 3 _ _ [0, 7, 10] [0, 7, 10] _ (rc.up (flat_lasts _) hx) (Rd.litG iSized (w := w9) 3 [0, 7, 10] #[.int .i64 0, .int .i64 7, .int .i64 10] 3 w9.heap.size rfl rfl rfl (by omega))).mono ?_
  rw [decide_eq_true rfl]
  rintro e w10 ⟨rfl, q, hw10⟩
  have hx10 : Below w9.heap.size w9 w10 := by rw [hw10]; exact below_drewN hx _
  clear hx hw10
  have rl := rl.up (flat_lasts _) hx10
  have ra := ra.up (flat_lasts _) hx10
  have rb := rb.up (flat_lasts _) hx10
  have rc := rc.up (flat_lasts _) hx10
  have rm' := rm'.up (flat_lasts _) hx10
  have rC := rC.up (flat_lasts _) hx10
  have hb10 := hb9.trans (hx10.mono hb9.size)
  go_wp2_with fail
  have hx := (Below.refl w10.heap.size w10).alloc (Nat.le_refl _) (.cells #[.int .i64 0, .int .i64 1, .int .i64 5, .int .i64 1, .int .i64 2, .int .i64 3, .int .i64 2, .int .i64 0, .int .i64 (-6)] 35)
  have rt : RdT _ _ _ 3 3 threeC := Rd.litG tSized (w := w10) 35 [(0, 1, 5), (1, 2, 3), (2, 0, -6)] #[.int .i64 0, .int .i64 1, .int .i64 5, .int .i64 1, .int .i64 2, .int .i64 3, .int .i64 2, .int .i64 0, .int .i64 (-6)] 3 w10.heap.size rfl rfl rfl (by omega)
  have rl := rl.up (flat_lasts _) hx
  have ra := ra.up (flat_lasts _) hx
  have rb := rb.up (flat_lasts _) hx
  have rc := rc.up (flat_lasts _) hx
  have rm' := rm'.up (flat_lasts _) hx
  have rC := rC.up (flat_lasts _) hx
  have hb11 := hb10.trans (hx.mono hb10.size)
  clear hx
  generalize w10.alloc (.cells #[.int .i64 0, .int .i64 1, .int .i64 5, .int .i64 1, .int .i64 2, .int .i64 3, .int .i64 2, .int .i64 0, .int .i64 (-6)] 35) = w11 at *
  refine (Hr1.out _ _ _ _ _ C _ rm' rC).mono ?_
  rw [Href.out]
  rintro e w12 ⟨rfl, hx12⟩
  have rl := rl.up (flat_lasts _) hx12
  have ra := ra.up (flat_lasts _) hx12
  have rb := rb.up (flat_lasts _) hx12
  have rc := rc.up (flat_lasts _) hx12
  have rm' := rm'.up (flat_lasts _) hx12
  have rC := rC.up (flat_lasts _) hx12
  have rt := rt.up (flat_lasts _) hx12
  have hb12 := hb11.trans (hx12.mono hb11.size)
  go_wp2_with fail
  refine (Hr1.out _ _ _ _ _ threeC _ rm' rt).mono ?_
  rw [S1.out]
  rintro e w13 ⟨rfl, hx13⟩
  have rl := rl.up (flat_lasts _) hx13
  have ra := ra.up (flat_lasts _) hx13
  have rb := rb.up (flat_lasts _) hx13
  have rc := rc.up (flat_lasts _) hx13
  have rm' := rm'.up (flat_lasts _) hx13
  have rC := rC.up (flat_lasts _) hx13
  have rt := rt.up (flat_lasts _) hx13
  have hb13 := hb12.trans (hx13.mono hb12.size)
  go_wp2_with fail
  refine (Hr2.out _ _ _ _ _ rl rt).mono ?_
  rintro e w14 ⟨rfl, hx14⟩
  have rl := rl.up (flat_lasts _) hx14
  have ra := ra.up (flat_lasts _) hx14
  have rb := rb.up (flat_lasts _) hx14
  have rc := rc.up (flat_lasts _) hx14
  have rm' := rm'.up (flat_lasts _) hx14
  have rC := rC.up (flat_lasts _) hx14
  have rt := rt.up (flat_lasts _) hx14
  have hb14 := hb13.trans (hx14.mono hb13.size)
  go_wp2_with fail
  refine (Hc1.out _ _ _ _ _ rl ra).mono ?_
  rintro e w15 ⟨rfl, hx15⟩
  have rl := rl.up (flat_lasts _) hx15
  have ra := ra.up (flat_lasts _) hx15
  have rb := rb.up (flat_lasts _) hx15
  have rc := rc.up (flat_lasts _) hx15
  have rm' := rm'.up (flat_lasts _) hx15
  have rC := rC.up (flat_lasts _) hx15
  have rt := rt.up (flat_lasts _) hx15
  have hb15 := hb14.trans (hx15.mono hb14.size)
  go_wp2_with fail
  refine (Hc2.out _ _ _ _ _ rm' ra).mono ?_
  rintro e w16 ⟨rfl, hx16⟩
  have rl := rl.up (flat_lasts _) hx16
  have ra := ra.up (flat_lasts _) hx16
  have rb := rb.up (flat_lasts _) hx16
  have rc := rc.up (flat_lasts _) hx16
  have rm' := rm'.up (flat_lasts _) hx16
  have rC := rC.up (flat_lasts _) hx16
  have rt := rt.up (flat_lasts _) hx16
  have hb16 := hb15.trans (hx16.mono hb15.size)
  go_wp2
  go_ret
  exact ⟨rfl, hb16⟩
end Go.Proofs.Ythmnkmomgaamlaa
