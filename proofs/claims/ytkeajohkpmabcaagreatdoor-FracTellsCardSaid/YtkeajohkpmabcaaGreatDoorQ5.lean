
/- Walk over small of the law's package of layer 5. Conditions stand in each theorem. -/
import Derived.Test.YtkeajohkpmabcaaGreatDoorU
namespace Go.Proofs.YtkeajohkpmabcaaGreatDoor
open Go.RowKit
set_option linter.unusedVariables false
set_option linter.unusedSimpArgs false

theorem textL {L : List UInt8} (x : Rat) (s1 t1 : Int) (A1 B1 : Option Addr) (n1 c1 m1 d1 : Nat) (l1 k1 : List Int) (w : World) (r1 : RdI w w.heap.size A1 n1 c1 l1) (q1 : RdI w w.heap.size B1 m1 d1 k1) (h1 : StdF s1 l1 t1 k1 x) (f1 : fitsF x = true) (ht : Tab w) (hL : textQ x = L) :
    Calls Tryz.prog 58 #[.agg #[.int .i64 s1, .slice A1 n1 c1, .int .i64 t1, .slice B1 m1 d1]] w fun e w' => ∃ T : ByteArray, e = .returned (.string T) ∧ (T.toList == L) = true ∧ Below w.heap.size w w' := by
  refine (nTextF x s1 t1 A1 B1 n1 c1 m1 d1 l1 k1 w r1 q1 h1 f1 ht).mono fun e w' ⟨he, hb⟩ => ⟨_, he, ?_, hb⟩
  rw [Lib.toList_data, hL]
  exact beq_self_eq_true _
theorem ofF0 (w : World) : Calls Tryz.prog 48 #[.int .i64 1, .int .i64 0] w (FrE w none 15) := by
  have h := fOf_any 1 0 w (by decide) (by decide)
  rw [newO_zero, newE_zero] at h
  exact h
theorem readNoF (w : World) (ht : TabM w) : Calls Tryz.prog 50 #[.string ⟨#[50, 47, 52]⟩] w (FrE w none 2) := by
  refine (fRead_any ⟨#[50, 47, 52]⟩ w (by decide) ht).mono fun e w' ⟨o, ho, h⟩ => ?_
  have hn : ReadO [50, 47, 52] none := ReadO.no fun q hf hq => by
    obtain ⟨⟨-, h1⟩, -, h2⟩ := text_parts hf hq
    have h3 : readZ (Lib.cut ([50, 47, 52] : List UInt8) [47]).1 = 2 := by decide +kernel
    have h4 : readZ (Lib.cut ([50, 47, 52] : List UInt8) [47]).2.1 = 4 := by decide +kernel
    have h5 := gcd_parts q
    rw [← h1, ← h2, h3, h4] at h5
    revert h5
    decide
  have e0 : o = none := ReadO.unique ho hn
  subst e0
  exact h
theorem text32 : textQ (Rat.divInt (-3) 2) = [45, 51, 47, 50] := textQ_at (L1 := [45, 51]) (L2 := [50]) (by decide) (by decide) (by decide +kernel) (by decide +kernel)
theorem readYesF (w : World) (ht : TabM w) : Calls Tryz.prog 50 #[.string ⟨#[45, 51, 47, 50]⟩] w (FrE w (some (Rat.divInt (-3) 2)) 0) := by
  refine (fRead_any ⟨#[45, 51, 47, 50]⟩ w (by decide) ht).mono fun e w' ⟨o, ho, h⟩ => ?_
  have hn : ReadO [45, 51, 47, 50] (some (Rat.divInt (-3) 2)) := by
    have h1 : fitsF (Rat.divInt (-3) 2) = true := ht_fits (k := 1) (ht_of (by decide) (by decide) (by decide)) (by decide)
    have h2 := ReadO.of_text h1
    rw [text32] at h2
    exact h2
  have e0 := ReadO.unique ho hn
  subst e0
  exact h
set_option maxRecDepth 100000 in
set_option maxHeartbeats 8000000 in
theorem small5_any (w : World) (htab : TabM w) : Calls Tryz.prog 37 #[] w fun e w' => e = .returned (.bool true) ∧ Below w.heap.size w w' := by
  have K := St.start w
  have r := K.raw
  have HTM := Lib.hid htab
  have HT := Lib.hid htab.1
  have g1 : ht (Rat.divInt 1 2) 1 := ht_of (by decide) (by decide) (by decide)
  have g2 : ht (Rat.divInt 1 3) 1 := ht_of (by decide) (by decide) (by decide)
  clear htab
  go_enter Tryz.func37, Tryz.ntmps37
  go_wp2_with (first | ((first | (apply K.alloc; rfl; rfl; (first | with_reducible exact big_zero | with_reducible exact frac_zero)) | (apply K.box; rfl; rfl; rfl)); clear K r; (first | (have := b12; clear this; intro W b13 K) | (have := b11; clear this; intro W b12 K) | (have := b10; clear this; intro W b11 K) | (have := b9; clear this; intro W b10 K) | (have := b8; clear this; intro W b9 K) | (have := b7; clear this; intro W b8 K) | (have := b6; clear this; intro W b7 K) | (have := b5; clear this; intro W b6 K) | (have := b4; clear this; intro W b5 K) | (have := b3; clear this; intro W b4 K) | (have := b2; clear this; intro W b3 K) | (have := b1; clear this; intro W b2 K) | (have := b0; clear this; intro W b1 K) | intro W b0 K); have r := K.rawS) | (apply K.storeA; rfl; rfl; rfl; rfl; rfl; (repeat (first | with_reducible exact Upd.head _ | with_reducible apply Upd.tail)); (first | with_reducible exact big_size | with_reducible exact frac_size); rfl; rfl; rfl; clear K r; intro W K; have r := K.rawS))
  refine (lof_any (1) (2) _ (by decide) (by decide) (by decide)).mono ?_
  rintro e W' ⟨s1, A1, n1, c1, l1, t1, B1, m1, d1, k1, rfl, ⟨hra, hrb⟩, hs1, ⟨hfa, hfb⟩, hb⟩
  replace K := K.retF hb hra hrb hfa hfb
  clear r
  have r := K.rawS
  clear hra hrb hfa hfb hb
  go_wp2_with (first | ((first | (apply K.alloc; rfl; rfl; (first | with_reducible exact big_zero | with_reducible exact frac_zero)) | (apply K.box; rfl; rfl; rfl)); clear K r; (first | (have := b12; clear this; intro W b13 K) | (have := b11; clear this; intro W b12 K) | (have := b10; clear this; intro W b11 K) | (have := b9; clear this; intro W b10 K) | (have := b8; clear this; intro W b9 K) | (have := b7; clear this; intro W b8 K) | (have := b6; clear this; intro W b7 K) | (have := b5; clear this; intro W b6 K) | (have := b4; clear this; intro W b5 K) | (have := b3; clear this; intro W b4 K) | (have := b2; clear this; intro W b3 K) | (have := b1; clear this; intro W b2 K) | (have := b0; clear this; intro W b1 K) | intro W b0 K); have r := K.rawS) | (apply K.storeA; rfl; rfl; rfl; rfl; rfl; (repeat (first | with_reducible exact Upd.head _ | with_reducible apply Upd.tail)); (first | with_reducible exact big_size | with_reducible exact frac_size); rfl; rfl; rfl; clear K r; intro W K; have r := K.rawS))
  refine (lof_any (1) (3) _ (by decide) (by decide) (by decide)).mono ?_
  rintro e W' ⟨s2, A2, n2, c2, l2, t2, B2, m2, d2, k2, rfl, ⟨hra, hrb⟩, hs2, ⟨hfa, hfb⟩, hb⟩
  replace K := K.retF hb hra hrb hfa hfb
  clear r
  have r := K.rawS
  clear hra hrb hfa hfb hb
  go_wp2_with (first | ((first | (apply K.alloc; rfl; rfl; (first | with_reducible exact big_zero | with_reducible exact frac_zero)) | (apply K.box; rfl; rfl; rfl)); clear K r; (first | (have := b12; clear this; intro W b13 K) | (have := b11; clear this; intro W b12 K) | (have := b10; clear this; intro W b11 K) | (have := b9; clear this; intro W b10 K) | (have := b8; clear this; intro W b9 K) | (have := b7; clear this; intro W b8 K) | (have := b6; clear this; intro W b7 K) | (have := b5; clear this; intro W b6 K) | (have := b4; clear this; intro W b5 K) | (have := b3; clear this; intro W b4 K) | (have := b2; clear this; intro W b3 K) | (have := b1; clear this; intro W b2 K) | (have := b0; clear this; intro W b1 K) | intro W b0 K); have r := K.rawS) | (apply K.storeA; rfl; rfl; rfl; rfl; rfl; (repeat (first | with_reducible exact Upd.head _ | with_reducible apply Upd.tail)); (first | with_reducible exact big_size | with_reducible exact frac_size); rfl; rfl; rfl; clear K r; intro W K; have r := K.rawS))
  refine (ofF0 _).mono ?_
  rintro e W' ⟨s3, A3, n3, c3, l3, t3, B3, m3, d3, k3, rfl, ⟨hra, hrb⟩, -, ⟨hfa, hfb⟩, hb⟩
  replace K := K.retF hb hra hrb hfa hfb
  clear r
  have r := K.rawS
  clear hra hrb hfa hfb hb
  go_wp2_with (first | ((first | (apply K.alloc; rfl; rfl; (first | with_reducible exact big_zero | with_reducible exact frac_zero)) | (apply K.box; rfl; rfl; rfl)); clear K r; (first | (have := b12; clear this; intro W b13 K) | (have := b11; clear this; intro W b12 K) | (have := b10; clear this; intro W b11 K) | (have := b9; clear this; intro W b10 K) | (have := b8; clear this; intro W b9 K) | (have := b7; clear this; intro W b8 K) | (have := b6; clear this; intro W b7 K) | (have := b5; clear this; intro W b6 K) | (have := b4; clear this; intro W b5 K) | (have := b3; clear this; intro W b4 K) | (have := b2; clear this; intro W b3 K) | (have := b1; clear this; intro W b2 K) | (have := b0; clear this; intro W b1 K) | intro W b0 K); have r := K.rawS) | (apply K.storeA; rfl; rfl; rfl; rfl; rfl; (repeat (first | with_reducible exact Upd.head _ | with_reducible apply Upd.tail)); (first | with_reducible exact big_size | with_reducible exact frac_size); rfl; rfl; rfl; clear K r; intro W K; have r := K.rawS))
  refine (cAdd _ _ (Rat.divInt 5 6) _ _ _ _ _ _ _ _ _ _ _ _ _ _ _ _ _ _ _ _ _ (by first | exact Rd.nil | exact K.rda) (by first | exact Rd.nil | exact K.rda) (by first | exact Rd.nil | exact K.rda) (by first | exact Rd.nil | exact K.rda) hs1 hs2 g1 g2 (by decide +kernel) (by omega)).mono ?_
  rintro e W' ⟨s4, A4, n4, c4, l4, t4, B4, m4, d4, k4, rfl, ⟨hra, hrb⟩, hs4, ⟨hfa, hfb⟩, hb⟩
  replace hs4 : StdF s4 l4 t4 k4 (Rat.divInt 5 6) := hs4
  replace K := K.retF hb hra hrb hfa hfb
  clear r
  have r := K.rawS
  clear hra hrb hfa hfb hb
  go_wp2_with (first | ((first | (apply K.alloc; rfl; rfl; (first | with_reducible exact big_zero | with_reducible exact frac_zero)) | (apply K.box; rfl; rfl; rfl)); clear K r; (first | (have := b12; clear this; intro W b13 K) | (have := b11; clear this; intro W b12 K) | (have := b10; clear this; intro W b11 K) | (have := b9; clear this; intro W b10 K) | (have := b8; clear this; intro W b9 K) | (have := b7; clear this; intro W b8 K) | (have := b6; clear this; intro W b7 K) | (have := b5; clear this; intro W b6 K) | (have := b4; clear this; intro W b5 K) | (have := b3; clear this; intro W b4 K) | (have := b2; clear this; intro W b3 K) | (have := b1; clear this; intro W b2 K) | (have := b0; clear this; intro W b1 K) | intro W b0 K); have r := K.rawS) | (apply K.storeA; rfl; rfl; rfl; rfl; rfl; (repeat (first | with_reducible exact Upd.head _ | with_reducible apply Upd.tail)); (first | with_reducible exact big_size | with_reducible exact frac_size); rfl; rfl; rfl; clear K r; intro W K; have r := K.rawS))
  refine (cSub _ _ (Rat.divInt 1 6) _ _ _ _ _ _ _ _ _ _ _ _ _ _ _ _ _ _ _ _ _ (by first | exact Rd.nil | exact K.rda) (by first | exact Rd.nil | exact K.rda) (by first | exact Rd.nil | exact K.rda) (by first | exact Rd.nil | exact K.rda) hs1 hs2 g1 g2 (by decide +kernel) (by omega)).mono ?_
  rintro e W' ⟨s5, A5, n5, c5, l5, t5, B5, m5, d5, k5, rfl, ⟨hra, hrb⟩, hs5, ⟨hfa, hfb⟩, hb⟩
  replace hs5 : StdF s5 l5 t5 k5 (Rat.divInt 1 6) := hs5
  replace K := K.retF hb hra hrb hfa hfb
  clear r
  have r := K.rawS
  clear hra hrb hfa hfb hb
  go_wp2_with (first | ((first | (apply K.alloc; rfl; rfl; (first | with_reducible exact big_zero | with_reducible exact frac_zero)) | (apply K.box; rfl; rfl; rfl)); clear K r; (first | (have := b12; clear this; intro W b13 K) | (have := b11; clear this; intro W b12 K) | (have := b10; clear this; intro W b11 K) | (have := b9; clear this; intro W b10 K) | (have := b8; clear this; intro W b9 K) | (have := b7; clear this; intro W b8 K) | (have := b6; clear this; intro W b7 K) | (have := b5; clear this; intro W b6 K) | (have := b4; clear this; intro W b5 K) | (have := b3; clear this; intro W b4 K) | (have := b2; clear this; intro W b3 K) | (have := b1; clear this; intro W b2 K) | (have := b0; clear this; intro W b1 K) | intro W b0 K); have r := K.rawS) | (apply K.storeA; rfl; rfl; rfl; rfl; rfl; (repeat (first | with_reducible exact Upd.head _ | with_reducible apply Upd.tail)); (first | with_reducible exact big_size | with_reducible exact frac_size); rfl; rfl; rfl; clear K r; intro W K; have r := K.rawS))
  refine (cMul _ _ (Rat.divInt 1 6) _ _ _ _ _ _ _ _ _ _ _ _ _ _ _ _ _ _ _ _ _ (by first | exact Rd.nil | exact K.rda) (by first | exact Rd.nil | exact K.rda) (by first | exact Rd.nil | exact K.rda) (by first | exact Rd.nil | exact K.rda) hs1 hs2 g1 g2 (by decide +kernel) (by omega)).mono ?_
  rintro e W' ⟨s6, A6, n6, c6, l6, t6, B6, m6, d6, k6, rfl, ⟨hra, hrb⟩, hs6, ⟨hfa, hfb⟩, hb⟩
  replace hs6 : StdF s6 l6 t6 k6 (Rat.divInt 1 6) := hs6
  replace K := K.retF hb hra hrb hfa hfb
  clear r
  have r := K.rawS
  clear hra hrb hfa hfb hb
  go_wp2_with (first | ((first | (apply K.alloc; rfl; rfl; (first | with_reducible exact big_zero | with_reducible exact frac_zero)) | (apply K.box; rfl; rfl; rfl)); clear K r; (first | (have := b12; clear this; intro W b13 K) | (have := b11; clear this; intro W b12 K) | (have := b10; clear this; intro W b11 K) | (have := b9; clear this; intro W b10 K) | (have := b8; clear this; intro W b9 K) | (have := b7; clear this; intro W b8 K) | (have := b6; clear this; intro W b7 K) | (have := b5; clear this; intro W b6 K) | (have := b4; clear this; intro W b5 K) | (have := b3; clear this; intro W b4 K) | (have := b2; clear this; intro W b3 K) | (have := b1; clear this; intro W b2 K) | (have := b0; clear this; intro W b1 K) | intro W b0 K); have r := K.rawS) | (apply K.storeA; rfl; rfl; rfl; rfl; rfl; (repeat (first | with_reducible exact Upd.head _ | with_reducible apply Upd.tail)); (first | with_reducible exact big_size | with_reducible exact frac_size); rfl; rfl; rfl; clear K r; intro W K; have r := K.rawS))
  refine (cDiv _ _ (Rat.divInt 3 2) _ _ _ _ _ _ _ _ _ _ _ _ _ _ _ _ _ _ _ _ _ (by first | exact Rd.nil | exact K.rda) (by first | exact Rd.nil | exact K.rda) (by first | exact Rd.nil | exact K.rda) (by first | exact Rd.nil | exact K.rda) hs1 hs2 g1 g2 (by decide +kernel) (by decide +kernel) (by omega)).mono ?_
  rintro e W' ⟨s7, A7, n7, c7, l7, t7, B7, m7, d7, k7, rfl, ⟨hra, hrb⟩, hs7, ⟨hfa, hfb⟩, hb⟩
  replace hs7 : StdF s7 l7 t7 k7 (Rat.divInt 3 2) := hs7
  replace K := K.retF hb hra hrb hfa hfb
  clear r
  have r := K.rawS
  clear hra hrb hfa hfb hb
  go_wp2_with (first | ((first | (apply K.alloc; rfl; rfl; (first | with_reducible exact big_zero | with_reducible exact frac_zero)) | (apply K.box; rfl; rfl; rfl)); clear K r; (first | (have := b12; clear this; intro W b13 K) | (have := b11; clear this; intro W b12 K) | (have := b10; clear this; intro W b11 K) | (have := b9; clear this; intro W b10 K) | (have := b8; clear this; intro W b9 K) | (have := b7; clear this; intro W b8 K) | (have := b6; clear this; intro W b7 K) | (have := b5; clear this; intro W b6 K) | (have := b4; clear this; intro W b5 K) | (have := b3; clear this; intro W b4 K) | (have := b2; clear this; intro W b3 K) | (have := b1; clear this; intro W b2 K) | (have := b0; clear this; intro W b1 K) | intro W b0 K); have r := K.rawS) | (apply K.storeA; rfl; rfl; rfl; rfl; rfl; (repeat (first | with_reducible exact Upd.head _ | with_reducible apply Upd.tail)); (first | with_reducible exact big_size | with_reducible exact frac_size); rfl; rfl; rfl; clear K r; intro W K; have r := K.rawS))
  refine (readNoF _ (HTM.out.on K.1)).mono ?_
  rintro e W' ⟨s8, A8, n8, c8, l8, t8, B8, m8, d8, k8, rfl, ⟨hra, hrb⟩, -, ⟨hfa, hfb⟩, hb⟩
  replace K := K.retF hb hra hrb hfa hfb
  clear r
  have r := K.rawS
  clear hra hrb hfa hfb hb
  go_wp2_with (first | ((first | (apply K.alloc; rfl; rfl; (first | with_reducible exact big_zero | with_reducible exact frac_zero)) | (apply K.box; rfl; rfl; rfl)); clear K r; (first | (have := b12; clear this; intro W b13 K) | (have := b11; clear this; intro W b12 K) | (have := b10; clear this; intro W b11 K) | (have := b9; clear this; intro W b10 K) | (have := b8; clear this; intro W b9 K) | (have := b7; clear this; intro W b8 K) | (have := b6; clear this; intro W b7 K) | (have := b5; clear this; intro W b6 K) | (have := b4; clear this; intro W b5 K) | (have := b3; clear this; intro W b4 K) | (have := b2; clear this; intro W b3 K) | (have := b1; clear this; intro W b2 K) | (have := b0; clear this; intro W b1 K) | intro W b0 K); have r := K.rawS) | (apply K.storeA; rfl; rfl; rfl; rfl; rfl; (repeat (first | with_reducible exact Upd.head _ | with_reducible apply Upd.tail)); (first | with_reducible exact big_size | with_reducible exact frac_size); rfl; rfl; rfl; clear K r; intro W K; have r := K.rawS))
  refine (readYesF _ (HTM.out.on K.1)).mono ?_
  rintro e W' ⟨s9, A9, n9, c9, l9, t9, B9, m9, d9, k9, rfl, ⟨hra, hrb⟩, hs9, ⟨hfa, hfb⟩, hb⟩
  replace hs9 : StdF s9 l9 t9 k9 (Rat.divInt (-3) 2) := hs9
  replace K := K.retF hb hra hrb hfa hfb
  clear r
  have r := K.rawS
  clear hra hrb hfa hfb hb
  go_wp2_with (first | ((first | (apply K.alloc; rfl; rfl; (first | with_reducible exact big_zero | with_reducible exact frac_zero)) | (apply K.box; rfl; rfl; rfl)); clear K r; (first | (have := b12; clear this; intro W b13 K) | (have := b11; clear this; intro W b12 K) | (have := b10; clear this; intro W b11 K) | (have := b9; clear this; intro W b10 K) | (have := b8; clear this; intro W b9 K) | (have := b7; clear this; intro W b8 K) | (have := b6; clear this; intro W b7 K) | (have := b5; clear this; intro W b6 K) | (have := b4; clear this; intro W b5 K) | (have := b3; clear this; intro W b4 K) | (have := b2; clear this; intro W b3 K) | (have := b1; clear this; intro W b2 K) | (have := b0; clear this; intro W b1 K) | intro W b0 K); have r := K.rawS) | (apply K.storeA; rfl; rfl; rfl; rfl; rfl; (repeat (first | with_reducible exact Upd.head _ | with_reducible apply Upd.tail)); (first | with_reducible exact big_size | with_reducible exact frac_size); rfl; rfl; rfl; clear K r; intro W K; have r := K.rawS))
  refine (lof_any (6) (-4) _ (by decide) (by decide) (by decide)).mono ?_
  rintro e W' ⟨s10, A10, n10, c10, l10, t10, B10, m10, d10, k10, rfl, ⟨hra, hrb⟩, hs10, ⟨hfa, hfb⟩, hb⟩
  replace K := K.retF hb hra hrb hfa hfb
  clear r
  have r := K.rawS
  clear hra hrb hfa hfb hb
  go_wp2_with (first | ((first | (apply K.alloc; rfl; rfl; (first | with_reducible exact big_zero | with_reducible exact frac_zero)) | (apply K.box; rfl; rfl; rfl)); clear K r; (first | (have := b12; clear this; intro W b13 K) | (have := b11; clear this; intro W b12 K) | (have := b10; clear this; intro W b11 K) | (have := b9; clear this; intro W b10 K) | (have := b8; clear this; intro W b9 K) | (have := b7; clear this; intro W b8 K) | (have := b6; clear this; intro W b7 K) | (have := b5; clear this; intro W b6 K) | (have := b4; clear this; intro W b5 K) | (have := b3; clear this; intro W b4 K) | (have := b2; clear this; intro W b3 K) | (have := b1; clear this; intro W b2 K) | (have := b0; clear this; intro W b1 K) | intro W b0 K); have r := K.rawS) | (apply K.storeA; rfl; rfl; rfl; rfl; rfl; (repeat (first | with_reducible exact Upd.head _ | with_reducible apply Upd.tail)); (first | with_reducible exact big_size | with_reducible exact frac_size); rfl; rfl; rfl; clear K r; intro W K; have r := K.rawS))
  refine (textL (L := [45, 51, 47, 50]) _ _ _ _ _ _ _ _ _ _ _ _ (by first | exact Rd.nil | exact K.rda) (by first | exact Rd.nil | exact K.rda) hs10 (ht_fits (k := 1) (ht_of (by decide) (by decide) (by decide)) (by decide)) (HT.out.on K.1) (show textQ (Rat.divInt 6 (-4)) = [45, 51, 47, 50] from textQ_at (L1 := [45, 51]) (L2 := [50]) (by decide) (by decide) (by decide +kernel) (by decide +kernel))).mono ?_
  rintro e W' ⟨T, rfl, hT, hb⟩
  replace hT := hT
  replace K := K.keep hb
  clear r
  have r := K.rawS
  clear hb
  go_wp2_with (first | ((first | (apply K.alloc; rfl; rfl; (first | with_reducible exact big_zero | with_reducible exact frac_zero)) | (apply K.box; rfl; rfl; rfl)); clear K r; (first | (have := b12; clear this; intro W b13 K) | (have := b11; clear this; intro W b12 K) | (have := b10; clear this; intro W b11 K) | (have := b9; clear this; intro W b10 K) | (have := b8; clear this; intro W b9 K) | (have := b7; clear this; intro W b8 K) | (have := b6; clear this; intro W b7 K) | (have := b5; clear this; intro W b6 K) | (have := b4; clear this; intro W b5 K) | (have := b3; clear this; intro W b4 K) | (have := b2; clear this; intro W b3 K) | (have := b1; clear this; intro W b2 K) | (have := b0; clear this; intro W b1 K) | intro W b0 K); have r := K.rawS) | (apply K.storeA; rfl; rfl; rfl; rfl; rfl; (repeat (first | with_reducible exact Upd.head _ | with_reducible apply Upd.tail)); (first | with_reducible exact big_size | with_reducible exact frac_size); rfl; rfl; rfl; clear K r; intro W K; have r := K.rawS))
  refine (lof_any (0) (7) _ (by decide) (by decide) (by decide)).mono ?_
  rintro e W' ⟨s11, A11, n11, c11, l11, t11, B11, m11, d11, k11, rfl, ⟨hra, hrb⟩, hs11, ⟨hfa, hfb⟩, hb⟩
  replace K := K.retF hb hra hrb hfa hfb
  clear r
  have r := K.rawS
  clear hra hrb hfa hfb hb
  go_wp2_with (first | ((first | (apply K.alloc; rfl; rfl; (first | with_reducible exact big_zero | with_reducible exact frac_zero)) | (apply K.box; rfl; rfl; rfl)); clear K r; (first | (have := b12; clear this; intro W b13 K) | (have := b11; clear this; intro W b12 K) | (have := b10; clear this; intro W b11 K) | (have := b9; clear this; intro W b10 K) | (have := b8; clear this; intro W b9 K) | (have := b7; clear this; intro W b8 K) | (have := b6; clear this; intro W b7 K) | (have := b5; clear this; intro W b6 K) | (have := b4; clear this; intro W b5 K) | (have := b3; clear this; intro W b4 K) | (have := b2; clear this; intro W b3 K) | (have := b1; clear this; intro W b2 K) | (have := b0; clear this; intro W b1 K) | intro W b0 K); have r := K.rawS) | (apply K.storeA; rfl; rfl; rfl; rfl; rfl; (repeat (first | with_reducible exact Upd.head _ | with_reducible apply Upd.tail)); (first | with_reducible exact big_size | with_reducible exact frac_size); rfl; rfl; rfl; clear K r; intro W K; have r := K.rawS))
  refine (textL (L := [48, 47, 49]) _ _ _ _ _ _ _ _ _ _ _ _ (by first | exact Rd.nil | exact K.rda) (by first | exact Rd.nil | exact K.rda) hs11 (ht_fits (k := 1) (ht_of (by decide) (by decide) (by decide)) (by decide)) (HT.out.on K.1) (show textQ (Rat.divInt 0 7) = [48, 47, 49] from textQ_at (L1 := [48]) (L2 := [49]) (by decide) (by decide) (by decide +kernel) (by decide +kernel))).mono ?_
  rintro e W' ⟨T, rfl, hT, hb⟩
  replace hT := hT
  replace K := K.keep hb
  clear r
  have r := K.rawS
  clear hb
  go_wp2_with (first | ((first | (apply K.alloc; rfl; rfl; (first | with_reducible exact big_zero | with_reducible exact frac_zero)) | (apply K.box; rfl; rfl; rfl)); clear K r; (first | (have := b12; clear this; intro W b13 K) | (have := b11; clear this; intro W b12 K) | (have := b10; clear this; intro W b11 K) | (have := b9; clear this; intro W b10 K) | (have := b8; clear this; intro W b9 K) | (have := b7; clear this; intro W b8 K) | (have := b6; clear this; intro W b7 K) | (have := b5; clear this; intro W b6 K) | (have := b4; clear this; intro W b5 K) | (have := b3; clear this; intro W b4 K) | (have := b2; clear this; intro W b3 K) | (have := b1; clear this; intro W b2 K) | (have := b0; clear this; intro W b1 K) | intro W b0 K); have r := K.rawS) | (apply K.storeA; rfl; rfl; rfl; rfl; rfl; (repeat (first | with_reducible exact Upd.head _ | with_reducible apply Upd.tail)); (first | with_reducible exact big_size | with_reducible exact frac_size); rfl; rfl; rfl; clear K r; intro W K; have r := K.rawS))
  refine (textL (L := [53, 47, 54]) _ _ _ _ _ _ _ _ _ _ _ _ (by first | exact Rd.nil | exact K.rda) (by first | exact Rd.nil | exact K.rda) hs4 (ht_fits (k := 1) (ht_of (by decide) (by decide) (by decide)) (by decide)) (HT.out.on K.1) (show textQ (Rat.divInt 5 6) = [53, 47, 54] from textQ_at (L1 := [53]) (L2 := [54]) (by decide) (by decide) (by decide +kernel) (by decide +kernel))).mono ?_
  rintro e W' ⟨T, rfl, hT, hb⟩
  replace hT := hT
  replace K := K.keep hb
  clear r
  have r := K.rawS
  clear hb
  go_wp2_with (first | ((first | (apply K.alloc; rfl; rfl; (first | with_reducible exact big_zero | with_reducible exact frac_zero)) | (apply K.box; rfl; rfl; rfl)); clear K r; (first | (have := b12; clear this; intro W b13 K) | (have := b11; clear this; intro W b12 K) | (have := b10; clear this; intro W b11 K) | (have := b9; clear this; intro W b10 K) | (have := b8; clear this; intro W b9 K) | (have := b7; clear this; intro W b8 K) | (have := b6; clear this; intro W b7 K) | (have := b5; clear this; intro W b6 K) | (have := b4; clear this; intro W b5 K) | (have := b3; clear this; intro W b4 K) | (have := b2; clear this; intro W b3 K) | (have := b1; clear this; intro W b2 K) | (have := b0; clear this; intro W b1 K) | intro W b0 K); have r := K.rawS) | (apply K.storeA; rfl; rfl; rfl; rfl; rfl; (repeat (first | with_reducible exact Upd.head _ | with_reducible apply Upd.tail)); (first | with_reducible exact big_size | with_reducible exact frac_size); rfl; rfl; rfl; clear K r; intro W K; have r := K.rawS))
  refine (textL (L := [49, 47, 54]) _ _ _ _ _ _ _ _ _ _ _ _ (by first | exact Rd.nil | exact K.rda) (by first | exact Rd.nil | exact K.rda) hs5 (ht_fits (k := 1) (ht_of (by decide) (by decide) (by decide)) (by decide)) (HT.out.on K.1) (show textQ (Rat.divInt 1 6) = [49, 47, 54] from textQ_at (L1 := [49]) (L2 := [54]) (by decide) (by decide) (by decide +kernel) (by decide +kernel))).mono ?_
  rintro e W' ⟨T, rfl, hT, hb⟩
  replace hT := hT
  replace K := K.keep hb
  clear r
  have r := K.rawS
  clear hb
  go_wp2_with (first | ((first | (apply K.alloc; rfl; rfl; (first | with_reducible exact big_zero | with_reducible exact frac_zero)) | (apply K.box; rfl; rfl; rfl)); clear K r; (first | (have := b12; clear this; intro W b13 K) | (have := b11; clear this; intro W b12 K) | (have := b10; clear this; intro W b11 K) | (have := b9; clear this; intro W b10 K) | (have := b8; clear this; intro W b9 K) | (have := b7; clear this; intro W b8 K) | (have := b6; clear this; intro W b7 K) | (have := b5; clear this; intro W b6 K) | (have := b4; clear this; intro W b5 K) | (have := b3; clear this; intro W b4 K) | (have := b2; clear this; intro W b3 K) | (have := b1; clear this; intro W b2 K) | (have := b0; clear this; intro W b1 K) | intro W b0 K); have r := K.rawS) | (apply K.storeA; rfl; rfl; rfl; rfl; rfl; (repeat (first | with_reducible exact Upd.head _ | with_reducible apply Upd.tail)); (first | with_reducible exact big_size | with_reducible exact frac_size); rfl; rfl; rfl; clear K r; intro W K; have r := K.rawS))
  refine (textL (L := [49, 47, 54]) _ _ _ _ _ _ _ _ _ _ _ _ (by first | exact Rd.nil | exact K.rda) (by first | exact Rd.nil | exact K.rda) hs6 (ht_fits (k := 1) (ht_of (by decide) (by decide) (by decide)) (by decide)) (HT.out.on K.1) (show textQ (Rat.divInt 1 6) = [49, 47, 54] from textQ_at (L1 := [49]) (L2 := [54]) (by decide) (by decide) (by decide +kernel) (by decide +kernel))).mono ?_
  rintro e W' ⟨T, rfl, hT, hb⟩
  replace hT := hT
  replace K := K.keep hb
  clear r
  have r := K.rawS
  clear hb
  go_wp2_with (first | ((first | (apply K.alloc; rfl; rfl; (first | with_reducible exact big_zero | with_reducible exact frac_zero)) | (apply K.box; rfl; rfl; rfl)); clear K r; (first | (have := b12; clear this; intro W b13 K) | (have := b11; clear this; intro W b12 K) | (have := b10; clear this; intro W b11 K) | (have := b9; clear this; intro W b10 K) | (have := b8; clear this; intro W b9 K) | (have := b7; clear this; intro W b8 K) | (have := b6; clear this; intro W b7 K) | (have := b5; clear this; intro W b6 K) | (have := b4; clear this; intro W b5 K) | (have := b3; clear this; intro W b4 K) | (have := b2; clear this; intro W b3 K) | (have := b1; clear this; intro W b2 K) | (have := b0; clear this; intro W b1 K) | intro W b0 K); have r := K.rawS) | (apply K.storeA; rfl; rfl; rfl; rfl; rfl; (repeat (first | with_reducible exact Upd.head _ | with_reducible apply Upd.tail)); (first | with_reducible exact big_size | with_reducible exact frac_size); rfl; rfl; rfl; clear K r; intro W K; have r := K.rawS))
  refine (textL (L := [51, 47, 50]) _ _ _ _ _ _ _ _ _ _ _ _ (by first | exact Rd.nil | exact K.rda) (by first | exact Rd.nil | exact K.rda) hs7 (ht_fits (k := 1) (ht_of (by decide) (by decide) (by decide)) (by decide)) (HT.out.on K.1) (show textQ (Rat.divInt 3 2) = [51, 47, 50] from textQ_at (L1 := [51]) (L2 := [50]) (by decide) (by decide) (by decide +kernel) (by decide +kernel))).mono ?_
  rintro e W' ⟨T, rfl, hT, hb⟩
  replace hT := hT
  replace K := K.keep hb
  clear r
  have r := K.rawS
  clear hb
  go_wp2_with (first | ((first | (apply K.alloc; rfl; rfl; (first | with_reducible exact big_zero | with_reducible exact frac_zero)) | (apply K.box; rfl; rfl; rfl)); clear K r; (first | (have := b12; clear this; intro W b13 K) | (have := b11; clear this; intro W b12 K) | (have := b10; clear this; intro W b11 K) | (have := b9; clear this; intro W b10 K) | (have := b8; clear this; intro W b9 K) | (have := b7; clear this; intro W b8 K) | (have := b6; clear this; intro W b7 K) | (have := b5; clear this; intro W b6 K) | (have := b4; clear this; intro W b5 K) | (have := b3; clear this; intro W b4 K) | (have := b2; clear this; intro W b3 K) | (have := b1; clear this; intro W b2 K) | (have := b0; clear this; intro W b1 K) | intro W b0 K); have r := K.rawS) | (apply K.storeA; rfl; rfl; rfl; rfl; rfl; (repeat (first | with_reducible exact Upd.head _ | with_reducible apply Upd.tail)); (first | with_reducible exact big_size | with_reducible exact frac_size); rfl; rfl; rfl; clear K r; intro W K; have r := K.rawS))
  obtain ⟨KS, X0, XK, XF⟩ := K.pack (fun W => Below w.heap.size w W ∧ ((W.cell? ⟨b0, 0, none⟩ = some (.int .i64 s1) ∧ W.cell? ⟨b0, 1, none⟩ = some (.slice A1 n1 c1) ∧ W.cell? ⟨b0, 2, none⟩ = some (.int .i64 t1) ∧ W.cell? ⟨b0, 3, none⟩ = some (.slice B1 m1 d1)) ∧ (W.cell? ⟨b8, 0, none⟩ = some (.int .i64 s9) ∧ W.cell? ⟨b8, 1, none⟩ = some (.slice A9 n9 c9) ∧ W.cell? ⟨b8, 2, none⟩ = some (.int .i64 t9) ∧ W.cell? ⟨b8, 3, none⟩ = some (.slice B9 m9 d9))) ∧ (RdI W W.heap.size A1 n1 c1 l1 ∧ RdI W W.heap.size B1 m1 d1 k1) ∧ (RdI W W.heap.size A9 n9 c9 l9 ∧ RdI W W.heap.size B9 m9 d9 k9)) (fun W K => ⟨K.1, by
    have r := K.raw
    simp only [Raw, RawC, and_true, true_and, Nat.zero_add, Nat.reduceAdd] at r
    simp only [r, and_self], ⟨(by first | exact Rd.nil | exact K.rda), (by first | exact Rd.nil | exact K.rda)⟩, (by first | exact Rd.nil | exact K.rda), (by first | exact Rd.nil | exact K.rda)⟩)
  clear K r hs2 hs4 hs5 hs6 hs7 hs10 hs11
  have F1 := ht_fits g1 (by omega)
  have HSx := Lib.hid (fun W (h : KS W) => (show (KS W ∧ ((W.cell? ⟨b0, 0, none⟩ = some (.int .i64 s1) ∧ W.cell? ⟨b0, 1, none⟩ = some (.slice A1 n1 c1) ∧ W.cell? ⟨b0, 2, none⟩ = some (.int .i64 t1) ∧ W.cell? ⟨b0, 3, none⟩ = some (.slice B1 m1 d1)) ∧ (W.cell? ⟨b8, 0, none⟩ = some (.int .i64 s9) ∧ W.cell? ⟨b8, 1, none⟩ = some (.slice A9 n9 c9) ∧ W.cell? ⟨b8, 2, none⟩ = some (.int .i64 t9) ∧ W.cell? ⟨b8, 3, none⟩ = some (.slice B9 m9 d9)))) from ⟨h, (XF W h).2.1⟩))
  have HO := Lib.hid (fun p q W (hp : -9223372036854775808 ≤ p ∧ p ≤ 9223372036854775807) (hq : -9223372036854775808 ≤ q ∧ q ≤ 9223372036854775807) (h0 : q ≠ 0) (h : KS W) => (lof_any p q W hp hq h0).mono fun e W' ⟨s, A, n, cap, l, t, A', n', cap', m, he, hr, hs, hf, hb⟩ => (⟨s, A, n, cap, l, t, A', n', cap', m, he, hr, hs, XK _ _ h hb, hb⟩ : ∃ s A n cap l t A' n' cap' m, e = Ending.returned (.agg #[.int .i64 s, .slice A n cap, .int .i64 t, .slice A' n' cap']) ∧ (RdI W' W'.heap.size A n cap l ∧ RdI W' W'.heap.size A' n' cap' m) ∧ StdF s l t m (Rat.divInt p q) ∧ KS W' ∧ Below W.heap.size W W'))
  have HB := Lib.hid (fun W (h : KS W) => (bOf_any (-2) W (by decide)).mono fun e W' ⟨s5, A5, n5, c5, l5, he, hr, hs, hf, hb⟩ => (⟨s5, A5, n5, c5, l5, he, hr, hs, XK _ _ h hb, hb⟩ : ∃ s5 A5 n5 c5 l5, e = Ending.returned (.agg #[.int .i64 s5, .slice A5 n5 c5]) ∧ RdI W' W'.heap.size A5 n5 c5 l5 ∧ Std s5 l5 (-2) ∧ KS W' ∧ Below W.heap.size W W'))
  have HC := Lib.hid (fun s1 t1 s2 t2 A1 B1 A2 B2 n1 c1 m1 d1 n2 c2 m2 d2 l1 k1 l2 k2 W (r1 : RdI W W.heap.size A1 n1 c1 l1) (q1 : RdI W W.heap.size B1 m1 d1 k1) (r2 : RdI W W.heap.size A2 n2 c2 l2) (q2 : RdI W W.heap.size B2 m2 d2 k2) h1 h2 (h : KS W) => (cCmp (Rat.divInt (-1) 2) (Rat.divInt (-1) 3) s1 t1 s2 t2 A1 B1 A2 B2 n1 c1 m1 d1 n2 c2 m2 d2 l1 k1 l2 k2 W r1 q1 r2 q2 h1 h2 (ht_of (k := 1) (by decide) (by decide) (by decide)) (ht_of (k := 1) (by decide) (by decide) (by decide)) (-1) (by decide +kernel) (by decide) (by decide)).mono fun e W' ⟨he, hb⟩ => (⟨he, XK _ _ h hb⟩ : e = Ending.returned (.int .i64 (-1)) ∧ KS W'))
  have HF := Lib.hid (fun s1 t1 A1 B1 n1 c1 m1 d1 l1 k1 W (r1 : RdI W W.heap.size A1 n1 c1 l1) (q1 : RdI W W.heap.size B1 m1 d1 k1) h1 (h : KS W) => (nFloor (Rat.divInt (-3) 2) s1 t1 A1 B1 n1 c1 m1 d1 l1 k1 W r1 q1 h1 (ht_fits (k := 1) (ht_of (by decide) (by decide) (by decide)) (by decide))).mono fun e W' ⟨s5, A5, n5, c5, l5, he, hr, hs, hf, hb⟩ => (⟨s5, A5, n5, c5, l5, he, hr, by rw [show fq (Rat.divInt (-3) 2).num (Rat.divInt (-3) 2).den = -2 from by decide +kernel] at hs; exact hs, XK _ _ h hb, hb⟩ : ∃ s5 A5 n5 c5 l5, e = Ending.returned (.agg #[.int .i64 s5, .slice A5 n5 c5]) ∧ RdI W' W'.heap.size A5 n5 c5 l5 ∧ Std s5 l5 (-2) ∧ KS W' ∧ Below W.heap.size W W'))
  have HX := Lib.hid (fun s A n cap l t A' n' cap' m W (r1 : RdI W W.heap.size A n cap l) (r2 : RdI W W.heap.size A' n' cap' m) h1 h2 (h : KS W) => (nSameB (-2) (-2) s A n cap l t A' n' cap' m W r1 r2 h1 h2).mono fun e W' ⟨he, hb⟩ => (⟨by rw [he, decide_eq_true rfl], XK _ _ h hb⟩ : e = Ending.returned (.bool true) ∧ KS W'))
  have HM := Lib.hid (fun s A n cap l t A' n' cap' m W (r1 : RdI W W.heap.size A n cap l) (r2 : RdI W W.heap.size A' n' cap' m) h1 (h : KS W) => (nSameFT (Rat.divInt (-3) 2) (Rat.divInt (-3) 2) s9 t9 s t A9 B9 A A' n9 c9 m9 d9 n cap n' cap' l9 k9 l m W (XF W h).2.2.2.1 (XF W h).2.2.2.2 r1 r2 hs9 h1 rfl).mono fun e W' ⟨he, hb⟩ => (⟨he, XK _ _ h hb⟩ : e = Ending.returned (.bool true) ∧ KS W'))
  have HR := Lib.hid (fun W (h : KS W) => (nRightF _ s1 t1 A1 B1 n1 c1 m1 d1 l1 k1 W (XF W h).2.2.1.1 (XF W h).2.2.1.2 hs1 F1).mono fun e W' ⟨he, hb⟩ => (⟨he, XK _ _ h hb⟩ : e = Ending.returned (.bool true) ∧ KS W'))
  have HZ := Lib.hid (fun W (h : KS W) => (fRight_any 0 0 none none 0 0 0 0 [] [] W Rd.nil Rd.nil).mono fun e W' ⟨he, hb⟩ => (⟨he, XK _ _ h hb⟩ : e = Ending.returned (.bool false) ∧ KS W'))
  have XD := Lib.hid (fun W (h : KS W) => XK W W.drew h (Below.refl _ _).drew)
  have XF0 := Lib.hid XF
  clear XF XK hs1 hs9 F1 g1 g2
  go_region_held3 (fun W => (KS W ∧ ((W.cell? ⟨b0, 0, none⟩ = some (.int .i64 s1) ∧ W.cell? ⟨b0, 1, none⟩ = some (.slice A1 n1 c1) ∧ W.cell? ⟨b0, 2, none⟩ = some (.int .i64 t1) ∧ W.cell? ⟨b0, 3, none⟩ = some (.slice B1 m1 d1)) ∧ (W.cell? ⟨b8, 0, none⟩ = some (.int .i64 s9) ∧ W.cell? ⟨b8, 1, none⟩ = some (.slice A9 n9 c9) ∧ W.cell? ⟨b8, 2, none⟩ = some (.int .i64 t9) ∧ W.cell? ⟨b8, 3, none⟩ = some (.slice B9 m9 d9)))))
    ((refine HSx.out _ ?_; first | assumption | exact XD.out _ X0 | exact And.left (by assumption)))
    (first
      | (go_at_call 64; (with_reducible refine (HO.out (-1) 2 _ (by decide) (by decide) (by decide) (And.left (by assumption))).mono ?_); rintro e w5 ⟨s50, A50, n50, c50, l50, t50, B50, m50, d50, k50, rfl, ⟨ra50, rb50⟩, hs50, x50, b50⟩)
      | (go_at_call 64; (with_reducible refine (HO.out (-1) 3 _ (by decide) (by decide) (by decide) (And.left (by assumption))).mono ?_); rintro e w6 ⟨s60, A60, n60, c60, l60, t60, B60, m60, d60, k60, rfl, ⟨ra60, rb60⟩, hs60, x60, b60⟩)
      | (go_at_call 56; (with_reducible refine (HC.out _ _ _ _ _ _ _ _ _ _ _ _ _ _ _ _ _ _ _ _ _ ?ra ?rb ?rc ?rd hs50 hs60 (And.left (by assumption))).mono ?_); (case ra => (first | exact ra50 | exact ra50.up (flat_lasts _) b60)); (case rb => (first | exact rb50 | exact rb50.up (flat_lasts _) b60)); (case rc => (first | exact ra60 | exact ra60.up (flat_lasts _) b50)); (case rd => (first | exact rb60 | exact rb60.up (flat_lasts _) b50)); rintro e w9 ⟨rfl, x9⟩; clear ra50 rb50 ra60 rb60 b50 b60)
      | (go_at_call 64; (with_reducible refine (HO.out (-3) 2 _ (by decide) (by decide) (by decide) (And.left (by assumption))).mono ?_); rintro e w7 ⟨s70, A70, n70, c70, l70, t70, B70, m70, d70, k70, rfl, ⟨ra70, rb70⟩, hs70, x70, b70⟩)
      | (go_at_call 35; (with_reducible refine (HB.out _ (And.left (by assumption))).mono ?_); rintro e w8 ⟨s90, A90, n90, c90, l90, rfl, ra90, hs90, x90, b90⟩)
      | (go_at_call 61; (with_reducible refine (HF.out _ _ _ _ _ _ _ _ _ _ _ ?ra ?rb hs70 (And.left (by assumption))).mono ?_); (case ra => (first | exact ra70 | exact ra70.up (flat_lasts _) b90)); (case rb => (first | exact rb70 | exact rb70.up (flat_lasts _) b90)); rintro e w9 ⟨s80, A80, n80, c80, l80, rfl, ra80, hs80, x80, b80⟩)
      | (go_at_call 60; (with_reducible refine (HX.out _ _ _ _ _ _ _ _ _ _ _ ?ra ?rb hs80 hs90 (And.left (by assumption))).mono ?_); (case ra => (first | exact ra80 | exact ra80.up (flat_lasts _) b90)); (case rb => (first | exact ra90 | exact ra90.up (flat_lasts _) b80 | exact ra90.up (flat_lasts _) (b70.trans (b80.mono b70.size)))); rintro e w9 ⟨rfl, x9⟩; clear ra70 rb70 ra80 ra90 hs80 hs90 hs70 b70 b80 b90)
      | (go_at_call 43; (with_reducible refine (HM.out _ _ _ _ _ _ _ _ _ _ _ ra70 rb70 hs70 (And.left (by assumption))).mono ?_); rintro e w9 ⟨rfl, x9⟩)
      | (go_at_call 54; (with_reducible refine (HR.out _ (And.left (by assumption))).mono ?_); rintro e w9 ⟨rfl, x9⟩)
      | (go_at_call 54; (with_reducible refine (HZ.out _ (And.left (by assumption))).mono ?_); rintro e w9 ⟨rfl, x99⟩))
  all_goals
    go_wp2
    go_ret
    exact ⟨rfl, (XF0.out _ x99).1⟩
end Go.Proofs.YtkeajohkpmabcaaGreatDoor
