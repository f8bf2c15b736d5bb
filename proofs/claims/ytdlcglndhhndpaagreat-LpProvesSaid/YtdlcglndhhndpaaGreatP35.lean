/- Laws and walks; conditions stand in each theorem. -/
import Derived.Test.YtdlcglndhhndpaaGreatP34
import Derived.Test.YtdlcglndhhndpaaGreatP33
import Derived.Test.YtdlcglndhhndpaaGreatP12
set_option linter.unusedSimpArgs false
set_option linter.unusedVariables false
set_option maxHeartbeats 8000000
set_option maxRecDepth 100000
namespace Go.Proofs.YtdlcglndhhndpaaGreat
open Go.RowKit
theorem row9_any (A : Option Addr) (n cap : Nat) (l : List Int) (b : Int) (w : World) (hl : RdI w w.heap.size A n cap l) (hn : n ≤ 1000) (hb : ∀ x ∈ l, -9223372036854775808 ≤ x ∧ x ≤ 9223372036854775807) (hb2 : -9223372036854775808 ≤ b ∧ b ≤ 9223372036854775807) :
 Calls Tryz.prog 58 #[.slice A n cap, .int .i64 b] w fun e w' => ∃ x : Rr, e = .returned (.agg #[.slice x.A n x.c, .int .i64 x.y.s, .slice x.y.A x.y.n x.y.c, .int .i64 x.y.t, .slice x.y.B x.y.m x.y.d]) ∧ x.n = n ∧ x.on w' ∧ x.rv = rwJ l b ∧ Below w.heap.size w w' := by
 have hlen := hl.len
 have HL := Lib.hid (fun W (h : Below w.heap.size w W) => list9_any A n cap l W (hl.up (flat_lasts _) h) hn hb)
 have HO := Lib.hid (fun W => of9_any b W hb2)
 have hcap := hl.caps
 have K := St.start w
 clear hl hb hb2
 go_enter Tryz.func58, Tryz.ntmps58
 go_wp2_with (apply K.alloc; rfl; rfl; exact row_zero; clear K; intro W b0 K)
 refine (HL.out _ K.1).mono ?_
 rintro e W1 ⟨A1, c1, rfl, hr1, hb1⟩
 have hcap1 := hr1.now.caps
 replace K := K.addK hb1 hr1
 clear hr1 hb1
 go_wp2_with fail
 refine (HO.out _).mono ?_
 rintro e W2 ⟨s9, A9, n9, c9, l9, t9, B9, m9, d9, k9, rfl, ⟨hra, hrb⟩, ho9, ⟨hfa, hfb⟩, hbl⟩
 replace K := K.retF hbl hra hrb hfa hfb
 clear hra hrb hfa hfb hbl
 go_wp2_with (apply K.storeA; rfl; rfl; rfl; rfl; rfl; (repeat (first | with_reducible apply Upd.head | with_reducible apply Upd.tail)); exact row_size; rfl; rfl; rfl; clear K; intro W3 K)
 have c0 := K.blk (b := b0) (cs := #[.slice A1 n c1, .int .i64 s9, .slice A9 n9 c9, .int .i64 t9, .slice B9 m9 d9]) (t := 56) List.mem_cons_self
 have z0 := c0.cell (j := 0) rfl
 have z1 := c0.cell (j := 1) rfl
 have z2 := c0.cell (j := 2) rfl
 have z3 := c0.cell (j := 3) rfl
 have z4 := c0.cell (j := 4) rfl
 have HE := Lib.hid (⟨⟨A1, n, c1, fvJ l, ⟨s9, A9, n9, c9, l9, t9, B9, m9, d9, k9⟩⟩, rfl, rfl, ⟨by unfold fvJ; rw [hlen]; exact K.getQ ZMB, K.rd ZMB, K.rd ZMB⟩, by unfold fvJ rwJ; show (⟨_, ⟨s9, l9, t9, k9⟩⟩ : Rv) = _; rw [ho9.fv], K.1⟩ : ∃ x : Rr, (Ending.returned (.agg #[.slice A1 n c1, .int .i64 s9, .slice A9 n9 c9, .int .i64 t9, .slice B9 m9 d9])) = .returned (.agg #[.slice x.A n x.c, .int .i64 x.y.s, .slice x.y.A x.y.n x.y.c, .int .i64 x.y.t, .slice x.y.B x.y.m x.y.d]) ∧ x.n = n ∧ x.on W3 ∧ x.rv = rwJ l b ∧ Below w.heap.size w W3)
 clear K c0 ho9
 exact bodyPost_ret (v := .agg #[.slice A1 n c1, .int .i64 s9, .slice A9 n9 c9, .int .i64 t9, .slice B9 m9 d9]) (by simp [results, Tryz.results58, go_sem, z0, z1, z2, z3, z4]) rfl HE.out
theorem is9_any (x : Rw) (p q : Int) (z : Rat) (w : World) (h1 : RdI w w.heap.size x.A x.n x.c x.l) (h2 : RdI w w.heap.size x.B x.m x.d x.k) (hO : ∀ W, Calls Tryz.prog 35 #[.int .i64 p, .int .i64 q] W (FrE W (some z) 0)) :
 Calls Tryz.prog 59 #[.agg #[.int .i64 x.s, .slice x.A x.n x.c, .int .i64 x.t, .slice x.B x.m x.d], .int .i64 p, .int .i64 q] w fun e w' => e = .returned (.bool (decide (x.fv = fvQ z))) ∧ Below w.heap.size w w' := by
 have HO := Lib.hid hO
 have K := ((St.start w).oldRd h1).oldRd h2
 have hc1 := h1.caps
 have hc2 := h2.caps
 have r := K.raw
 clear h1 h2 hO
 go_enter Tryz.func59, Tryz.ntmps59
 go_wp2_with (first | (refine ZAL ?_; clear K r; (first | ((fail_if_success revert b0); intro W b0 K r) | intro W b K r)) | (refine ZST ?_; clear K r; intro W K r))
 refine (HO.out _).mono ?_
 rintro e W' ⟨s5, A5, n5, c5, l5, t5, B5, m5, d5, k5, rfl, ⟨hra, hrb⟩, ho5, ⟨hfa, hfb⟩, hb⟩
 replace K := K.retF hb hra hrb hfa hfb
 clear r
 have r := K.rawS
 have hs5 := ho5.std
 have HSm := Lib.hid (fun W a b' c d => gsame_any x.s x.t s5 t5 x.A x.B A5 B5 x.n x.c x.m x.d n5 c5 m5 d5 x.l x.k l5 k5 W a b' c d)
 have e0 : sameF x.s x.l x.t x.k s5 l5 t5 k5 = decide (x.fv = fvQ z) := by
  have := fv_same x.fv ⟨s5, l5, t5, k5⟩
  rw [hs5.fv] at this
  have h6 := hs5.fv
  unfold fvQ at h6
  injection h6 with g1 g2 g3 g4
  rw [g1, g2, g3, g4]
  exact this
 rw [e0] at HSm
 obtain ⟨R, hR⟩ : ∃ R, decide (x.fv = fvQ z) = R := ⟨_, rfl⟩
 rw [hR] at HSm
 have HRR := Lib.hid hR
 clear hR
 clear hra hrb hfa hfb hb ho5 hs5 e0
 go_wp2_with (first | (refine ZAL ?_; clear K r; (first | ((fail_if_success revert b0); intro W b0 K r) | intro W b K r)) | (refine ZST ?_; clear K r; intro W K r))
 refine (HSm.out _ (K.rd ZMB) (K.rd ZMB) (K.rd ZMB) (K.rd ZMB)).mono ?_
 rintro e W2 ⟨rfl, hb⟩
 replace K := K.keep hb
 go_wp2_with fail
 exact bodyPost_ret (v := .bool R) (by simp [results, Tryz.results59, go_sem]) rfl ⟨by rw [HRR.out], K.1⟩
theorem ZQ97 {p : Prop} (h : p := by
 first
  | (rw [newO_yes (by decide), newE_yes (by decide)] at h
     exact h)
  | fail) : p := h
theorem solA (A A' : Option Addr) (cap cap' : Nat) (w : World) (hl : RdF w w.heap.size A 2 cap (fvJ [1, 1])) (hr : RdR w w.heap.size A' 2 cap' pA) : Calls Tryz.prog 23 #[.agg #[.slice A 2 cap, .slice A' 2 cap']] w fun e w' => ∃ A1 c1 A2 c2, e = .returned (.tuple #[.slice A1 2 c1, .slice A2 2 c2, .int .i64 0]) ∧ RdF w' w'.heap.size A1 2 c1 [fvQ (Rat.divInt 8 5), fvQ (Rat.divInt 6 5)] ∧ RdF w' w'.heap.size A2 2 c2 [fvQ (Rat.divInt 2 5), fvQ (Rat.divInt 1 5)] ∧ Below w.heap.size w w' := by
 refine (solve_any A A' 2 cap 2 cap' _ _ w hl hr (by decide) (by decide) (by decide +kernel)).mono ?_
 rintro e w' ⟨E, hE, hO, hb⟩
 have he := hE.det (says_fin exA1 exA3 exA2)
 subst he
 unfold endOf at hO
 rw [exA4] at hO
 obtain ⟨A1, c1, A2, c2, h0, h1, h2, -, -⟩ := hO
 rw [exA5] at h1
 rw [exA6] at h2
 exact ⟨A1, c1, A2, c2, h0, h1, h2, hb⟩
theorem solB (A A' : Option Addr) (cap cap' : Nat) (w : World) (hl : RdF w w.heap.size A 1 cap (fvJ [1])) (hr : RdR w w.heap.size A' 2 cap' pB) : Calls Tryz.prog 23 #[.agg #[.slice A 1 cap, .slice A' 2 cap']] w fun e w' => ∃ A2 c2, e = .returned (.tuple #[.slice none 0 0, .slice A2 2 c2, .int .i64 4]) ∧ RdF w' w'.heap.size A2 2 c2 [fvQ ((1 : Int) : Rat), fvQ ((1 : Int) : Rat)] ∧ Below w.heap.size w w' := by
 refine (solve_any A A' 1 cap 2 cap' _ _ w hl hr (by decide) (by decide) (by decide +kernel)).mono ?_
 rintro e w' ⟨E, hE, hO, hb⟩
 have he := hE.det (says_none exB1 exB2)
 subst he
 obtain ⟨A2, c2, h0, h2, -⟩ := hO
 rw [exB3] at h2
 exact ⟨A2, c2, h0, h2, hb⟩
theorem solC (A A' : Option Addr) (cap cap' : Nat) (w : World) (hl : RdF w w.heap.size A 2 cap (fvJ [1, 1])) (hr : RdR w w.heap.size A' 1 cap' pC) : Calls Tryz.prog 23 #[.agg #[.slice A 2 cap, .slice A' 1 cap']] w fun e w' => ∃ A2 c2, e = .returned (.tuple #[.slice A2 2 c2, .slice none 0 0, .int .i64 3]) ∧ RdF w' w'.heap.size A2 2 c2 [fvQ ((1 : Int) : Rat), fvQ ((1 : Int) : Rat)] ∧ Below w.heap.size w w' := by
 refine (solve_any A A' 2 cap 1 cap' _ _ w hl hr (by decide) (by decide) (by decide +kernel)).mono ?_
 rintro e w' ⟨E, hE, hO, hb⟩
 have he := hE.det (says_fin exC1 exC2 exC3)
 subst he
 unfold endOf at hO
 rw [exC4] at hO
 obtain ⟨A2, c2, h0, h2, -⟩ := hO
 rw [exC5] at h2
 exact ⟨A2, c2, h0, h2, hb⟩
theorem solD (A' : Option Addr) (cap' : Nat) (w : World) (hr : RdR w w.heap.size A' 1 cap' pD) : Calls Tryz.prog 23 #[.agg #[.slice none 0 0, .slice A' 1 cap']] w fun e w' => ∃ A2 c2, e = .returned (.tuple #[.slice none 0 0, .slice A2 1 c2, .int .i64 4]) ∧ RdF w' w'.heap.size A2 1 c2 [fvQ ((1 : Int) : Rat)] ∧ Below w.heap.size w w' := by
 refine (solve_any none A' 0 0 1 cap' [] _ w Rd.nil hr (by decide) (by decide) (by decide +kernel)).mono ?_
 rintro e w' ⟨E, hE, hO, hb⟩
 have he := hE.det (says_none exD1 exD2)
 subst he
 obtain ⟨A2, c2, h0, h2, -⟩ := hO
 rw [exD3] at h2
 exact ⟨A2, c2, h0, h2, hb⟩
theorem is9_yes (x : Rw) (p q : Int) (z : Rat) (w : World) (h1 : RdI w w.heap.size x.A x.n x.c x.l) (h2 : RdI w w.heap.size x.B x.m x.d x.k) (hO : ∀ W, Calls Tryz.prog 35 #[.int .i64 p, .int .i64 q] W (FrE W (some z) 0)) (hx : x.fv = fvQ z) :
 Calls Tryz.prog 59 #[.agg #[.int .i64 x.s, .slice x.A x.n x.c, .int .i64 x.t, .slice x.B x.m x.d], .int .i64 p, .int .i64 q] w fun e w' => e = .returned (.bool true) ∧ Below w.heap.size w w' := by
 have := is9_any x p q z w h1 h2 hO
 rw [decide_eq_true hx] at this
 exact this
theorem of_85 (W : World) : Calls Tryz.prog 35 #[.int .i64 8, .int .i64 5] W (FrE W (some (Rat.divInt 8 5)) 0) := by
 have h := gOf_any 8 5 W (by decide) (by decide)
 exact ZQ97
theorem of_65 (W : World) : Calls Tryz.prog 35 #[.int .i64 6, .int .i64 5] W (FrE W (some (Rat.divInt 6 5)) 0) := by
 have h := gOf_any 6 5 W (by decide) (by decide)
 exact ZQ97
theorem of_25 (W : World) : Calls Tryz.prog 35 #[.int .i64 2, .int .i64 5] W (FrE W (some (Rat.divInt 2 5)) 0) := by
 have h := gOf_any 2 5 W (by decide) (by decide)
 exact ZQ97
theorem of_15 (W : World) : Calls Tryz.prog 35 #[.int .i64 1, .int .i64 5] W (FrE W (some (Rat.divInt 1 5)) 0) := by
 have h := gOf_any 1 5 W (by decide) (by decide)
 exact ZQ97
theorem same9_yes (a : List Fv) (A A2 : Option Addr) (n cap n2 cap2 : Nat) (w : World) (ha : RdF w w.heap.size A n cap a) (hb : RdF w w.heap.size A2 n2 cap2 a) : Calls Tryz.prog 25 #[.slice A n cap, .slice A2 n2 cap2] w fun e w' => e = .returned (.bool true) ∧ Below w.heap.size w w' := by
 have := same9_any A A2 n cap n2 cap2 a a w ha hb
 rw [decide_eq_true rfl] at this
 exact this
theorem St.fxNew {w W : World} {D : List Hl} {A : Option Addr} {n cap : Nat} {l : List Fv} (K : St w [] D W) (h : RdF W W.heap.size A n cap l) : ∃ v : Nat → Rw, (∀ i, i < n → l[i]? = some (v i).fv) ∧ St w [] (⟨fxP A n cap v, fxS A n v⟩ :: D) W := by
 obtain ⟨v, h1, h2, h3⟩ := rdF_raw h
 exact ⟨v, h3, K.fxAdd ⟨h1, fun i hi => h2 i hi⟩ fun b hS p hp => by cases hp⟩
theorem alive9_any (w : World) : Calls Tryz.prog 20 #[] w fun e w' => e = .returned (.bool true) ∧ Below w.heap.size w w' := by
 have K := St.start w
 go_enter Tryz.func20, Tryz.ntmps20
 go_wp2_with fail
 replace K := (K.keep ((Below.refl _ _).alloc (Nat.le_refl _) _)).addI (Rd.litG iSized 3 [1, 1] #[.int .i64 1, .int .i64 1] 2 _ rfl rfl rfl (by decide))
 refine (list9_any _ 2 _ [1, 1] _ ?qa (by decide) (by decide)).mono ?_
 case qa => exact K.rd ZMB
 rintro e W' ⟨A20, c20, rfl, hf, hb⟩
 have hcap20 := hf.now.caps
 replace K := (K.keep hb).addF (show RdF _ _ A20 2 c20 (fvJ [1, 1]) from hf.now)
 clear hf hb
 go_wp2_with fail
 replace K := (K.keep ((Below.refl _ _).alloc (Nat.le_refl _) _)).addI (Rd.litG iSized 3 [1, 2] #[.int .i64 1, .int .i64 2] 2 _ rfl rfl rfl (by decide))
 refine (row9_any _ 2 _ [1, 2] 4 _ ?qa (by decide) (by decide) (by decide)).mono ?_
 case qa => exact K.rd ZMB
 rintro e W' ⟨x1, rfl, hn1, ho, hv1, hb⟩
 replace K := (K.keep hb).addRow ho
 clear ho hb
 go_wp2_with fail
 replace K := (K.keep ((Below.refl _ _).alloc (Nat.le_refl _) _)).addI (Rd.litG iSized 3 [3, 1] #[.int .i64 3, .int .i64 1] 2 _ rfl rfl rfl (by decide))
 refine (row9_any _ 2 _ [3, 1] 6 _ ?qa (by decide) (by decide) (by decide)).mono ?_
 case qa => exact K.rd ZMB
 rintro e W' ⟨x2, rfl, hn2, ho, hv2, hb⟩
 replace K := (K.keep hb).addRow ho
 clear ho hb
 go_wp2_with fail
 have hlit := litR [x1, x2] 56 #[.slice x1.A 2 x1.c, .int .i64 x1.y.s, .slice x1.y.A x1.y.n x1.y.c, .int .i64 x1.y.t, .slice x1.y.B x1.y.m x1.y.d, .slice x2.A 2 x2.c, .int .i64 x2.y.s, .slice x2.y.A x2.y.n x2.y.c, .int .i64 x2.y.t, .slice x2.y.B x2.y.m x2.y.d] (by
  have K1 := K.keep ((Below.refl _ _).alloc (Nat.le_refl _) (.cells #[.slice x1.A 2 x1.c, .int .i64 x1.y.s, .slice x1.y.A x1.y.n x1.y.c, .int .i64 x1.y.t, .slice x1.y.B x1.y.m x1.y.d, .slice x2.A 2 x2.c, .int .i64 x2.y.s, .slice x2.y.A x2.y.n x2.y.c, .int .i64 x2.y.t, .slice x2.y.B x2.y.m x2.y.d] 56))
  intro x hx
  simp only [List.mem_cons, List.not_mem_nil, or_false] at hx
  rcases hx with rfl | rfl <;> exact K1.getRow ZMB) (by simp only [List.flatMap_cons, List.flatMap_nil, List.append_nil, List.cons_append, List.nil_append, Rr.cs, Rw.cs, hn1, hn2]) 2 _ rfl rfl (by decide)
 have elit : [x1, x2].map Rr.rv = pA := by simp only [List.map_cons, List.map_nil, hv1, hv2]; rfl
 rw [elit] at hlit
 replace K := (K.keep ((Below.refl _ _).alloc (Nat.le_refl _) _)).addR hlit
 clear hlit elit
 refine (solA _ _ _ _ _ ?qa ?qb).mono ?_
 case qa => exact K.getQ ZMB
 case qb => exact K.getR ZMB
 rintro e W ⟨A3, c3, A4, c4, rfl, hx, hy, hb⟩
 have hcap3 := hx.caps
 have hcap4 := hy.caps
 replace K := K.keep hb
 obtain ⟨vx, hvx, K2⟩ := K.fxNew hx
 obtain ⟨vy, hvy, K3⟩ := K2.fxNew hy
 obtain ⟨b3, o3, rfl⟩ := K3.fxAt (A := A3) (n := 2) (cap := c3) (v := vx) ZMB (by decide)
 obtain ⟨b4, o4, rfl⟩ := K3.fxAt (A := A4) (n := 2) (cap := c4) (v := vy) ZMB (by decide)
 have HX0 := Lib.hid (show (vx 0).fv = fvQ (Rat.divInt 8 5) from (Option.some.inj (hvx 0 (by decide))).symm)
 have HX1 := Lib.hid (show (vx 1).fv = fvQ (Rat.divInt 6 5) from (Option.some.inj (hvx 1 (by decide))).symm)
 have HY0 := Lib.hid (show (vy 0).fv = fvQ (Rat.divInt 2 5) from (Option.some.inj (hvy 0 (by decide))).symm)
 have HY1 := Lib.hid (show (vy 1).fv = fvQ (Rat.divInt 1 5) from (Option.some.inj (hvy 1 (by decide))).symm)
 replace K := K3
 clear K2 K3 hx hy hb hvx hvy
 have q0 := trivial
 have q1 := trivial
 have q2 := trivial
 have q3 := trivial
 clear q0 q1 q2 q3
 have q0 := K.fxCell (b := b3) (off := o3) (n := 2) (cap := c3) (v := vx) ZMB (i := 0) (by decide)
 have q1 := K.fxCell (b := b3) (off := o3) (n := 2) (cap := c3) (v := vx) ZMB (i := 1) (by decide)
 have q2 := K.fxCell (b := b4) (off := o4) (n := 2) (cap := c4) (v := vy) ZMB (i := 0) (by decide)
 have q3 := K.fxCell (b := b4) (off := o4) (n := 2) (cap := c4) (v := vy) ZMB (i := 1) (by decide)
 simp only [Nat.zero_mul, Nat.one_mul, Nat.add_zero] at q0 q1 q2 q3
 go_wp2_with fail
 refine (is9_yes (vx 0) 8 5 _ _ ((K.fxRd (n := 2) (v := vx) (i := 0) ZMB (by decide)).rd ZMB) ((K.fxRd (n := 2) (v := vx) (i := 0) ZMB (by decide)).rd ZMB) of_85 HX0.out).mono ?_
 rintro e W ⟨rfl, hb⟩
 replace K := K.keep hb
 clear hb
 clear q0 q1 q2 q3
 have q0 := K.fxCell (b := b3) (off := o3) (n := 2) (cap := c3) (v := vx) ZMB (i := 0) (by decide)
 have q1 := K.fxCell (b := b3) (off := o3) (n := 2) (cap := c3) (v := vx) ZMB (i := 1) (by decide)
 have q2 := K.fxCell (b := b4) (off := o4) (n := 2) (cap := c4) (v := vy) ZMB (i := 0) (by decide)
 have q3 := K.fxCell (b := b4) (off := o4) (n := 2) (cap := c4) (v := vy) ZMB (i := 1) (by decide)
 simp only [Nat.zero_mul, Nat.one_mul, Nat.add_zero] at q0 q1 q2 q3
 go_wp2_with fail
 refine (is9_yes (vx 1) 6 5 _ _ ((K.fxRd (n := 2) (v := vx) (i := 1) ZMB (by decide)).rd ZMB) ((K.fxRd (n := 2) (v := vx) (i := 1) ZMB (by decide)).rd ZMB) of_65 HX1.out).mono ?_
 rintro e W ⟨rfl, hb⟩
 replace K := K.keep hb
 clear hb
 clear q0 q1 q2 q3
 have q0 := K.fxCell (b := b3) (off := o3) (n := 2) (cap := c3) (v := vx) ZMB (i := 0) (by decide)
 have q1 := K.fxCell (b := b3) (off := o3) (n := 2) (cap := c3) (v := vx) ZMB (i := 1) (by decide)
 have q2 := K.fxCell (b := b4) (off := o4) (n := 2) (cap := c4) (v := vy) ZMB (i := 0) (by decide)
 have q3 := K.fxCell (b := b4) (off := o4) (n := 2) (cap := c4) (v := vy) ZMB (i := 1) (by decide)
 simp only [Nat.zero_mul, Nat.one_mul, Nat.add_zero] at q0 q1 q2 q3
 go_wp2_with fail
 refine (is9_yes (vy 0) 2 5 _ _ ((K.fxRd (n := 2) (v := vy) (i := 0) ZMB (by decide)).rd ZMB) ((K.fxRd (n := 2) (v := vy) (i := 0) ZMB (by decide)).rd ZMB) of_25 HY0.out).mono ?_
 rintro e W ⟨rfl, hb⟩
 replace K := K.keep hb
 clear hb
 clear q0 q1 q2 q3
 have q0 := K.fxCell (b := b3) (off := o3) (n := 2) (cap := c3) (v := vx) ZMB (i := 0) (by decide)
 have q1 := K.fxCell (b := b3) (off := o3) (n := 2) (cap := c3) (v := vx) ZMB (i := 1) (by decide)
 have q2 := K.fxCell (b := b4) (off := o4) (n := 2) (cap := c4) (v := vy) ZMB (i := 0) (by decide)
 have q3 := K.fxCell (b := b4) (off := o4) (n := 2) (cap := c4) (v := vy) ZMB (i := 1) (by decide)
 simp only [Nat.zero_mul, Nat.one_mul, Nat.add_zero] at q0 q1 q2 q3
 go_wp2_with fail
 refine (is9_yes (vy 1) 1 5 _ _ ((K.fxRd (n := 2) (v := vy) (i := 1) ZMB (by decide)).rd ZMB) ((K.fxRd (n := 2) (v := vy) (i := 1) ZMB (by decide)).rd ZMB) of_15 HY1.out).mono ?_
 rintro e W ⟨rfl, hb⟩
 replace K := K.keep hb
 clear hb
 clear q0 q1 q2 q3
 have q0 := K.fxCell (b := b3) (off := o3) (n := 2) (cap := c3) (v := vx) ZMB (i := 0) (by decide)
 have q1 := K.fxCell (b := b3) (off := o3) (n := 2) (cap := c3) (v := vx) ZMB (i := 1) (by decide)
 have q2 := K.fxCell (b := b4) (off := o4) (n := 2) (cap := c4) (v := vy) ZMB (i := 0) (by decide)
 have q3 := K.fxCell (b := b4) (off := o4) (n := 2) (cap := c4) (v := vy) ZMB (i := 1) (by decide)
 simp only [Nat.zero_mul, Nat.one_mul, Nat.add_zero] at q0 q1 q2 q3
 clear q0 q1 q2 q3
 go_wp2_with fail
 replace K := (K.keep ((Below.refl _ _).alloc (Nat.le_refl _) _)).addI (Rd.litG iSized 3 [1] #[.int .i64 1] 1 _ rfl rfl rfl (by decide))
 refine (list9_any _ 1 _ [1] _ ?qa (by decide) (by decide)).mono ?_
 case qa => exact K.rd ZMB
 rintro e W' ⟨A30, c30, rfl, hf, hb⟩
 have hcap30 := hf.now.caps
 replace K := (K.keep hb).addF (show RdF _ _ A30 1 c30 (fvJ [1]) from hf.now)
 clear hf hb
 go_wp2_with fail
 replace K := (K.keep ((Below.refl _ _).alloc (Nat.le_refl _) _)).addI (Rd.litG iSized 3 [-1] #[.int .i64 (-1)] 1 _ rfl rfl rfl (by decide))
 refine (row9_any _ 1 _ [-1] (-3) _ ?qa (by decide) (by decide) (by decide)).mono ?_
 case qa => exact K.rd ZMB
 rintro e W' ⟨x3, rfl, hn3, ho, hv3, hb⟩
 replace K := (K.keep hb).addRow ho
 clear ho hb
 go_wp2_with fail
 replace K := (K.keep ((Below.refl _ _).alloc (Nat.le_refl _) _)).addI (Rd.litG iSized 3 [1] #[.int .i64 1] 1 _ rfl rfl rfl (by decide))
 refine (row9_any _ 1 _ [1] 2 _ ?qa (by decide) (by decide) (by decide)).mono ?_
 case qa => exact K.rd ZMB
 rintro e W' ⟨x4, rfl, hn4, ho, hv4, hb⟩
 replace K := (K.keep hb).addRow ho
 clear ho hb
 go_wp2_with fail
 have hlit := litR [x3, x4] 56 #[.slice x3.A 1 x3.c, .int .i64 x3.y.s, .slice x3.y.A x3.y.n x3.y.c, .int .i64 x3.y.t, .slice x3.y.B x3.y.m x3.y.d, .slice x4.A 1 x4.c, .int .i64 x4.y.s, .slice x4.y.A x4.y.n x4.y.c, .int .i64 x4.y.t, .slice x4.y.B x4.y.m x4.y.d] (by
  have K1 := K.keep ((Below.refl _ _).alloc (Nat.le_refl _) (.cells #[.slice x3.A 1 x3.c, .int .i64 x3.y.s, .slice x3.y.A x3.y.n x3.y.c, .int .i64 x3.y.t, .slice x3.y.B x3.y.m x3.y.d, .slice x4.A 1 x4.c, .int .i64 x4.y.s, .slice x4.y.A x4.y.n x4.y.c, .int .i64 x4.y.t, .slice x4.y.B x4.y.m x4.y.d] 56))
  intro x hx
  simp only [List.mem_cons, List.not_mem_nil, or_false] at hx
  rcases hx with rfl | rfl <;> exact K1.getRow ZMB) (by simp only [List.flatMap_cons, List.flatMap_nil, List.append_nil, List.cons_append, List.nil_append, Rr.cs, Rw.cs, hn3, hn4]) 2 _ rfl rfl (by decide)
 have elit : [x3, x4].map Rr.rv = pB := by simp only [List.map_cons, List.map_nil, hv3, hv4]; rfl
 rw [elit] at hlit
 replace K := (K.keep ((Below.refl _ _).alloc (Nat.le_refl _) _)).addR hlit
 clear hlit elit
 refine (solB _ _ _ _ _ ?qa ?qb).mono ?_
 case qa => exact K.getQ ZMB
 case qb => exact K.getR ZMB
 rintro e W ⟨A31, c31, rfl, hy, hb⟩
 have hcap31 := hy.caps
 replace K := (K.keep hb).addF hy
 clear hy hb
 go_wp2_with fail
 replace K := (K.keep ((Below.refl _ _).alloc (Nat.le_refl _) _)).addI (Rd.litG iSized 3 [1, 1] #[.int .i64 1, .int .i64 1] 2 _ rfl rfl rfl (by decide))
 refine (list9_any _ 2 _ [1, 1] _ ?qa (by decide) (by decide)).mono ?_
 case qa => exact K.rd ZMB
 rintro e W' ⟨A40, c40, rfl, hf, hb⟩
 have hcap40 := hf.now.caps
 replace K := (K.keep hb).addF (show RdF _ _ A40 2 c40 (fvJ [1, 1]) from hf.now)
 clear hf hb
 go_wp2_with fail
 replace K := (K.keep ((Below.refl _ _).alloc (Nat.le_refl _) _)).addI (Rd.litG iSized 3 [1, -1] #[.int .i64 1, .int .i64 (-1)] 2 _ rfl rfl rfl (by decide))
 refine (row9_any _ 2 _ [1, -1] 1 _ ?qa (by decide) (by decide) (by decide)).mono ?_
 case qa => exact K.rd ZMB
 rintro e W' ⟨x5, rfl, hn5, ho, hv5, hb⟩
 replace K := (K.keep hb).addRow ho
 clear ho hb
 go_wp2_with fail
 have hlit := litR [x5] 56 #[.slice x5.A 2 x5.c, .int .i64 x5.y.s, .slice x5.y.A x5.y.n x5.y.c, .int .i64 x5.y.t, .slice x5.y.B x5.y.m x5.y.d] (by
  have K1 := K.keep ((Below.refl _ _).alloc (Nat.le_refl _) (.cells #[.slice x5.A 2 x5.c, .int .i64 x5.y.s, .slice x5.y.A x5.y.n x5.y.c, .int .i64 x5.y.t, .slice x5.y.B x5.y.m x5.y.d] 56))
  intro x hx
  rw [List.mem_singleton.1 hx]
  exact K1.getRow ZMB) (by simp only [List.flatMap_cons, List.flatMap_nil, List.append_nil, Rr.cs, Rw.cs, hn5]) 1 _ rfl rfl (by decide)
 have elit : [x5].map Rr.rv = pC := by simp only [List.map_cons, List.map_nil, hv5]; rfl
 rw [elit] at hlit
 replace K := (K.keep ((Below.refl _ _).alloc (Nat.le_refl _) _)).addR hlit
 clear hlit elit
 refine (solC _ _ _ _ _ ?qa ?qb).mono ?_
 case qa => exact K.getQ ZMB
 case qb => exact K.getR ZMB
 rintro e W ⟨A41, c41, rfl, hy, hb⟩
 have hcap41 := hy.caps
 replace K := (K.keep hb).addF hy
 clear hy hb
 go_wp2_with fail
 refine (row9_any none 0 0 [] (-1) _ Rd.nil (by decide) (by decide) (by decide)).mono ?_
 rintro e W' ⟨x6, rfl, hn6, ho, hv6, hb⟩
 replace K := (K.keep hb).addRow ho
 clear ho hb
 go_wp2_with fail
 have hlit := litR [x6] 56 #[.slice x6.A 0 x6.c, .int .i64 x6.y.s, .slice x6.y.A x6.y.n x6.y.c, .int .i64 x6.y.t, .slice x6.y.B x6.y.m x6.y.d] (by
  have K1 := K.keep ((Below.refl _ _).alloc (Nat.le_refl _) (.cells #[.slice x6.A 0 x6.c, .int .i64 x6.y.s, .slice x6.y.A x6.y.n x6.y.c, .int .i64 x6.y.t, .slice x6.y.B x6.y.m x6.y.d] 56))
  intro x hx
  rw [List.mem_singleton.1 hx]
  exact K1.getRow ZMB) (by simp only [List.flatMap_cons, List.flatMap_nil, List.append_nil, Rr.cs, Rw.cs, hn6]) 1 _ rfl rfl (by decide)
 have elit : [x6].map Rr.rv = pD := by simp only [List.map_cons, List.map_nil, hv6]; rfl
 rw [elit] at hlit
 replace K := (K.keep ((Below.refl _ _).alloc (Nat.le_refl _) _)).addR hlit
 clear hlit elit
 refine (solD _ _ _ ?qb).mono ?_
 case qb => exact K.getR ZMB
 rintro e W ⟨A51, c51, rfl, hy, hb⟩
 have hcap51 := hy.caps
 replace K := (K.keep hb).addF hy
 clear hy hb
 go_wp2_with fail
 replace K := (K.keep ((Below.refl _ _).alloc (Nat.le_refl _) _)).addI (Rd.litG iSized 3 [1, 1] #[.int .i64 1, .int .i64 1] 2 _ rfl rfl rfl (by decide))
 refine (list9_any _ 2 _ [1, 1] _ ?qa (by decide) (by decide)).mono ?_
 case qa => exact K.rd ZMB
 rintro e W' ⟨A60, c60, rfl, hf, hb⟩
 have hcap60 := hf.now.caps
 replace K := (K.keep hb).addF (show RdF _ _ A60 2 c60 (fvJ [1, 1]) from hf.now)
 clear hf hb
 go_wp2_with fail
 refine (same9_yes [fvQ ((1 : Int) : Rat), fvQ ((1 : Int) : Rat)] _ _ _ _ _ _ _ ?qa ?qb).mono ?_
 case qa => exact K.getQ ZMB
 case qb => exact (K.getQ (l := fvJ [1, 1]) ZMB)
 rintro e W ⟨rfl, hb⟩
 replace K := K.keep hb
 clear hb
 go_wp2_with fail
 replace K := (K.keep ((Below.refl _ _).alloc (Nat.le_refl _) _)).addI (Rd.litG iSized 3 [1, 1] #[.int .i64 1, .int .i64 1] 2 _ rfl rfl rfl (by decide))
 refine (list9_any _ 2 _ [1, 1] _ ?qa (by decide) (by decide)).mono ?_
 case qa => exact K.rd ZMB
 rintro e W' ⟨A61, c61, rfl, hf, hb⟩
 have hcap61 := hf.now.caps
 replace K := (K.keep hb).addF (show RdF _ _ A61 2 c61 (fvJ [1, 1]) from hf.now)
 clear hf hb
 go_wp2_with fail
 refine (same9_yes [fvQ ((1 : Int) : Rat), fvQ ((1 : Int) : Rat)] _ _ _ _ _ _ _ ?qa ?qb).mono ?_
 case qa => exact K.getQ ZMB
 case qb => exact (K.getQ (l := fvJ [1, 1]) ZMB)
 rintro e W ⟨rfl, hb⟩
 replace K := K.keep hb
 clear hb
 go_wp2_with fail
 replace K := (K.keep ((Below.refl _ _).alloc (Nat.le_refl _) _)).addI (Rd.litG iSized 3 [1] #[.int .i64 1] 1 _ rfl rfl rfl (by decide))
 refine (list9_any _ 1 _ [1] _ ?qa (by decide) (by decide)).mono ?_
 case qa => exact K.rd ZMB
 rintro e W' ⟨A62, c62, rfl, hf, hb⟩
 have hcap62 := hf.now.caps
 replace K := (K.keep hb).addF (show RdF _ _ A62 1 c62 (fvJ [1]) from hf.now)
 clear hf hb
 go_wp2_with fail
 refine (same9_yes [fvQ ((1 : Int) : Rat)] _ _ _ _ _ _ _ ?qa ?qb).mono ?_
 case qa => exact K.getQ ZMB
 case qb => exact (K.getQ (l := fvJ [1]) ZMB)
 rintro e W ⟨rfl, hb⟩
 replace K := K.keep hb
 clear hb
 go_wp2_with fail
 go_ret
 exact ⟨rfl, K.1⟩
def FrN (w0 : World) (L : List Blk) (D : List Hl) (q : Rat) (e : Ending) (W' : World) : Prop := ∃ y : Rw, e = Ending.returned (.tuple #[.agg #[.int .i64 y.s, .slice y.A y.n y.c, .int .i64 y.t, .slice y.B y.m y.d], .int .i64 0]) ∧ Hid (isQ y q ∧ FrA w0.heap.size y.A ∧ FrA w0.heap.size y.B) ∧ St w0 L (⟨rdP y.B y.m y.d y.k, rdS y.B y.m⟩ :: ⟨rdP y.A y.n y.c y.l, rdS y.A y.n⟩ :: D) W'
def Rr.onK (x : Rr) (w w' : World) : Prop := ∀ W : World, w'.heap.size ≤ W.heap.size → (∀ b, w.heap.size ≤ b → b < w'.heap.size → W.heap[b]? = w'.heap[b]?) → x.on W
theorem FrK.row {w W : World} {L : List Blk} {D : List Hl} {A : Option Addr} {n c : Nat} {a : List Fv} {y : Rw} (h : FrK w W A n c a) (K : St w L D W) (m2 : (⟨rdP y.A y.n y.c y.l, rdS y.A y.n⟩ : Hl) ∈ D) (m3 : (⟨rdP y.B y.m y.d y.k, rdS y.B y.m⟩ : Hl) ∈ D) (f2 : FrA w.heap.size y.A) (f3 : FrA w.heap.size y.B) : (⟨A, n, c, a, y⟩ : Rr).onK w W := fun W' h1 h2 =>
 ⟨h W' h1 h2, (K.2.2.2 _ m2).2.2 W' h1 (fun b hS => h2 b (by obtain ⟨-, a, e1, e2⟩ := hS; rw [← e2]; exact f2 a e1) ((K.2.2.2 _ m2).2.1 b hS).1), (K.2.2.2 _ m3).2.2 W' h1 (fun b hS => h2 b (by obtain ⟨-, a, e1, e2⟩ := hS; rw [← e2]; exact f3 a e1) ((K.2.2.2 _ m3).2.1 b hS).1)⟩
theorem LstP.congr {w w' : World} {n : Nat} {x y : Nat → Rat} {e : Ending} (h : LstP w n x e w') (hxy : ∀ i, i < n → x i = y i) : LstP w n y e w' := by
 obtain ⟨A, c, he, hr, hb⟩ := h
 rw [ofF_congr (g := fun i => fvQ (y i)) (fun i hi => by rw [hxy i hi])] at hr
 exact ⟨A, c, he, hr, hb⟩
theorem fvR_ofF {n i : Nat} {f : Nat → Fv} (hi : i < n) : fvR (ofF n f) i = (f i).rat := by
 unfold fvR
 rw [ofF_get hi, Option.map_some, Option.getD_some]
end Go.Proofs.YtdlcglndhhndpaaGreat
