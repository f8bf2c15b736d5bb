/- Walk over the examples of the statements of layer 34. No condition. -/
import Derived.Test.YtfidjhhpcjmioaaB10
namespace Go.Proofs.Ytfidjhhpcjmioaa
open Go.RowKit
set_option linter.unusedVariables false

theorem rdC_of {w : World} {A : Option Addr} {n cap : Nat} {raw : List Cw} {l : List Crd} (hr : Rd 2 (flat sEnc) w w.heap.size A n cap raw) (hl : l.length = raw.length)
    (h : ∀ k (h1 : k < raw.length) (h2 : k < l.length), raw[k].1 = l[k].1 ∧ RdP w w.heap.size raw[k].2.1 raw[k].2.2.1 raw[k].2.2.2 l[k].2) : RdC w w.heap.size A n cap l := by
  refine ⟨hl.trans hr.1, hr.2.1, hr.2.2.1, fun hn => ?_⟩
  obtain ⟨b, off, rfl, hb, hc⟩ := hr.2.2.2 hn
  refine ⟨b, off, rfl, hb, fun k hk => ?_⟩
  obtain ⟨cs, hr', hl', hj⟩ := hc k (by omega)
  obtain ⟨h1, h2⟩ := h k (by omega) hk
  exact ⟨cs, ⟨_, _, _, by rw [← h1]; exact hr', h2⟩, hl', hj⟩

def V3 : List Vt := [(5, true, 1), (7, false, 2), (9, true, 3)]
theorem three_any (w : World) : Calls Try.prog 44 #[] w fun e w' => ∃ A cap, e = .returned (.slice A 3 cap) ∧ RdV w' w'.heap.size A 3 cap V3 ∧ Below w.heap.size w w' := by
  have hr := Rd.lit vSized w 43 V3 #[.int .i64 5, .bool true, .int .i64 1, .int .i64 7, .bool false, .int .i64 2, .int .i64 9, .bool true, .int .i64 3] rfl rfl (by decide)
  have hb := (Below.refl w.heap.size w).alloc (Nat.le_refl _) (.cells #[.int .i64 5, .bool true, .int .i64 1, .int .i64 7, .bool false, .int .i64 2, .int .i64 9, .bool true, .int .i64 3] 43)
  go_enter Try.func44, Try.ntmps44
  go_wp2
  go_ret
  exact ⟨_, _, rfl, hr, hb⟩

theorem open_C (l : List (Int × Int)) (k c : Int) : openF l k c = (if (joinC l k).2 ≠ 0 then (0, (joinC l k).2) else if c < (joinC l k).1 then (0, 3) else ((joinC l k).1, 0)) := by
  unfold openF; rw [join_C]
theorem small_facts : ∃ (L0 L1 L2 : List (Int × Int)) (a b c : Int), ofF 3 (fun i => cardOf 3 2 (vAt V3 i)) = [(5, L0), (7, L1), (9, L2)] ∧ sumF [(5, L0), (7, L1), (9, L2)] 3 = [(1, a), (2, b), (3, c)] ∧
    (checkF [(5, L0), (7, L1), (9, L2)] 3 = 0 ∧ checkF [(5, L0), (7, L1), (5, L0)] 3 = 5 ∧ checkF [(5, L0), (7, L1), (9, L2)] 0 = 1) ∧
    (openF [(1, a), (3, c)] 2 3 = (2, 0) ∧ openF [(3, c), (1, a)] 2 3 = (2, 0) ∧ openF [(1, a), (2, b), (3, c)] 2 3 = (2, 0) ∧ openF [(1, a)] 2 3 = (0, 21) ∧ openF [(1, a), (2, b), (3, c)] 2 1 = (0, 3)) := by
  refine ⟨[(1, 1103527591), (2, 59571534), (3, 1163099124)], [(1, 59559187), (2, 119118374), (3, 178677561)], [(1, 1163074433), (2, 178665218), (3, 1341739650)], 178677564, 357355126, 536032688, by decide +kernel, by decide +kernel, ⟨by decide +kernel, by decide +kernel, by decide +kernel⟩, ?_, ?_, ?_, ?_, ?_⟩
  all_goals (rw [open_C]; decide +kernel)

theorem bsum_at (A : Option Addr) (n cap : Nat) (l : List Crd) (t : Nat) (w : World) (hl : RdC w w.heap.size A n cap l) (hc : checkF l t = 0) (L : List (Int × Int)) (hL : sumF l t = L) (ht : t ≤ 1000) :
  Calls Try.prog 27 #[.slice A n cap, .int .i64 t] w fun e w' => ∃ A' cap', e = .returned (.tuple #[.slice A' t cap', .int .i64 0]) ∧ RdP w' w'.heap.size A' t cap' L ∧ Below w.heap.size w w' :=
  (bsum_ok A n cap l t w hl hc).mono fun e w' ⟨v, he, ho, hb⟩ => by
    rw [hL] at ho
    have hlen : L.length = t := by rw [← hL, sumF, shL_len]
    obtain ⟨A', cap', rfl, hr⟩ := ho.rd pSized (by omega)
    rw [hlen] at hr he
    exact ⟨A', cap', he, hr, hb⟩
theorem cards_at (A : Option Addr) (n cap : Nat) (l : List Vt) (t k : Nat) (w : World) (hl : RdV w w.heap.size A n cap l) (hm : ∀ i, i < n → memF (vAt l i).1 = true) (hs : ∀ x ∈ l, -9223372036854775808 ≤ x.2.2 ∧ x.2.2 ≤ 9223372036854775807) (hk : 1 ≤ k) (hkt : k ≤ t) (ht : t ≤ 20) (hn : n ≤ 1000000) (C : List Crd) (hC : ofF n (fun i => cardOf t k (vAt l i)) = C) :
  Calls Try.prog 36 #[.slice A n cap, .int .i64 t, .int .i64 k] w fun e w' => ∃ A' cap', e = .returned (.tuple #[.slice A' n cap', .bool true]) ∧ RdC w' w'.heap.size A' n cap' C ∧ Below w.heap.size w w' :=
  (cards_any A n cap l t k w hl hm hs hk hkt ht hn).mono fun e w' ⟨v, he, ho, hb⟩ => by
    obtain ⟨A', cap', rfl, hr⟩ := ho.rd (by omega)
    rw [hC] at hr
    exact ⟨A', cap', he, hr, hb⟩

set_option maxRecDepth 100000 in
set_option maxHeartbeats 4000000 in
theorem bsmall_any (w : World) : Calls Try.prog 23 #[] w fun e w' => e = .returned (.bool true) ∧ Below w.heap.size w w' := by
  obtain ⟨L0, L1, L2, a, b, c, hC, hS, ⟨hc1, hc2, hc3⟩, h1, h2, h3, h4, h5⟩ := small_facts
  have HC := Lib.hid hC; have HS := Lib.hid hS; have Hc1 := Lib.hid hc1; have Hc2 := Lib.hid hc2; have Hc3 := Lib.hid hc3
  have H1 := Lib.hid h1; have H2 := Lib.hid h2; have H3 := Lib.hid h3; have H4 := Lib.hid h4; have H5 := Lib.hid h5
  clear hC hS hc1 hc2 hc3 h1 h2 h3 h4 h5
  go_enter Try.func23, Try.ntmps23
  go_wp2_with fail
  refine (three_any _).mono ?_
  rintro e w1 ⟨A1, c1, rfl, r1, hb1⟩
  go_wp2_with fail
  refine (cards_at A1 3 c1 V3 3 2 w1 r1 (by decide) (by decide) (by omega) (by omega) (by omega) (by omega) _ HC.out).mono ?_
  rintro e w2 ⟨A2, c2, rfl, r2, hb2⟩
  have hb02 := hb1.trans (hb2.mono hb1.size)
  clear r1 hb1 hb2
  go_wp2_with fail
  refine (bsum_at A2 3 c2 _ 3 w2 r2 Hc1.out _ HS.out (by omega)).mono ?_
  rintro e w3 ⟨A3, c3, rfl, r3, hb3⟩
  have hb03 := hb02.trans (hb3.mono hb02.size)
  have hcc : (1 : Int) ≤ (c3 : Int) := by have := r3.caps; omega
  obtain ⟨g, o, x0, y0, rfl, hg, hx0, k0, k1⟩ := r3.atP (k := 0) (by omega)
  obtain ⟨g', o', x2, y2, he, hg', hx2, k4, k5⟩ := r3.atP (k := 2) (by omega)
  simp only [Option.some.injEq, Addr.mk.injEq] at he
  obtain ⟨rfl, rfl, -⟩ := he
  simp at hx0 hx2
  obtain ⟨rfl, rfl⟩ := hx0
  obtain ⟨rfl, rfl⟩ := hx2
  simp only [Nat.zero_mul, Nat.add_zero] at k0 k1
  simp only [show 2 * 2 = 4 from rfl] at k4 k5
  go_wp2_with fail
  have kg : g < w3.heap.size := hg
  clear hg hg'
  go_region_held3 (fun w' => w'.cell? ⟨g, o, none⟩ = some (.int .i64 1) ∧ w'.cell? ⟨g, o + 1, none⟩ = some (.int .i64 a) ∧ w'.cell? ⟨g, o + 4, none⟩ = some (.int .i64 3) ∧ w'.cell? ⟨g, o + 4 + 1, none⟩ = some (.int .i64 c))
    (first
      | exact ⟨k0, k1, k4, k5⟩
      | exact ⟨(World.cell?_alloc_lt _ _ _ kg).trans k0, (World.cell?_alloc_lt _ _ _ kg).trans k1, (World.cell?_alloc_lt _ _ _ kg).trans k4, (World.cell?_alloc_lt _ _ _ kg).trans k5⟩
      | exact ⟨(hbn.cell hgn).trans ((World.cell?_alloc_lt _ _ _ kg).trans k0), (hbn.cell hgn).trans ((World.cell?_alloc_lt _ _ _ kg).trans k1), (hbn.cell hgn).trans ((World.cell?_alloc_lt _ _ _ kg).trans k4), (hbn.cell hgn).trans ((World.cell?_alloc_lt _ _ _ kg).trans k5)⟩)
    (first | (go_at_call 29; refine (open_any _ 2 2 [(1, a), (3, c)] 2 3 _ (Rd.drewN (flat_lasts _) (Rd.lit pSized (n := 2) w3 39 [(1, a), (3, c)] #[.int .i64 1, .int .i64 a, .int .i64 3, .int .i64 c] rfl rfl (by omega)) 1)).mono ?_; rintro e w4 ⟨rfl, hbn⟩; rw [H1.out]; have hgn : g < (w3.alloc (.cells #[.int .i64 1, .int .i64 a, .int .i64 3, .int .i64 c] 39)).heap.size := (by simp; omega)))
  have hq7 : Below w3.heap.size w3 w4 := ((Below.refl _ w3).alloc (Nat.le_refl _) _).drew.trans (hbn.mono (by simp))
  have l0 : w4.cell? ⟨g, o, none⟩ = some (.int .i64 1) := (hq7.cell kg).trans k0
  have l1 : w4.cell? ⟨g, o + 1, none⟩ = some (.int .i64 a) := (hq7.cell kg).trans k1
  have l4 : w4.cell? ⟨g, o + 4, none⟩ = some (.int .i64 3) := (hq7.cell kg).trans k4
  have l5 : w4.cell? ⟨g, o + 4 + 1, none⟩ = some (.int .i64 c) := (hq7.cell kg).trans k5
  have lg : g < w4.heap.size := by have := hq7.size; omega
  clear k0 k1 k4 k5 hbn hgn
  go_wp2_with fail
  go_region_held3 (fun w' => w'.cell? ⟨g, o, none⟩ = some (.int .i64 1) ∧ w'.cell? ⟨g, o + 1, none⟩ = some (.int .i64 a) ∧ w'.cell? ⟨g, o + 4, none⟩ = some (.int .i64 3) ∧ w'.cell? ⟨g, o + 4 + 1, none⟩ = some (.int .i64 c))
    (first
      | exact ⟨l0, l1, l4, l5⟩
      | exact ⟨(World.cell?_alloc_lt _ _ _ lg).trans l0, (World.cell?_alloc_lt _ _ _ lg).trans l1, (World.cell?_alloc_lt _ _ _ lg).trans l4, (World.cell?_alloc_lt _ _ _ lg).trans l5⟩
      | exact ⟨(hbn.cell hgn).trans ((World.cell?_alloc_lt _ _ _ lg).trans l0), (hbn.cell hgn).trans ((World.cell?_alloc_lt _ _ _ lg).trans l1), (hbn.cell hgn).trans ((World.cell?_alloc_lt _ _ _ lg).trans l4), (hbn.cell hgn).trans ((World.cell?_alloc_lt _ _ _ lg).trans l5)⟩)
    (first | (go_at_call 29; refine (open_any _ 2 2 [(3, c), (1, a)] 2 3 _ (Rd.drewN (flat_lasts _) (Rd.lit pSized (n := 2) w4 39 [(3, c), (1, a)] #[.int .i64 3, .int .i64 c, .int .i64 1, .int .i64 a] rfl rfl (by omega)) 1)).mono ?_; rintro e w5 ⟨rfl, hbn⟩; rw [H2.out]; have hgn : g < (w4.alloc (.cells #[.int .i64 3, .int .i64 c, .int .i64 1, .int .i64 a] 39)).heap.size := (by simp; omega)))
  have hq8 : Below w4.heap.size w4 w5 := ((Below.refl _ w4).alloc (Nat.le_refl _) _).drew.trans (hbn.mono (by simp))
  have m0 : w5.cell? ⟨g, o, none⟩ = some (.int .i64 1) := (hq8.cell lg).trans l0
  have m1 : w5.cell? ⟨g, o + 1, none⟩ = some (.int .i64 a) := (hq8.cell lg).trans l1
  have m4 : w5.cell? ⟨g, o + 4, none⟩ = some (.int .i64 3) := (hq8.cell lg).trans l4
  have m5 : w5.cell? ⟨g, o + 4 + 1, none⟩ = some (.int .i64 c) := (hq8.cell lg).trans l5
  have mg : g < w5.heap.size := by have := hq8.size; omega
  clear l0 l1 l4 l5 hbn hgn
  go_wp2_with fail
  have hb05 := hb03.trans ((hq7.trans (hq8.mono hq7.size)).mono hb03.size)
  have hb35 := hq7.trans (hq8.mono hq7.size)
  clear hq7 hq8 m0 m1 m4 m5 mg
  refine (open_any _ 3 c3 _ 2 3 _ (r3.up (flat_lasts _) hb35)).mono ?_
  rintro e w6 ⟨rfl, hb6⟩
  rw [H3.out]
  have hb36 := hb35.trans (hb6.mono hb35.size)
  go_wp2_with fail
  refine (open_any _ 1 c3 _ 2 3 _ ((r3.take (k := 1) (by omega)).up (flat_lasts _) hb36)).mono ?_
  rintro e w7 ⟨rfl, hb7⟩
  rw [show ([(1, a), (2, b), (3, c)] : List (Int × Int)).take 1 = [(1, a)] from rfl, H4.out]
  have hb37 := hb36.trans (hb7.mono hb36.size)
  go_wp2_with fail
  refine (open_any _ 3 c3 _ 2 1 _ (r3.up (flat_lasts _) hb37)).mono ?_
  rintro e w8 ⟨rfl, hb8⟩
  rw [H5.out]
  have hb38 := hb37.trans (hb8.mono hb37.size)
  clear hb35 hb36 hb37 hb6 hb7 hb8
  have hb28 := hb3.trans (hb38.mono hb3.size)
  clear r3 hb38 hb3 hb05
  have r28 := r2.up cdE_lasts hb28
  have hb08 := hb02.trans (hb28.mono hb02.size)
  clear hb28 hb03 hb02 r2
  obtain ⟨p, u, x0, z0, B0, n0, q0, rfl, hp, hx0, j0, j1, i0⟩ := r28.atC (k := 0) (by omega)
  obtain ⟨p', u', x1, z1, B1, n1, q1, he, hp', hx1, j2, j3, i1⟩ := r28.atC (k := 1) (by omega)
  simp only [Option.some.injEq, Addr.mk.injEq] at he
  obtain ⟨rfl, rfl, -⟩ := he
  simp at hx0 hx1
  obtain ⟨rfl, rfl⟩ := hx0
  obtain ⟨rfl, rfl⟩ := hx1
  simp only [Nat.zero_mul, Nat.add_zero, Nat.one_mul] at j0 j1 j2 j3
  go_wp2_with fail
  have pg : p < w8.heap.size := hp
  clear hp hp'
  go_region_held3 (fun w' => w'.cell? ⟨p, u, none⟩ = some (.int .i64 5) ∧ w'.cell? ⟨p, u + 1, none⟩ = some (.slice B0 n0 q0) ∧ w'.cell? ⟨p, u + 2, none⟩ = some (.int .i64 7) ∧ w'.cell? ⟨p, u + 2 + 1, none⟩ = some (.slice B1 n1 q1))
    (first
      | exact ⟨j0, j1, j2, j3⟩
      | exact ⟨l0, l1, l2, l3⟩
      | exact ⟨(World.cell?_alloc_lt _ _ _ lg).trans l0, (World.cell?_alloc_lt _ _ _ lg).trans l1, (World.cell?_alloc_lt _ _ _ lg).trans l2, (World.cell?_alloc_lt _ _ _ lg).trans l3⟩
      | exact ⟨m0, m1, m2, m3⟩
      | exact ⟨(hb11.cell mg).trans m0, (hb11.cell mg).trans m1, (hb11.cell mg).trans m2, (hb11.cell mg).trans m3⟩)
    (first
      | (go_at_call 32; (with_reducible refine (check_any (some ⟨p, u, none⟩) 3 c2 [(5, L0), (7, L1), (9, L2)] 3 _ (Rd.drewN cdE_lasts r28 1)).mono ?_); rintro e w9 ⟨rfl, hb9⟩; rw [Hc1.out]
         have hq9 : Below w8.heap.size w8 w9 := ((Below.refl _ w8).drew.trans hb9)
         have l0 : w9.cell? ⟨p, u, none⟩ = some (.int .i64 5) := (hq9.cell pg).trans j0
         have l1 : w9.cell? ⟨p, u + 1, none⟩ = some (.slice B0 n0 q0) := (hq9.cell pg).trans j1
         have l2 : w9.cell? ⟨p, u + 2, none⟩ = some (.int .i64 7) := (hq9.cell pg).trans j2
         have l3 : w9.cell? ⟨p, u + 2 + 1, none⟩ = some (.slice B1 n1 q1) := (hq9.cell pg).trans j3
         have lg : p < w9.heap.size := by have := hq9.size; omega
         have hqa : Below w8.heap.size w8 (w9.alloc (.cells #[.int .i64 5, .slice B0 n0 q0, .int .i64 7, .slice B1 n1 q1, .int .i64 5, .slice B0 n0 q0] 47)) := hq9.alloc hq9.size _
         have rz := rdC_of (Rd.lit sSized w9 (n := 3) 47 [(5, B0, n0, q0), (7, B1, n1, q1), (5, B0, n0, q0)] #[.int .i64 5, .slice B0 n0 q0, .int .i64 7, .slice B1 n1 q1, .int .i64 5, .slice B0 n0 q0] rfl rfl (by omega)) (l := [(5, L0), (7, L1), (5, L0)]) rfl (fun k h1 h2 => by
           match k, h1, h2 with
           | 0, _, _ => exact ⟨rfl, i0.up (flat_lasts _) hqa⟩
           | 1, _, _ => exact ⟨rfl, i1.up (flat_lasts _) hqa⟩
           | 2, _, _ => exact ⟨rfl, i0.up (flat_lasts _) hqa⟩
           | k + 3, h1, _ => exact absurd h1 (by simp)))
      | (go_at_call 32; (with_reducible refine (check_any (some ⟨w9.heap.size, 0, none⟩) 3 3 [(5, L0), (7, L1), (5, L0)] 3 _ rz).mono ?_); rintro e w10 ⟨rfl, hb10⟩; rw [Hc2.out]
         have hq10 : Below w9.heap.size w9 w10 := ((Below.refl _ w9).alloc (Nat.le_refl _) _).trans (hb10.mono (by simp))
         have m0 : w10.cell? ⟨p, u, none⟩ = some (.int .i64 5) := (hq10.cell lg).trans l0
         have m1 : w10.cell? ⟨p, u + 1, none⟩ = some (.slice B0 n0 q0) := (hq10.cell lg).trans l1
         have m2 : w10.cell? ⟨p, u + 2, none⟩ = some (.int .i64 7) := (hq10.cell lg).trans l2
         have m3 : w10.cell? ⟨p, u + 2 + 1, none⟩ = some (.slice B1 n1 q1) := (hq10.cell lg).trans l3
         have mg : p < w10.heap.size := by have := hq10.size; omega
         have hq810 := hq9.trans (hq10.mono hq9.size))
      | (go_at_call 32; (with_reducible refine (check_any (some ⟨p, u, none⟩) 3 c2 [(5, L0), (7, L1), (9, L2)] 0 _ (r28.up cdE_lasts hq810)).mono ?_); rintro e w11 ⟨rfl, hb11⟩; rw [Hc3.out]))
  go_wp2
  go_ret
  exact ⟨rfl, hb08.trans ((hq810.trans (hb11.mono hq810.size)).mono hb08.size)⟩
end Go.Proofs.Ytfidjhhpcjmioaa
