/- Walks over the statements of layer 7: small. No condition. -/
import Derived.Test.YtfidjhhpcjmioaaShl
namespace Go.Proofs.Ytfidjhhpcjmioaa
open Go.RowKit
set_option linter.unusedVariables false

theorem Own.app_nil {α : Type} {sz : Nat} {enc : α → List Value} {w : World} {base : Nat} {e : TypeId} {v : Value} {l : List α} (h : Own sz enc w base e v ([] ++ l)) : Own sz enc w base e v l := h

theorem Rd.lit {α : Type} {sz : Nat} {enc : α → List Value} (hs : Sized sz enc) (w : World) {n : Nat} (e : TypeId) (l : List α) (cs : Array Value) (hcs : cs = (l.flatMap enc).toArray) (hn : l.length = n) (hm : n ≤ 140737488351232) :
    Rd sz (flat enc) (w.alloc (.cells cs e)) (w.alloc (.cells cs e)).heap.size (some ⟨w.heap.size, 0, none⟩) n n l := by
  obtain ⟨A, c, h1, h2⟩ := (Own.lit (e := e) hs (Nat.le_refl w.heap.size) l cs hcs hn hm).rd hs (by rw [hn]; exact hm)
  injection h1 with h1 h3 h4
  subst h1 h4
  rw [hn] at h2
  exact h2

set_option maxRecDepth 100000 in
theorem small_any (w : World) : Calls Try.prog 12 #[] w fun e w' => e = .returned (.bool true) ∧ Below w.heap.size w w' := by
  obtain ⟨i0, hi0, hz0, hz1, hz2⟩ := info_parts share_info
  have la := Own.lit (w := w) (n := 2) (e := 39) pSized (Nat.le_refl _) [(1, 7), (2, 9)] #[.int .i64 1, .int .i64 7, .int .i64 2, .int .i64 9] rfl rfl (by omega)
  have lb : Below w.heap.size w (w.alloc (.cells #[.int .i64 1, .int .i64 7, .int .i64 2, .int .i64 9] 39)) := (Below.refl _ _).alloc (Nat.le_refl _) _
  obtain ⟨A, ca, hva, ra⟩ := la.rd pSized (by decide)
  injection hva with hA _ hc
  subst hA hc
  obtain ⟨w0, hw0⟩ : ∃ w0, w0 = (w.alloc (.cells #[.int .i64 1, .int .i64 7, .int .i64 2, .int .i64 9] 39)) := ⟨_, rfl⟩
  have hs0 : w0.heap.size = w.heap.size + 1 := by rw [hw0]; simp
  rw [← hw0] at la lb ra
  have Hw0 := Lib.hid hw0; have Hs0 := Lib.hid hs0
  clear hw0 hs0
  have hc2 : ([(1, 7), (2, 9)] : List (Int × Int)).length = 2 := rfl
  rw [hc2] at ra
  clear hc2
  go_enter Try.func12, Try.ntmps12
  go_wp2_with (first
    | (at_builtin; simp only [← Hw0.out, ← Hs0.out]; have h21 := Own.lit (w := w0) (n := 0) (e := 39) pSized (Nat.le_refl _) [] #[] rfl rfl (by omega); refine wpList_app _ pSized rfl (.tmp 21) (.tmp 22) 22 rfl w0.heap.size 39 i0 _ 16 Try.underlying22 hi0 hz0 hz1 hz2 rfl _ [] rfl h21 w0.heap.size _ 2 2 [(1, 7), (2, 9)] rfl (ra.below (flat_lasts _) ((Below.refl _ _).alloc (Nat.le_refl _) _) (Nat.le_refl _) (Nat.le_refl _)) (by decide) (by decide) (by simp) ?_
       intro v1 w1 ho1 hg1 hx1; clear hx1
       have hb1 : Below w0.heap.size w0 w1 := h21.grow (Nat.le_refl _) ((Below.refl _ _).alloc (Nat.le_refl _) _) (by simp) hg1
       have ho1' := Own.app_nil ho1
       clear ho1 hg1 h21)
    | (at_builtin; have r25 := Rd.new1 pSized w1 (3, 11) #[.int .i64 3, .int .i64 11] rfl 39; refine wpList_app _ pSized rfl (.tmp 23) (.tmp 25) 22 rfl w0.heap.size 39 i0 _ 16 Try.underlying22 hi0 hz0 hz1 hz2 rfl _ [(1, 7), (2, 9)] rfl (ho1'.alloc _) _ _ 1 1 [(3, 11)] rfl r25 (by decide) (by decide) (by have := hb1.size; simp; omega) ?_
       intro v2 w2 ho2 hg2 hx2; clear hx2
       have hb2 : Below w0.heap.size w0 w2 := Own.grow (ho1'.alloc _) (Nat.le_refl _) (hb1.alloc hb1.size _) (by have := hb1.size; simp; omega) hg2
       clear ho1' hg2 r25)
    | (at_builtin; have h27 := Own.lit (w := w2) (n := 0) (e := 39) pSized (Nat.le_refl _) [] #[] rfl rfl (by omega); refine wpList_app _ pSized rfl (.tmp 27) (.tmp 28) 22 rfl w2.heap.size 39 i0 _ 16 Try.underlying22 hi0 hz0 hz1 hz2 rfl _ [] rfl h27 w2.heap.size _ 2 2 [(1, 7), (2, 9)] rfl ((ra.up (flat_lasts _) hb2).below (flat_lasts _) ((Below.refl _ _).alloc (Nat.le_refl _) _) (Nat.le_refl _) (Nat.le_refl _)) (by decide) (by decide) (by simp) ?_
       intro v3 w3 ho3 hg3 hx3; clear hx3
       have hb3 : Below w2.heap.size w2 w3 := h27.grow (Nat.le_refl _) ((Below.refl _ _).alloc (Nat.le_refl _) _) (by simp) hg3
       have ho3' := Own.app_nil ho3
       clear ho3 hg3 h27)
    | (at_builtin; have r31 := Rd.new1 pSized w3 (3, 12) #[.int .i64 3, .int .i64 12] rfl 39; refine wpList_app _ pSized rfl (.tmp 29) (.tmp 31) 22 rfl w2.heap.size 39 i0 _ 16 Try.underlying22 hi0 hz0 hz1 hz2 rfl _ [(1, 7), (2, 9)] rfl (ho3'.alloc _) _ _ 1 1 [(3, 12)] rfl r31 (by decide) (by decide) (by have := hb3.size; simp; omega) ?_
       intro v4 w4 ho4 hg4 hx4; clear hx4
       have hb4 : Below w2.heap.size w2 w4 := Own.grow (ho3'.alloc _) (Nat.le_refl _) (hb3.alloc hb3.size _) (by have := hb3.size; simp; omega) hg4
       clear ho3' hg4 r31 hb3))
  obtain ⟨A2, c2, rfl, r2⟩ := ho2.rd pSized (by decide)
  obtain ⟨A4, c4, rfl, r4⟩ := ho4.rd pSized (by decide)
  have e2 : ([(1, 7), (2, 9)] ++ [(3, 11)] : List (Int × Int)).length = 3 := rfl
  have e4 : ([(1, 7), (2, 9)] ++ [(3, 12)] : List (Int × Int)).length = 3 := rfl
  rw [e2] at r2
  rw [e4] at r4
  clear e2 e4 ho2 ho4 hb1
  have hb04 : Below w0.heap.size w0 w4 := hb2.trans (hb4.mono hb2.size)
  refine (split_ok 5 9 1 3 w4 (by decide) (by omega) (by omega) (by omega) (by omega) (by omega) (by omega)).mono ?_
  rintro e w5 ⟨v5, rfl, ho5, hb5⟩
  have s6 := small6
  obtain ⟨A5, c5, rfl, r5⟩ := ho5.rd pSized (by decide)
  rw [splitL_len] at r5 ⊢
  rw [show splitL 5 ((1 : Nat) : Int) 9 3 = [(1, 5), (2, 5), (3, 5)] from small6] at r5
  clear ho5 s6
  have hb05 : Below w0.heap.size w0 w5 := hb04.trans (hb5.mono hb04.size)
  have hb25 : Below w2.heap.size w2 w5 := hb4.trans (hb5.mono hb4.size)
  clear hb4
  go_wp2_with fail
  refine (join_any _ 2 2 _ 2 _ (ra.up (flat_lasts _) hb05)).mono ?_
  rintro e w6 ⟨rfl, hb6⟩
  rw [small1]
  go_wp2_with fail
  refine (join_any _ 3 c2 _ 2 _ (r2.up (flat_lasts _) (hb25.trans (hb6.mono hb25.size)))).mono ?_
  rintro e w7 ⟨rfl, hb7⟩
  rw [small2]
  go_wp2_with fail
  have hb7' := hb6.trans (hb7.mono hb6.size)
  have hb27 := hb25.trans ((hb6.trans (hb7.mono hb6.size)).mono hb25.size)
  have hb07 := hb05.trans ((hb6.trans (hb7.mono hb6.size)).mono hb05.size)
  clear hb25 hb6 r2
  refine (join_any _ 3 c4 _ 2 _ (r4.up (flat_lasts _) (hb5.trans (hb7'.mono hb5.size)))).mono ?_
  rintro e w8 ⟨rfl, hb8⟩
  rw [small3]
  clear r4 hb27 hb7
  have hb08 := hb07.trans (hb8.mono hb07.size)
  go_wp2_with fail
  refine (join_any _ 1 2 _ 2 _ ((ra.take (k := 1) (by omega)).up (flat_lasts _) hb08)).mono ?_
  rintro e w9 ⟨rfl, hb9⟩
  rw [show ([(1, 7), (2, 9)] : List (Int × Int)).take 1 = [(1, 7)] from rfl, small4]
  have hb09 := hb08.trans (hb9.mono hb08.size)
  have hb79 := hb8.trans (hb9.mono hb8.size)
  clear hb9 hb8 hb07 hb08
  have hlt0 : w.heap.size < w0.heap.size := by rw [Hs0.out]; omega
  have hlt9 : w.heap.size < w9.heap.size := Nat.lt_of_lt_of_le hlt0 hb09.size
  have ca0 : w9.cell? ⟨w.heap.size, 0, none⟩ = some (.int .i64 1) := (hb09.cell hlt0).trans (World.ownsRow.cellAt la 0 (by decide))
  have ca1 : w9.cell? ⟨w.heap.size, 1, none⟩ = some (.int .i64 7) := (hb09.cell hlt0).trans (World.ownsRow.cellAt la 1 (by decide))
  go_wp2_with fail
  go_region_held3 (fun w' => w'.cell? ⟨w.heap.size, 0, none⟩ = some (.int .i64 1) ∧ w'.cell? ⟨w.heap.size, 1, none⟩ = some (.int .i64 7) ∧ Below w0.heap.size w0 w')
    (first
      | exact ⟨ca0, ca1, hb09.drew⟩
      | exact ⟨(World.cell?_alloc_lt _ _ _ hlt9).trans ca0, (World.cell?_alloc_lt _ _ _ hlt9).trans ca1, (hb09.alloc hb09.size _).drew⟩
      | exact ⟨(hb10.cell (by simp; omega)).trans ((World.cell?_alloc_lt _ _ _ hlt9).trans ca0), (hb10.cell (by simp; omega)).trans ((World.cell?_alloc_lt _ _ _ hlt9).trans ca1), hb010⟩)
    (first | (go_at_call 15; refine (join_any _ 2 2 [(1, 7), (1, 7)] 2 _ (Rd.drewN (flat_lasts _) (Rd.lit pSized w9 39 [(1, 7), (1, 7)] #[.int .i64 1, .int .i64 7, .int .i64 1, .int .i64 7] rfl rfl (by decide)) 1)).mono ?_; rintro e w10 ⟨rfl, hb10⟩; rw [small5]; have hb010 := (hb09.alloc hb09.size _).drew.trans (hb10.mono (by have := hb09.size; simp; omega))))
  clear ca0 ca1
  have r510 : RdP w10 w10.heap.size A5 3 c5 [(1, 5), (2, 5), (3, 5)] := r5.up (flat_lasts _) ((hb7'.trans (hb79.mono hb7'.size)).trans ((((Below.refl _ w9).alloc (Nat.le_refl _) _).drew.trans (hb10.mono (by simp))).mono (Nat.le_trans hb7'.size hb79.size)))
  go_wp2_with fail
  refine (same_any A5 _ 3 3 c5 3 [(1, 5), (2, 5), (3, 5)] [(1, 5), (2, 5), (3, 5)] _ (r510.below (flat_lasts _) ((Below.refl _ _).alloc (Nat.le_refl _) _) (Nat.le_refl _) (by simp)) (Rd.lit pSized w10 39 [(1, 5), (2, 5), (3, 5)] #[.int .i64 1, .int .i64 5, .int .i64 2, .int .i64 5, .int .i64 3, .int .i64 5] rfl rfl (by decide))).mono ?_
  rintro e w11 ⟨rfl, hb11⟩
  rw [decide_eq_true rfl]
  have hb011 := (hb010.alloc hb010.size _).trans (hb11.mono (by have := hb010.size; simp; omega))
  clear hb11 r510
  go_wp2_with fail
  refine (fits_any _ 1 2 _ 2 5 _ ((ra.take (k := 1) (by omega)).up (flat_lasts _) hb011) (by omega)).mono ?_
  rintro e w12 ⟨rfl, hb12⟩
  rw [show ([(1, 7), (2, 9)] : List (Int × Int)).take 1 = [(1, 7)] from rfl, small7]
  have hb012 := hb011.trans (hb12.mono hb011.size)
  go_wp2_with fail
  refine (fits_any _ 1 2 _ 2 6 _ ((ra.take (k := 1) (by omega)).up (flat_lasts _) hb012) (by omega)).mono ?_
  rintro e w13 ⟨rfl, hb13⟩
  rw [show ([(1, 7), (2, 9)] : List (Int × Int)).take 1 = [(1, 7)] from rfl, small8]
  have hb013 := hb012.trans (hb13.mono hb012.size)
  go_wp2_with fail
  refine (fits_any _ 2 2 _ 2 5 _ (ra.up (flat_lasts _) hb013) (by omega)).mono ?_
  rintro e w14 ⟨rfl, hb14⟩
  rw [small9]
  have hb014 := hb013.trans (hb14.mono hb013.size)
  go_wp2_with fail
  refine (fits_any _ 2 2 _ 2 6 _ (ra.up (flat_lasts _) hb014) (by omega)).mono ?_
  rintro e w15 ⟨rfl, hb15⟩
  rw [small10]
  have hb015 := hb014.trans (hb15.mono hb014.size)
  go_wp2_with fail
  go_ret
  exact ⟨rfl, lb.trans (hb015.mono lb.size)⟩
end Go.Proofs.Ytfidjhhpcjmioaa
