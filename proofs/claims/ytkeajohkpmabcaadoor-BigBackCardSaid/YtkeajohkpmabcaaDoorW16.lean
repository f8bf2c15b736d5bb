
/- Walk over Of of package big. Conditions stand in the theorem. -/
import Derived.Test.YtkeajohkpmabcaaDoorW15
namespace Go.Proofs.YtkeajohkpmabcaaDoor
open Go.RowKit
set_option linter.unusedVariables false

/-- the digits so far, and what is left -/
def OfI (N : Nat) (l : List Int) (u : Nat) : Prop := digs N = l ++ digs u
theorem OfI.step {N : Nat} {l : List Int} {u : Nat} (h : OfI N l u) (hu : 0 < u) : OfI N (l ++ [((u % 1048576 : Nat) : Int)]) (u / 1048576) := by
  unfold OfI at *
  rw [h, digs_pos (by omega)]
  simp
theorem OfI.fin {N : Nat} {l : List Int} (h : OfI N l 0) : l = digs N := by
  unfold OfI at h
  rw [h, digs_zero, List.append_nil]
theorem OfI.len {N : Nat} {l : List Int} {u : Nat} (h : OfI N l u) (hN : N ≤ 18446744073709551616) : l.length ≤ 4 := by
  have h1 : (digs N).length ≤ 4 := digs_len.2 (by simp [pw]; omega)
  rw [h, List.length_append] at h1
  omega
theorem and_mask_u (n : Int) (h0 : 0 ≤ n) : bits .and .u64 n 1048575 = n % 1048576 := by
  have h127 : (BitVec.ofInt 64 1048575).toNat = 2 ^ 20 - 1 := by decide
  have key : (BitVec.ofInt 64 n &&& BitVec.ofInt 64 1048575).toNat = (n % ((2 ^ 64 : Nat) : Int)).toNat % 2 ^ 20 := by
    rw [BitVec.toNat_and, BitVec.toNat_ofInt, h127, Nat.and_two_pow_sub_one_eq_mod]
  show IntKind.u64.wrap ((BitVec.ofInt 64 n &&& BitVec.ofInt 64 1048575).toNat : Nat) = n % 1048576
  rw [key, IntKind.wrap_u64]
  omega
set_option maxRecDepth 100000 in
set_option maxHeartbeats 2000000 in
theorem bOf_any (n : Int) (w : World) (hn : -9223372036854775808 ≤ n ∧ n ≤ 9223372036854775807) :
    Calls Tryd.prog 19 #[.int .i64 n] w (BigR w n) := by
  obtain ⟨i0, hi0, hz0, hz1, hz2⟩ := info_parts int_info
  have hb0 := (Below.refl w.heap.size w).alloc (Nat.le_refl _) (.cells #[.int .i64 0, .slice none 0 0] 24)
  have c0 : (w.alloc (.cells #[.int .i64 0, .slice none 0 0] 24)).cell? ⟨w.heap.size, 0, none⟩ = some (.int .i64 0) := new_cell rfl rfl
  have c1 : (w.alloc (.cells #[.int .i64 0, .slice none 0 0] 24)).cell? ⟨w.heap.size, 1, none⟩ = some (.slice none 0 0) := new_cell rfl rfl
  have f0 : (w.alloc (.cells #[.int .i64 0, .slice none 0 0] 24)).frozen? ⟨w.heap.size, 0, none⟩ = false := new_thaw _ _ _
  have f1 : (w.alloc (.cells #[.int .i64 0, .slice none 0 0] 24)).frozen? ⟨w.heap.size, 1, none⟩ = false := new_thaw _ _ _
  have hsz : (w.alloc (.cells #[.int .i64 0, .slice none 0 0] 24)).heap.size = w.heap.size + 1 := by simp
  obtain ⟨w0, hw0⟩ : ∃ w0, w0 = w.alloc (.cells #[.int .i64 0, .slice none 0 0] 24) := ⟨_, rfl⟩
  rw [← hw0] at hb0 c0 c1 f0 f1 hsz
  obtain ⟨g, hg⟩ : ∃ g, g = w.heap.size := ⟨_, rfl⟩
  rw [← hg] at c0 c1 f0 f1 hsz
  have HW := Lib.hid hw0; have HG := Lib.hid hg; have HZ := Lib.hid hsz
  have HI0 : OfI n.natAbs [] n.natAbs := by unfold OfI; simp
  have HI0 := Lib.hid HI0
  have HN := Lib.hid (show n.natAbs ≤ 9223372036854775808 by omega)
  have HV := Lib.hid (show (if n < 0 then (-1 : Int) else 1) * val (digs n.natAbs) = n from by rw [digs_val]; split <;> omega)
  have Hlt : (n < 0 → IntKind.u64.wrap (IntKind.u64.wrap n) = n + 18446744073709551616) ∧ (¬ n < 0 → IntKind.u64.wrap n = (n.natAbs : Int)) := ⟨fun h => by rw [IntKind.wrap_u64, IntKind.wrap_u64]; omega, fun h => by rw [IntKind.wrap_u64]; omega⟩
  clear hw0 hg hsz
  by_cases hneg : n < 0
  · have hd : decide (n < 0) = true := decide_eq_true hneg
    have hw1 : IntKind.u64.wrap n = n + 18446744073709551616 := by rw [IntKind.wrap_u64]; omega
    have hw2 : IntKind.u64.wrap (-(n + 18446744073709551616)) = ((n.natAbs : Nat) : Int) := by rw [IntKind.wrap_u64]; omega
    rw [if_pos hneg] at HV
    clear hneg
    generalize n.natAbs = N at *
    go_enter Tryd.func19, Tryd.ntmps19
    go_wp2_with fail
    rw [← HW.out, ← HG.out]
    go_loopg [4, 5] N (fun gk uv lv wr => ∃ (l : List Int) (u : Nat), uv = .int .u64 u ∧ Own 1 iEnc wr w0.heap.size 3 lv l ∧ OfI N l u ∧ u ≤ N ∧ gk = u ∧ Below w0.heap.size w0 wr)
    case atStart => exact ⟨[], N, rfl, Own.nil, HI0.out, Nat.le_refl _, rfl, Below.refl _ _⟩
    case round =>
      obtain ⟨l, u, rfl, ho, hI, hu, rfl, hb⟩ := hrel
      have HI := Lib.hid hI
      have hl4 := hI.len (Nat.le_trans HN.out (by omega))
      clear hI
      rcases Nat.eq_zero_or_pos gk with h0 | h0
      · subst h0
        have hd2 : decide ((0 : Int) < ((0 : Nat) : Int)) = false := by simp
        have hl := HI.out.fin
        subst hl
        obtain ⟨A, cap, rfl, hr⟩ := ho.rd iSized (by omega)
        have hA := ho.fr rfl
        have HS := Lib.hid (signedD (-1) A _ cap _ n wr hr (digs_cn N) (by first | exact Or.inl rfl | exact Or.inr (Or.inl rfl)) HV.out)
        have hbw := hb0.trans (hb.mono hb0.size)
        have d0 := keep_cell hb c0
        have d1 := keep_cell hb c1
        have d2 := keep_fr hb (by rw [c0]; rfl) f0
        have d3 := keep_fr hb (by rw [c1]; rfl) f1
        clear hr ho hb c0 c1 f0 f1
        go_wp2_with fail
        refine HS.out.mono ?_
        rintro e w6 ⟨s3, A3, n3, c3, l3, rfl, hr3, hstd, hf3, hb6⟩
        have hA3 := hf3 _ hA
        have e0 := keep_cell hb6 d0
        have e1 := keep_cell hb6 d1
        have e2 := keep_fr hb6 (by rw [d0]; rfl) d2
        have e3 := keep_fr hb6 (by rw [d1]; rfl) d3
        have hb7 := ((hbw.trans (hb6.mono hbw.size)).setCell (p := ⟨g, 0, none⟩) (Nat.le_of_eq HG.out.symm) (.int .i64 s3)).setCell (p := ⟨g, 1, none⟩) (Nat.le_of_eq HG.out.symm) (.slice A3 n3 c3)
        have hr4 := Lib.hid (hr3.set2 (b := g) (u := .int .i64 s3) (v := .slice A3 n3 c3) (fun a h => by have := hA3 a h; have := HZ.out; omega))
        have hA4 := Lib.hid (hA3.mono (C := w.heap.size) (by have := HG.out; have := HZ.out; omega))
        obtain ⟨x1, x2⟩ := set2_cells (W := w6) (b := g) (u := .int .i64 s3) (v := .slice A3 n3 c3) (cellD_iff.2 (by rw [e0]; rfl)) (cellD_iff.2 (by rw [e1]; rfl))
        clear hA hA3 hf3 hr3 hb6 d0 d1 d2 d3 hbw HS
        go_wp2
        exact bodyPost_ret (v := .agg #[.int .i64 s3, .slice A3 n3 c3]) (by simp [results, Tryd.results19, go_sem, x1, x2]) rfl ⟨s3, A3, n3, c3, l3, rfl, hr4.out, hstd, hA4.out, hb7⟩
      · have hd2 : decide (0 < gk) = true := decide_eq_true h0
        have hmask := and_mask_u (gk : Int) (by omega)
        have HNx := Lib.hid (HI.out.step h0)
        have hsz := hb.size
        go_wp2_with (at_builtin
                     refine wpList_app1 iSized rfl _ _ 22 rfl w0.heap.size 3 i0 _ 8 Tryd.underlying22 hi0 hz0 hz1 hz2 rfl _ l rfl ho ((gk : Int) % 1048576) _ rfl wr.heap.size rfl rfl (by omega) (by omega) hsz ?_
                     intro v4 w4 ho4 hk4 hn4 hB4
                     have hb4 := hB4 _ _ (Nat.le_refl _) hb
                     rw [show ((gk : Int) % 1048576) = ((gk % 1048576 : Nat) : Int) from by omega] at ho4)
        go_roundg (gk / 1048576)
        case rel => exact ⟨_, gk / 1048576, by simp, ho4, HNx.out, by omega, rfl, hb4⟩
        case measure => omega
  · have hd : decide (n < 0) = false := decide_eq_false hneg
    have hw1 : IntKind.u64.wrap n = ((n.natAbs : Nat) : Int) := by rw [IntKind.wrap_u64]; omega
    rw [if_neg hneg] at HV
    clear hneg Hlt
    generalize n.natAbs = N at *
    go_enter Tryd.func19, Tryd.ntmps19
    go_wp2_with fail
    rw [← HW.out, ← HG.out]
    go_loopg [4, 5] N (fun gk uv lv wr => ∃ (l : List Int) (u : Nat), uv = .int .u64 u ∧ Own 1 iEnc wr w0.heap.size 3 lv l ∧ OfI N l u ∧ u ≤ N ∧ gk = u ∧ Below w0.heap.size w0 wr)
    case atStart => exact ⟨[], N, rfl, Own.nil, HI0.out, Nat.le_refl _, rfl, Below.refl _ _⟩
    case round =>
      obtain ⟨l, u, rfl, ho, hI, hu, rfl, hb⟩ := hrel
      have HI := Lib.hid hI
      have hl4 := hI.len (Nat.le_trans HN.out (by omega))
      clear hI
      rcases Nat.eq_zero_or_pos gk with h0 | h0
      · subst h0
        have hd2 : decide ((0 : Int) < ((0 : Nat) : Int)) = false := by simp
        have hl := HI.out.fin
        subst hl
        obtain ⟨A, cap, rfl, hr⟩ := ho.rd iSized (by omega)
        have hA := ho.fr rfl
        have HS := Lib.hid (signedD 1 A _ cap _ n wr hr (digs_cn N) (by first | exact Or.inl rfl | exact Or.inr (Or.inl rfl)) HV.out)
        have hbw := hb0.trans (hb.mono hb0.size)
        have d0 := keep_cell hb c0
        have d1 := keep_cell hb c1
        have d2 := keep_fr hb (by rw [c0]; rfl) f0
        have d3 := keep_fr hb (by rw [c1]; rfl) f1
        clear hr ho hb c0 c1 f0 f1
        go_wp2_with fail
        refine HS.out.mono ?_
        rintro e w6 ⟨s3, A3, n3, c3, l3, rfl, hr3, hstd, hf3, hb6⟩
        have hA3 := hf3 _ hA
        have e0 := keep_cell hb6 d0
        have e1 := keep_cell hb6 d1
        have e2 := keep_fr hb6 (by rw [d0]; rfl) d2
        have e3 := keep_fr hb6 (by rw [d1]; rfl) d3
        have hb7 := ((hbw.trans (hb6.mono hbw.size)).setCell (p := ⟨g, 0, none⟩) (Nat.le_of_eq HG.out.symm) (.int .i64 s3)).setCell (p := ⟨g, 1, none⟩) (Nat.le_of_eq HG.out.symm) (.slice A3 n3 c3)
        have hr4 := Lib.hid (hr3.set2 (b := g) (u := .int .i64 s3) (v := .slice A3 n3 c3) (fun a h => by have := hA3 a h; have := HZ.out; omega))
        have hA4 := Lib.hid (hA3.mono (C := w.heap.size) (by have := HG.out; have := HZ.out; omega))
        obtain ⟨x1, x2⟩ := set2_cells (W := w6) (b := g) (u := .int .i64 s3) (v := .slice A3 n3 c3) (cellD_iff.2 (by rw [e0]; rfl)) (cellD_iff.2 (by rw [e1]; rfl))
        clear hA hA3 hf3 hr3 hb6 d0 d1 d2 d3 hbw HS
        go_wp2
        exact bodyPost_ret (v := .agg #[.int .i64 s3, .slice A3 n3 c3]) (by simp [results, Tryd.results19, go_sem, x1, x2]) rfl ⟨s3, A3, n3, c3, l3, rfl, hr4.out, hstd, hA4.out, hb7⟩
      · have hd2 : decide (0 < gk) = true := decide_eq_true h0
        have hmask := and_mask_u (gk : Int) (by omega)
        have HNx := Lib.hid (HI.out.step h0)
        have hsz := hb.size
        go_wp2_with (at_builtin
                     refine wpList_app1 iSized rfl _ _ 22 rfl w0.heap.size 3 i0 _ 8 Tryd.underlying22 hi0 hz0 hz1 hz2 rfl _ l rfl ho ((gk : Int) % 1048576) _ rfl wr.heap.size rfl rfl (by omega) (by omega) hsz ?_
                     intro v4 w4 ho4 hk4 hn4 hB4
                     have hb4 := hB4 _ _ (Nat.le_refl _) hb
                     rw [show ((gk : Int) % 1048576) = ((gk % 1048576 : Nat) : Int) from by omega] at ho4)
        go_roundg (gk / 1048576)
        case rel => exact ⟨_, gk / 1048576, by simp, ho4, HNx.out, by omega, rfl, hb4⟩
        case measure => omega
end Go.Proofs.YtkeajohkpmabcaaDoor
