
/- Walk over Div of package big. Conditions stand in the theorem. -/
import Derived.Test.YtkeajohkpmabcaaDoorV2
namespace Go.Proofs.YtkeajohkpmabcaaDoor
open Go.RowKit
set_option linter.unusedVariables false

theorem raw3 {w W : World} {g : Nat} {u0 u1 u2 u3 : Value} : BxC w g [(0, 0, u0), (0, 1, u1), (1, 0, u2), (1, 1, u3)] [(2, 0), (2, 1), (3, 0), (3, 1)] W ↔ (Below w.heap.size w W ∧ ((W.cell? ⟨g, 0, none⟩ = some u0 ∧ W.cell? ⟨g, 1, none⟩ = some u1) ∧ W.cell? ⟨g + 1, 0, none⟩ = some u2 ∧ W.cell? ⟨g + 1, 1, none⟩ = some u3) ∧ ((W.cell? ⟨g + 2, 0, none⟩ = some (cellD W ⟨g + 2, 0, none⟩) ∧ W.cell? ⟨g + 2, 1, none⟩ = some (cellD W ⟨g + 2, 1, none⟩)) ∧ W.cell? ⟨g + 3, 0, none⟩ = some (cellD W ⟨g + 3, 0, none⟩) ∧ W.cell? ⟨g + 3, 1, none⟩ = some (cellD W ⟨g + 3, 1, none⟩)) ∧ (W.frozen? ⟨g + 2, 0, none⟩ = false ∧ W.frozen? ⟨g + 2, 1, none⟩ = false) ∧ W.frozen? ⟨g + 3, 0, none⟩ = false ∧ W.frozen? ⟨g + 3, 1, none⟩ = false) := by
  simp [BxC, and_assoc]
theorem box3 (w : World) (u0 u1 u2 u3 z0 z1 : Value) (t t' t'' t3 : TypeId) : BxC w w.heap.size [(0, 0, u0), (0, 1, u1), (1, 0, u2), (1, 1, u3)] [(2, 0), (2, 1), (3, 0), (3, 1)] ((((w.alloc (.cells #[u0, u1] t)).alloc (.cells #[u2, u3] t')).alloc (.cells #[z0, z1] t'')).alloc (.cells #[z0, z1] t3)) := by
  obtain ⟨h1, ⟨⟨h2, h3⟩, h4, h5⟩, ⟨h6, h7⟩, h8, h9⟩ := raw2.1 (box2 w u0 u1 u2 u3 z0 z1 t t' t'')
  have hs : (((w.alloc (.cells #[u0, u1] t)).alloc (.cells #[u2, u3] t')).alloc (.cells #[z0, z1] t'')).heap.size = w.heap.size + 3 := by simp
  generalize ((w.alloc (.cells #[u0, u1] t)).alloc (.cells #[u2, u3] t')).alloc (.cells #[z0, z1] t'') = W at *
  have k1 := (Below.refl W.heap.size W).alloc (Nat.le_refl _) (.cells #[z0, z1] t3)
  have k6 := cellD_iff.1 h6; have k7 := cellD_iff.1 h7
  rw [raw3]
  refine ⟨h1.alloc h1.size _, ⟨⟨keep_cell k1 h2, keep_cell k1 h3⟩, keep_cell k1 h4, keep_cell k1 h5⟩, ⟨⟨cellD_iff.2 (keep_some k1 k6), cellD_iff.2 (keep_some k1 k7)⟩, cellD_iff.2 (by rw [new_cell hs rfl]; rfl), cellD_iff.2 (by rw [new_cell hs rfl]; rfl)⟩, ⟨keep_fr k1 k6 h8, keep_fr k1 k7 h9⟩, by rw [← hs]; exact new_thaw _ _ _, by rw [← hs]; exact new_thaw _ _ _⟩
/-- four stores, two blocks -/
theorem set4_cells {W : World} {b c : Nat} {u v u' v' : Value} (hbc : b ≠ c) (h0 : W.cell? ⟨b, 0, none⟩ = some (cellD W ⟨b, 0, none⟩)) (h1 : W.cell? ⟨b, 1, none⟩ = some (cellD W ⟨b, 1, none⟩)) (h2 : W.cell? ⟨c, 0, none⟩ = some (cellD W ⟨c, 0, none⟩)) (h3 : W.cell? ⟨c, 1, none⟩ = some (cellD W ⟨c, 1, none⟩)) :
    let W' := (((W.setCell ⟨b, 0, none⟩ u).setCell ⟨b, 1, none⟩ v).setCell ⟨c, 0, none⟩ u').setCell ⟨c, 1, none⟩ v'
    (W'.cell? ⟨b, 0, none⟩ = some u ∧ W'.cell? ⟨b, 1, none⟩ = some v) ∧ W'.cell? ⟨c, 0, none⟩ = some u' ∧ W'.cell? ⟨c, 1, none⟩ = some v' := by
  intro W'
  obtain ⟨a0, a1⟩ := set2_cells (u := u) (v := v) h0 h1
  have far : ∀ j x, ((W.setCell ⟨b, 0, none⟩ u).setCell ⟨b, 1, none⟩ v).cell? ⟨b, j, none⟩ = some x → W'.cell? ⟨b, j, none⟩ = some x := fun j x h => by
    show (((((W.setCell ⟨b, 0, none⟩ u).setCell ⟨b, 1, none⟩ v)).setCell ⟨c, 0, none⟩ u').setCell ⟨c, 1, none⟩ v').cell? _ = _
    rw [World.cell?_setCell_far _ _ _ _ (fun e => hbc e.symm), World.cell?_setCell_far _ _ _ _ (fun e => hbc e.symm)]
    exact h
  refine ⟨⟨far _ _ a0, far _ _ a1⟩, set2_cells (cellD_iff.2 ?_) (cellD_iff.2 ?_)⟩
  · rw [World.cell?_setCell_far _ _ _ _ hbc, World.cell?_setCell_far _ _ _ _ hbc]; exact cellD_iff.1 h2
  · rw [World.cell?_setCell_far _ _ _ _ hbc, World.cell?_setCell_far _ _ _ _ hbc]; exact cellD_iff.1 h3
/-- what a call that returns two big integers and an error's number leaves -/
def BigE2 (w : World) (z z' c : Int) (e : Ending) (w' : World) : Prop := ∃ s A n cap l s' A' n' cap' l', e = .returned (.tuple #[.agg #[.int .i64 s, .slice A n cap], .agg #[.int .i64 s', .slice A' n' cap'], .int .i64 c]) ∧ (RdI w' w'.heap.size A n cap l ∧ Std s l z ∧ FrA w.heap.size A) ∧ (RdI w' w'.heap.size A' n' cap' l' ∧ Std s' l' z' ∧ FrA w.heap.size A') ∧ Below w.heap.size w w'
/-- the end of such a call: both results are stored -/
theorem BigE2.mk {w W : World} {g : Nat} {L : List (Nat × Nat × Value)} {R : List (Nat × Nat)} {s s' z z' c : Int} {A A' : Option Addr} {n cap n' cap' : Nat} {l l' : List Int} (hg : w.heap.size ≤ g) (h : BxC w g L R W) (hL : ∀ p ∈ L, p.1 < 2)
    (r1 : RdI W W.heap.size A n cap l) (r2 : RdI W W.heap.size A' n' cap' l') (s1 : Std s l z) (s2 : Std s' l' z') (f1 : FrA (g + 4) A) (f2 : FrA (g + 4) A') :
    BigE2 w z z' c (.returned (.tuple #[.agg #[.int .i64 s, .slice A n cap], .agg #[.int .i64 s', .slice A' n' cap'], .int .i64 c])) ((((W.setCell ⟨g + 2, 0, none⟩ (.int .i64 s)).setCell ⟨g + 2, 1, none⟩ (.slice A n cap)).setCell ⟨g + 3, 0, none⟩ (.int .i64 s')).setCell ⟨g + 3, 1, none⟩ (.slice A' n' cap')) := by
  have h2 := (h.set2 hg (b := g + 2) (u := .int .i64 s) (v := .slice A n cap) (by omega) (fun p hp e => by have := hL p hp; omega)).set2 hg (b := g + 3) (u := .int .i64 s') (v := .slice A' n' cap') (by omega) (fun p hp e => by have := hL p hp; omega)
  exact ⟨s, A, n, cap, l, s', A', n', cap', l', rfl, ⟨(r1.set2 (fun a h => by have := f1 a h; omega)).set2 (fun a h => by have := f1 a h; omega), s1, f1.mono (by omega)⟩, ⟨(r2.set2 (fun a h => by have := f2 a h; omega)).set2 (fun a h => by have := f2 a h; omega), s2, f2.mono (by omega)⟩, h2.1⟩
/-- the cells, and two lists of digits that the call has made -/
def D3 (w : World) (g : Nat) (L : List (Nat × Nat × Value)) (R : List (Nat × Nat)) (A A' : Option Addr) (n cap n' cap' : Nat) (l l' : List Int) (W : World) : Prop := BxC w g L R W ∧ RdI W W.heap.size A n cap l ∧ RdI W W.heap.size A' n' cap' l'
section
variable {w W W' : World} {g : Nat} {L : List (Nat × Nat × Value)} {R : List (Nat × Nat)} {A A' : Option Addr} {n cap n' cap' : Nat} {l l' : List Int}
theorem D3.keep (h : D3 w g L R A A' n cap n' cap' l l' W) (hb : Below W.heap.size W W') : D3 w g L R A A' n cap n' cap' l l' W' := ⟨h.1.keep hb, h.2.1.up (flat_lasts _) hb, h.2.2.up (flat_lasts _) hb⟩
theorem D3.drew (h : D3 w g L R A A' n cap n' cap' l l' W) : D3 w g L R A A' n cap n' cap' l l' W.drew := ⟨h.1.drew, h.2.1, h.2.2⟩
theorem D3.set2 (hg : w.heap.size ≤ g) (h : D3 w g L R A A' n cap n' cap' l l' W) {b : Nat} {u v : Value} (hb : g ≤ b) (hL : ∀ p ∈ L, g + p.1 ≠ b) (f1 : FrA (b + 1) A) (f2 : FrA (b + 1) A') : D3 w g L R A A' n cap n' cap' l l' ((W.setCell ⟨b, 0, none⟩ u).setCell ⟨b, 1, none⟩ v) :=
  ⟨h.1.set2 hg hb hL, h.2.1.set2 (fun a e => by have := f1 a e; omega), h.2.2.set2 (fun a e => by have := f2 a e; omega)⟩
end
theorem raw4 {w W : World} {g : Nat} {u0 u1 u2 u3 : Value} {A A' : Option Addr} {n cap n' cap' : Nat} {l l' : List Int} : D3 w g [(0, 0, u0), (0, 1, u1), (1, 0, u2), (1, 1, u3)] [(2, 0), (2, 1), (3, 0), (3, 1)] A A' n cap n' cap' l l' W ↔ ((Below w.heap.size w W ∧ ((W.cell? ⟨g, 0, none⟩ = some u0 ∧ W.cell? ⟨g, 1, none⟩ = some u1) ∧ W.cell? ⟨g + 1, 0, none⟩ = some u2 ∧ W.cell? ⟨g + 1, 1, none⟩ = some u3) ∧ ((W.cell? ⟨g + 2, 0, none⟩ = some (cellD W ⟨g + 2, 0, none⟩) ∧ W.cell? ⟨g + 2, 1, none⟩ = some (cellD W ⟨g + 2, 1, none⟩)) ∧ W.cell? ⟨g + 3, 0, none⟩ = some (cellD W ⟨g + 3, 0, none⟩) ∧ W.cell? ⟨g + 3, 1, none⟩ = some (cellD W ⟨g + 3, 1, none⟩)) ∧ (W.frozen? ⟨g + 2, 0, none⟩ = false ∧ W.frozen? ⟨g + 2, 1, none⟩ = false) ∧ W.frozen? ⟨g + 3, 0, none⟩ = false ∧ W.frozen? ⟨g + 3, 1, none⟩ = false) ∧ RdI W W.heap.size A n cap l ∧ RdI W W.heap.size A' n' cap' l') := by
  unfold D3; rw [raw3]
set_option maxRecDepth 100000 in
set_option maxHeartbeats 4000000 in
theorem bDiv_any (s t : Int) (A A2 : Option Addr) (n cap n2 cap2 : Nat) (a b : List Int) (w : World) (ha : RdI w w.heap.size A n cap a) (hb : RdI w w.heap.size A2 n2 cap2 b) :
    Calls Tryd.prog 15 #[.agg #[.int .i64 s, .slice A n cap], .agg #[.int .i64 t, .slice A2 n2 cap2]] w (if (rightB s a && rightB t b) = false then BigE2 w 0 0 1 else if t = 0 then BigE2 w 0 0 15 else BigE2 w (fq (bval s a) (bval t b)) (fr (bval s a) (bval t b)) 0) := by
  have hcap := ha.caps
  have hcap2 := hb.caps
  have K0 := box3 w (.int .i64 s) (.slice A n cap) (.int .i64 t) (.slice A2 n2 cap2) (.int .i64 0) (.slice none 0 0) 24 24 24 24
  have HR1 := Lib.hid (fun W (h : Below w.heap.size w W) => bright_any s A n cap a W (ha.up (flat_lasts _) h))
  have HR2 := Lib.hid (fun W (h : Below w.heap.size w W) => bright_any t A2 n2 cap2 b W (hb.up (flat_lasts _) h))
  obtain ⟨w0, hw0⟩ : ∃ w0, w0 = (((w.alloc (.cells #[.int .i64 s, .slice A n cap] 24)).alloc (.cells #[.int .i64 t, .slice A2 n2 cap2] 24)).alloc (.cells #[.int .i64 0, .slice none 0 0] 24)).alloc (.cells #[.int .i64 0, .slice none 0 0] 24) := ⟨_, rfl⟩
  rw [← hw0] at K0
  obtain ⟨g, hg⟩ : ∃ g, g = w.heap.size := ⟨_, rfl⟩
  rw [← hg] at K0
  have HW := Lib.hid hw0; have HG := Lib.hid hg
  clear hw0 hg
  obtain ⟨hb0, ⟨⟨c0, c1⟩, c2, c3⟩, ⟨⟨c4, c5⟩, c6, c7⟩, ⟨c8, c9⟩, c10, c11⟩ := raw3.1 K0
  cases h1 : rightB s a
  · rw [h1] at HR1
    rw [Bool.false_and, if_pos rfl]
    clear h1
    go_enter Tryd.func15, Tryd.ntmps15
    go_wp2_with fail
    rw [← HW.out, ← HG.out]
    refine (HR1.out _ hb0).mono ?_
    rintro e w1 ⟨rfl, hb1⟩
    have K1 := K0.keep hb1
    clear hb1 hb0 c0 c1 c2 c3 c4 c5 c6 c7 c8 c9 c10 c11 K0
    obtain ⟨hb0, ⟨⟨c0, c1⟩, c2, c3⟩, ⟨⟨c4, c5⟩, c6, c7⟩, ⟨c8, c9⟩, c10, c11⟩ := raw3.1 K1
    obtain ⟨⟨e1, e2⟩, e3, e4⟩ := set4_cells (u := .int .i64 0) (v := .slice none 0 0) (u' := .int .i64 0) (v' := .slice none 0 0) (show g + 2 ≠ g + 3 by omega) c4 c5 c6 c7
    have HE := Lib.hid (BigE2.mk (c := 1) (Nat.le_of_eq HG.out.symm) K1 (by simp) Rd.nil Rd.nil Std.zero Std.zero FrA.none FrA.none)
    clear K1
    go_wp2
    exact bodyPost_ret (v := .tuple #[.agg #[.int .i64 0, .slice none 0 0], .agg #[.int .i64 0, .slice none 0 0], .int .i64 1]) (by simp [results, Tryd.results15, go_sem, e1, e2, e3, e4]) rfl HE.out
  cases h2 : rightB t b
  · rw [h1] at HR1
    rw [h2] at HR2
    rw [Bool.true_and, if_pos rfl]
    clear h1 h2
    go_enter Tryd.func15, Tryd.ntmps15
    go_wp2_with fail
    rw [← HW.out, ← HG.out]
    refine (HR1.out _ hb0).mono ?_
    rintro e w1 ⟨rfl, hb1⟩
    have K1 := K0.keep hb1
    clear hb1 hb0 c0 c1 c2 c3 c4 c5 c6 c7 c8 c9 c10 c11 K0
    obtain ⟨hb0, ⟨⟨c0, c1⟩, c2, c3⟩, ⟨⟨c4, c5⟩, c6, c7⟩, ⟨c8, c9⟩, c10, c11⟩ := raw3.1 K1
    go_wp2_with fail
    refine (HR2.out _ hb0).mono ?_
    rintro e w2 ⟨rfl, hb1⟩
    have K2 := K1.keep hb1
    clear hb1 hb0 c0 c1 c2 c3 c4 c5 c6 c7 c8 c9 c10 c11 K1
    obtain ⟨hb0, ⟨⟨c0, c1⟩, c2, c3⟩, ⟨⟨c4, c5⟩, c6, c7⟩, ⟨c8, c9⟩, c10, c11⟩ := raw3.1 K2
    obtain ⟨⟨e1, e2⟩, e3, e4⟩ := set4_cells (u := .int .i64 0) (v := .slice none 0 0) (u' := .int .i64 0) (v' := .slice none 0 0) (show g + 2 ≠ g + 3 by omega) c4 c5 c6 c7
    have HE := Lib.hid (BigE2.mk (c := 1) (Nat.le_of_eq HG.out.symm) K2 (by simp) Rd.nil Rd.nil Std.zero Std.zero FrA.none FrA.none)
    clear K2
    go_wp2
    exact bodyPost_ret (v := .tuple #[.agg #[.int .i64 0, .slice none 0 0], .agg #[.int .i64 0, .slice none 0 0], .int .i64 1]) (by simp [results, Tryd.results15, go_sem, e1, e2, e3, e4]) rfl HE.out
  rw [h1] at HR1
  rw [h2] at HR2
  rw [Bool.true_and, if_neg (by simp)]
  by_cases ht : t = 0
  · have hd : (t == 0) = true := by simp [ht]
    rw [if_pos ht]
    clear h1 h2 ht
    go_enter Tryd.func15, Tryd.ntmps15
    go_wp2_with fail
    rw [← HW.out, ← HG.out]
    refine (HR1.out _ hb0).mono ?_
    rintro e w1 ⟨rfl, hb1⟩
    have K1 := K0.keep hb1
    clear hb1 hb0 c0 c1 c2 c3 c4 c5 c6 c7 c8 c9 c10 c11 K0
    obtain ⟨hb0, ⟨⟨c0, c1⟩, c2, c3⟩, ⟨⟨c4, c5⟩, c6, c7⟩, ⟨c8, c9⟩, c10, c11⟩ := raw3.1 K1
    go_wp2_with fail
    refine (HR2.out _ hb0).mono ?_
    rintro e w2 ⟨rfl, hb1⟩
    have K2 := K1.keep hb1
    clear hb1 hb0 c0 c1 c2 c3 c4 c5 c6 c7 c8 c9 c10 c11 K1
    obtain ⟨hb0, ⟨⟨c0, c1⟩, c2, c3⟩, ⟨⟨c4, c5⟩, c6, c7⟩, ⟨c8, c9⟩, c10, c11⟩ := raw3.1 K2
    obtain ⟨⟨e1, e2⟩, e3, e4⟩ := set4_cells (u := .int .i64 0) (v := .slice none 0 0) (u' := .int .i64 0) (v' := .slice none 0 0) (show g + 2 ≠ g + 3 by omega) c4 c5 c6 c7
    have HE := Lib.hid (BigE2.mk (c := 15) (Nat.le_of_eq HG.out.symm) K2 (by simp) Rd.nil Rd.nil Std.zero Std.zero FrA.none FrA.none)
    clear K2
    go_wp2
    exact bodyPost_ret (v := .tuple #[.agg #[.int .i64 0, .slice none 0 0], .agg #[.int .i64 0, .slice none 0 0], .int .i64 15]) (by simp [results, Tryd.results15, go_sem, e1, e2, e3, e4]) rfl HE.out
  have hd : (t == 0) = false := by simp [ht]
  rw [if_neg ht]
  obtain ⟨c1', l1, -⟩ := rightB_cn h1
  obtain ⟨c2', l2, e2'⟩ := rightB_cn h2
  have hst := sgn_mul s t (right_sg h1) (right_sg h2)
  have hbne : b ≠ [] := by
    rcases e2' with ⟨-, h⟩ | ⟨h, -⟩
    · exact absurd h ht
    · exact h
  rw [ha.len] at l1
  rw [hb.len] at l2
  have hn21 : 1 ≤ n2 := by
    have := List.length_pos_iff.2 hbne
    rw [hb.len] at this
    exact this
  have hb1 := c2'.pos hbne
  have ha1 := val_nonneg c1'.1
  obtain ⟨Dq, hDq⟩ : ∃ D, D = digs (val a / val b).toNat := ⟨_, rfl⟩
  obtain ⟨Dr, hDr⟩ : ∃ D, D = digs (val a % val b).toNat := ⟨_, rfl⟩
  have cDq : Cn Dq := by rw [hDq]; exact digs_cn _
  have cDr : Cn Dr := by rw [hDr]; exact digs_cn _
  have vq0 := Int.ediv_nonneg ha1 (Int.le_of_lt hb1)
  have vr0 := Int.emod_nonneg (val a) (b := val b) (by omega)
  have vr1 := Int.emod_lt_of_pos (val a) hb1
  have vDq : val Dq = val a / val b := by rw [hDq, digs_val]; omega
  have vDr : val Dr = val a % val b := by rw [hDr, digs_val]; omega
  have lq : Dq.length ≤ 60 := by
    rw [hDq]
    refine digs_small ?_
    have h3 := val_lt c1'.1
    rw [ha.len] at h3
    have h4 := pw_le l1
    have h5 := Int.ediv_le_self (val b) ha1
    omega
  have lr : Dr.length ≤ b.length := by
    rw [hDr]
    refine digs_small ?_
    have h3 := val_lt c2'.1
    omega
  rw [hb.len] at lr
  have HD := Lib.hid (fun W (h : BxC w g [(0, 0, .int .i64 s), (0, 1, .slice A n cap), (1, 0, .int .i64 t), (1, 1, .slice A2 n2 cap2)] [(2, 0), (2, 1), (3, 0), (3, 1)] W) => (bdiv_any A A2 n cap n2 cap2 a b W (ha.up (flat_lasts _) h.1) (hb.up (flat_lasts _) h.1) c1' c2' (by omega) (by omega) hn21).mono fun e W' ⟨Aq, nq, cq, Ar, nr, cr, he, r1, r2, ⟨f1, f2⟩, hb⟩ => (⟨Aq, nq, cq, Ar, nr, cr, he, ⟨h.keep hb, hDq ▸ r1, hDr ▸ r2⟩, f1.mono (h.lt (m := 3) (j := 0) (by simp)), f2.mono (h.lt (m := 3) (j := 0) (by simp))⟩ : ∃ Aq nq cq Ar nr cr, e = Ending.returned (.tuple #[.slice Aq nq cq, .slice Ar nr cr]) ∧ D3 w g [(0, 0, .int .i64 s), (0, 1, .slice A n cap), (1, 0, .int .i64 t), (1, 1, .slice A2 n2 cap2)] [(2, 0), (2, 1), (3, 0), (3, 1)] Aq Ar nq cq nr cr Dq Dr W' ∧ FrA (g + 4) Aq ∧ FrA (g + 4) Ar))
  have ms : (s * t = 1 ∨ s * t = -1 ∨ Dq = []) ∧ (s = 1 ∨ s = -1 ∨ Dr = []) := by
    rcases (rightB_cn h1).2.2 with ⟨h, -⟩ | ⟨-, h⟩
    · subst h
      exact ⟨Or.inr (Or.inr (by rw [hDq]; simp [val, digs_zero])), Or.inr (Or.inr (by rw [hDr]; simp [val, digs_zero]))⟩
    · rcases e2' with ⟨-, h'⟩ | ⟨-, h'⟩
      · exact absurd h' ht
      · refine ⟨?_, ?_⟩
        · rcases sign_mul h h' with h | h
          · exact Or.inl h
          · exact Or.inr (Or.inl h)
        · rcases h with h | h
          · exact Or.inl h
          · exact Or.inr (Or.inl h)
  by_cases hcs : s * t < 0 ∧ val a % val b ≠ 0
  case neg =>
    have hc' : ¬ s * t < 0 ∨ val a % val b = 0 := by omega
    obtain ⟨q1, q2⟩ := div_same h1 h2 ht hc'
    have z1 : s * t * val Dq = fq (bval s a) (bval t b) := by rw [vDq, q1]
    have z2 : s * val Dr = fr (bval s a) (bval t b) := by rw [vDr, q2]
    have HS1 := Lib.hid (fun Aq Ar nq cq nr cr W (h : D3 w g [(0, 0, .int .i64 s), (0, 1, .slice A n cap), (1, 0, .int .i64 t), (1, 1, .slice A2 n2 cap2)] [(2, 0), (2, 1), (3, 0), (3, 1)] Aq Ar nq cq nr cr Dq Dr W) => (signedD (s * t) Aq nq cq _ _ W h.2.1 cDq ms.1 z1).mono fun e W' ⟨s', A', n', c', l', he, hr, hs, hf, hb⟩ => (⟨s', A', n', c', l', he, hr, hs, hf, h.keep hb, hb⟩ : ∃ s' A' n' c' l', e = Ending.returned (.agg #[.int .i64 s', .slice A' n' c']) ∧ RdI W' W'.heap.size A' n' c' l' ∧ Std s' l' (fq (bval s a) (bval t b)) ∧ (∀ B, FrA B Aq → FrA B A') ∧ D3 w g [(0, 0, .int .i64 s), (0, 1, .slice A n cap), (1, 0, .int .i64 t), (1, 1, .slice A2 n2 cap2)] [(2, 0), (2, 1), (3, 0), (3, 1)] Aq Ar nq cq nr cr Dq Dr W' ∧ Below W.heap.size W W'))
    have HS2 := Lib.hid (fun Aq Ar nq cq nr cr W (h : D3 w g [(0, 0, .int .i64 s), (0, 1, .slice A n cap), (1, 0, .int .i64 t), (1, 1, .slice A2 n2 cap2)] [(2, 0), (2, 1), (3, 0), (3, 1)] Aq Ar nq cq nr cr Dq Dr W) => (signedD s Ar nr cr _ _ W h.2.2 cDr ms.2 z2).mono fun e W' ⟨s', A', n', c', l', he, hr, hs, hf, hb⟩ => (⟨s', A', n', c', l', he, hr, hs, hf, h.keep hb, hb⟩ : ∃ s' A' n' c' l', e = Ending.returned (.agg #[.int .i64 s', .slice A' n' c']) ∧ RdI W' W'.heap.size A' n' c' l' ∧ Std s' l' (fr (bval s a) (bval t b)) ∧ (∀ B, FrA B Ar → FrA B A') ∧ D3 w g [(0, 0, .int .i64 s), (0, 1, .slice A n cap), (1, 0, .int .i64 t), (1, 1, .slice A2 n2 cap2)] [(2, 0), (2, 1), (3, 0), (3, 1)] Aq Ar nq cq nr cr Dq Dr W' ∧ Below W.heap.size W W'))
    have hcond : decide (s * t < 0) = false ∨ (decide (s * t < 0) = true ∧ Dr = []) := by
      rcases hc' with h | h
      · exact Or.inl (decide_eq_false h)
      · by_cases h' : s * t < 0
        · exact Or.inr ⟨decide_eq_true h', by rw [hDr, h]; exact digs_zero⟩
        · exact Or.inl (decide_eq_false h')
    clear z1 z2 q1 q2 hc' hcs ms lq lr vDq vDr vq0 vr0 vr1 cDq cDr hDq hDr hb1 ha1 hn21 hbne e2' l1 l2 c1' c2' h1 h2 ht
    generalize fq (bval s a) (bval t b) = Zq at *
    generalize fr (bval s a) (bval t b) = Zr at *
    rcases hcond with hd1 | ⟨hd1, hd2⟩
    · go_enter Tryd.func15, Tryd.ntmps15
      go_wp2_with fail
      rw [← HW.out, ← HG.out]
      refine (HR1.out _ hb0).mono ?_
      rintro e w1 ⟨rfl, hb1⟩
      have K1 := K0.keep hb1
      clear hb1 hb0 c0 c1 c2 c3 c4 c5 c6 c7 c8 c9 c10 c11 K0
      obtain ⟨hb0, ⟨⟨c0, c1⟩, c2, c3⟩, ⟨⟨c4, c5⟩, c6, c7⟩, ⟨c8, c9⟩, c10, c11⟩ := raw3.1 K1
      go_wp2_with fail
      refine (HR2.out _ hb0).mono ?_
      rintro e w2 ⟨rfl, hb1⟩
      have K2 := K1.keep hb1
      clear hb1 hb0 c0 c1 c2 c3 c4 c5 c6 c7 c8 c9 c10 c11 K1
      obtain ⟨hb0, ⟨⟨c0, c1⟩, c2, c3⟩, ⟨⟨c4, c5⟩, c6, c7⟩, ⟨c8, c9⟩, c10, c11⟩ := raw3.1 K2
      go_wp2_with fail
      refine (HD.out _ K2).mono ?_
      rintro e w5 ⟨Aq, nq, cq, Ar, nr, cr, rfl, K3, fq', fr'⟩
      clear hb0 c0 c1 c2 c3 c4 c5 c6 c7 c8 c9 c10 c11 K2
      obtain ⟨⟨hb0, ⟨⟨c0, c1⟩, c2, c3⟩, ⟨⟨c4, c5⟩, c6, c7⟩, ⟨c8, c9⟩, c10, c11⟩, -, -⟩ := raw4.1 K3
      go_wp2_with fail
      clear hb0 c0 c1 c2 c3 c4 c5 c6 c7 c8 c9 c10 c11
      have HF2 := Lib.hid (fq'.mono (show g + 2 + 1 ≤ g + 4 by omega))
      have HF2' := Lib.hid (fr'.mono (show g + 2 + 1 ≤ g + 4 by omega))
      have HF3 := Lib.hid (fq'.mono (show g + 3 + 1 ≤ g + 4 by omega))
      have HF3' := Lib.hid (fr'.mono (show g + 3 + 1 ≤ g + 4 by omega))
      go_region_held3 (fun W => (Below w.heap.size w W ∧ ((W.cell? ⟨g, 0, none⟩ = some (.int .i64 s) ∧ W.cell? ⟨g, 1, none⟩ = some (.slice A n cap)) ∧ W.cell? ⟨g + 1, 0, none⟩ = some (.int .i64 t) ∧ W.cell? ⟨g + 1, 1, none⟩ = some (.slice A2 n2 cap2)) ∧ ((W.cell? ⟨g + 2, 0, none⟩ = some (cellD W ⟨g + 2, 0, none⟩) ∧ W.cell? ⟨g + 2, 1, none⟩ = some (cellD W ⟨g + 2, 1, none⟩)) ∧ W.cell? ⟨g + 3, 0, none⟩ = some (cellD W ⟨g + 3, 0, none⟩) ∧ W.cell? ⟨g + 3, 1, none⟩ = some (cellD W ⟨g + 3, 1, none⟩)) ∧ (W.frozen? ⟨g + 2, 0, none⟩ = false ∧ W.frozen? ⟨g + 2, 1, none⟩ = false) ∧ W.frozen? ⟨g + 3, 0, none⟩ = false ∧ W.frozen? ⟨g + 3, 1, none⟩ = false) ∧ RdI W W.heap.size Aq nq cq Dq ∧ RdI W W.heap.size Ar nr cr Dr)
        ((refine raw4.1 ?_; first | assumption | exact K3.drew | exact D3.set2 (Nat.le_of_eq HG.out.symm) (by assumption) (b := g + 2) (by omega) (by simp <;> omega) HF2.out HF2'.out | exact D3.set2 (Nat.le_of_eq HG.out.symm) (raw4.2 (by assumption)) (b := g + 3) (by omega) (by simp <;> omega) HF3.out HF3'.out | exact (raw4.2 (by assumption)).keep ((Below.refl _ _).alloc (Nat.le_refl _) _)))
        (first
          | (go_at_call 29; with_reducible refine (HS1.out _ _ _ _ _ _ _ (raw4.2 (by assumption))).mono ?_; rintro e w3 ⟨s6, A6, n6, c6, l6, rfl, hr6, hstd6, hf6, k6, b6⟩)
            | (go_at_call 29; with_reducible refine (HS2.out _ _ _ _ _ _ _ (raw4.2 (by assumption))).mono ?_; rintro e w4 ⟨s7, A7, n7, c7, l7, rfl, hr7, hstd7, hf7, k7, b7⟩))
      have h67 := hr6.up (flat_lasts _) b7
      have hA6 := hf6 _ fq'
      have hA7 := hf7 _ fr'
      clear hr6 hf6 hf7 k6 b6 b7 K3 fq' fr'
      obtain ⟨⟨-, -, ⟨⟨x4, x5⟩, x6, x7⟩, -⟩, -, -⟩ := raw4.1 k7
      obtain ⟨⟨e1, e2⟩, e3, e4⟩ := set4_cells (u := .int .i64 s6) (v := .slice A6 n6 c6) (u' := .int .i64 s7) (v' := .slice A7 n7 c7) (show g + 2 ≠ g + 3 by omega) x4 x5 x6 x7
      have HE := Lib.hid (BigE2.mk (c := 0) (Nat.le_of_eq HG.out.symm) k7.1 (by simp) h67 hr7 hstd6 hstd7 hA6 hA7)
      clear k7 h67 hr7 hstd6 hstd7 hA6 hA7 x4 x5 x6 x7
      go_wp2
      exact bodyPost_ret (v := .tuple #[.agg #[.int .i64 s6, .slice A6 n6 c6], .agg #[.int .i64 s7, .slice A7 n7 c7], .int .i64 0]) (by simp [results, Tryd.results15, go_sem, e1, e2, e3, e4]) rfl HE.out
    · go_enter Tryd.func15, Tryd.ntmps15
      go_wp2_with fail
      rw [← HW.out, ← HG.out]
      refine (HR1.out _ hb0).mono ?_
      rintro e w1 ⟨rfl, hb1⟩
      have K1 := K0.keep hb1
      clear hb1 hb0 c0 c1 c2 c3 c4 c5 c6 c7 c8 c9 c10 c11 K0
      obtain ⟨hb0, ⟨⟨c0, c1⟩, c2, c3⟩, ⟨⟨c4, c5⟩, c6, c7⟩, ⟨c8, c9⟩, c10, c11⟩ := raw3.1 K1
      go_wp2_with fail
      refine (HR2.out _ hb0).mono ?_
      rintro e w2 ⟨rfl, hb1⟩
      have K2 := K1.keep hb1
      clear hb1 hb0 c0 c1 c2 c3 c4 c5 c6 c7 c8 c9 c10 c11 K1
      obtain ⟨hb0, ⟨⟨c0, c1⟩, c2, c3⟩, ⟨⟨c4, c5⟩, c6, c7⟩, ⟨c8, c9⟩, c10, c11⟩ := raw3.1 K2
      go_wp2_with fail
      refine (HD.out _ K2).mono ?_
      rintro e w5 ⟨Aq, nq, cq, Ar, nr, cr, rfl, K3, fq', fr'⟩
      clear hb0 c0 c1 c2 c3 c4 c5 c6 c7 c8 c9 c10 c11 K2
      have hd2 : decide (0 < nr) = false := by have hnr := K3.2.2.len; rw [← hnr, hd2]; rfl
      obtain ⟨⟨hb0, ⟨⟨c0, c1⟩, c2, c3⟩, ⟨⟨c4, c5⟩, c6, c7⟩, ⟨c8, c9⟩, c10, c11⟩, -, -⟩ := raw4.1 K3
      go_wp2_with fail
      clear hb0 c0 c1 c2 c3 c4 c5 c6 c7 c8 c9 c10 c11
      have HF2 := Lib.hid (fq'.mono (show g + 2 + 1 ≤ g + 4 by omega))
      have HF2' := Lib.hid (fr'.mono (show g + 2 + 1 ≤ g + 4 by omega))
      have HF3 := Lib.hid (fq'.mono (show g + 3 + 1 ≤ g + 4 by omega))
      have HF3' := Lib.hid (fr'.mono (show g + 3 + 1 ≤ g + 4 by omega))
      go_region_held3 (fun W => (Below w.heap.size w W ∧ ((W.cell? ⟨g, 0, none⟩ = some (.int .i64 s) ∧ W.cell? ⟨g, 1, none⟩ = some (.slice A n cap)) ∧ W.cell? ⟨g + 1, 0, none⟩ = some (.int .i64 t) ∧ W.cell? ⟨g + 1, 1, none⟩ = some (.slice A2 n2 cap2)) ∧ ((W.cell? ⟨g + 2, 0, none⟩ = some (cellD W ⟨g + 2, 0, none⟩) ∧ W.cell? ⟨g + 2, 1, none⟩ = some (cellD W ⟨g + 2, 1, none⟩)) ∧ W.cell? ⟨g + 3, 0, none⟩ = some (cellD W ⟨g + 3, 0, none⟩) ∧ W.cell? ⟨g + 3, 1, none⟩ = some (cellD W ⟨g + 3, 1, none⟩)) ∧ (W.frozen? ⟨g + 2, 0, none⟩ = false ∧ W.frozen? ⟨g + 2, 1, none⟩ = false) ∧ W.frozen? ⟨g + 3, 0, none⟩ = false ∧ W.frozen? ⟨g + 3, 1, none⟩ = false) ∧ RdI W W.heap.size Aq nq cq Dq ∧ RdI W W.heap.size Ar nr cr Dr)
        ((refine raw4.1 ?_; first | assumption | exact K3.drew | exact D3.set2 (Nat.le_of_eq HG.out.symm) (by assumption) (b := g + 2) (by omega) (by simp <;> omega) HF2.out HF2'.out | exact D3.set2 (Nat.le_of_eq HG.out.symm) (raw4.2 (by assumption)) (b := g + 3) (by omega) (by simp <;> omega) HF3.out HF3'.out | exact (raw4.2 (by assumption)).keep ((Below.refl _ _).alloc (Nat.le_refl _) _)))
        (first
          | (go_at_call 29; with_reducible refine (HS1.out _ _ _ _ _ _ _ (raw4.2 (by assumption))).mono ?_; rintro e w3 ⟨s6, A6, n6, c6, l6, rfl, hr6, hstd6, hf6, k6, b6⟩)
            | (go_at_call 29; with_reducible refine (HS2.out _ _ _ _ _ _ _ (raw4.2 (by assumption))).mono ?_; rintro e w4 ⟨s7, A7, n7, c7, l7, rfl, hr7, hstd7, hf7, k7, b7⟩))
      have h67 := hr6.up (flat_lasts _) b7
      have hA6 := hf6 _ fq'
      have hA7 := hf7 _ fr'
      clear hr6 hf6 hf7 k6 b6 b7 K3 fq' fr'
      obtain ⟨⟨-, -, ⟨⟨x4, x5⟩, x6, x7⟩, -⟩, -, -⟩ := raw4.1 k7
      obtain ⟨⟨e1, e2⟩, e3, e4⟩ := set4_cells (u := .int .i64 s6) (v := .slice A6 n6 c6) (u' := .int .i64 s7) (v' := .slice A7 n7 c7) (show g + 2 ≠ g + 3 by omega) x4 x5 x6 x7
      have HE := Lib.hid (BigE2.mk (c := 0) (Nat.le_of_eq HG.out.symm) k7.1 (by simp) h67 hr7 hstd6 hstd7 hA6 hA7)
      clear k7 h67 hr7 hstd6 hstd7 hA6 hA7 x4 x5 x6 x7
      go_wp2
      exact bodyPost_ret (v := .tuple #[.agg #[.int .i64 s6, .slice A6 n6 c6], .agg #[.int .i64 s7, .slice A7 n7 c7], .int .i64 0]) (by simp [results, Tryd.results15, go_sem, e1, e2, e3, e4]) rfl HE.out
  case pos =>
    have hd1 : decide (s * t < 0) = true := decide_eq_true hcs.1
    obtain ⟨q1, q2⟩ := div_opp h1 h2 hcs.1 hcs.2
    obtain ⟨m1, -, -, -⟩ := opp_signs h1 h2 hcs.1
    obtain ⟨D1, hD1⟩ : ∃ D, D = digs (val Dq + 1).toNat := ⟨_, rfl⟩
    obtain ⟨D2, hD2⟩ : ∃ D, D = digs (val b - val Dr).toNat := ⟨_, rfl⟩
    have cD1 : Cn D1 := by rw [hD1]; exact digs_cn _
    have cD2 : Cn D2 := by rw [hD2]; exact digs_cn _
    have z1 : -1 * val D1 = fq (bval s a) (bval t b) := by rw [hD1, digs_val, q1]; omega
    have z2 : t * val D2 = fr (bval s a) (bval t b) := by rw [hD2, q2, vDr, digs_val]; congr 1; omega
    have d1 : DgOk [1] := DgOk.cons.2 ⟨by omega, DgOk.nil⟩
    have v1 : val [1] = 1 := by simp [val]
    have hr0 : 0 < Dr.length := List.length_pos_iff.2 (fun e => by rw [e] at vDr; have : val [] = 0 := rfl; omega)
    have m1' : t = 1 ∨ t = -1 ∨ D2 = [] := by rcases m1 with h | h; exact Or.inl h; exact Or.inr (Or.inl h)
    have HA := Lib.hid (fun Aq Ar nq cq nr cr (W0 : World) (H : Nat) (hH : W0.heap.size = H) W (hW : W = (W0.alloc (.cells #[.int .i64 1] 3)).drew) (h : D3 w g [(0, 0, .int .i64 s), (0, 1, .slice A n cap), (1, 0, .int .i64 t), (1, 1, .slice A2 n2 cap2)] [(2, 0), (2, 1), (3, 0), (3, 1)] Aq Ar nq cq nr cr Dq Dr W) => (addD Aq (some ⟨H, 0, none⟩) nq cq 1 1 Dq [1] W h.2.1 (by rw [hW]; exact Rd.litG iSized (w := W0) 3 [1] #[.int .i64 1] 1 H hH rfl rfl (by omega)) cDq.1 d1 (by rw [← h.2.1.len]; omega) (by omega)).mono fun e W' ⟨A', n', c', he, hr, hf, hb⟩ => (⟨A', n', c', he, by rw [v1] at hr; rw [hD1]; exact hr, hf.mono (h.1.lt (m := 3) (j := 0) (by simp)), h.keep hb, hb⟩ : ∃ A' n' c', e = Ending.returned (.slice A' n' c') ∧ RdI W' W'.heap.size A' n' c' D1 ∧ FrA (g + 3 + 1) A' ∧ D3 w g [(0, 0, .int .i64 s), (0, 1, .slice A n cap), (1, 0, .int .i64 t), (1, 1, .slice A2 n2 cap2)] [(2, 0), (2, 1), (3, 0), (3, 1)] Aq Ar nq cq nr cr Dq Dr W' ∧ Below W.heap.size W W'))
    have HM := Lib.hid (fun Aq Ar nq cq nr cr W (h : D3 w g [(0, 0, .int .i64 s), (0, 1, .slice A n cap), (1, 0, .int .i64 t), (1, 1, .slice A2 n2 cap2)] [(2, 0), (2, 1), (3, 0), (3, 1)] Aq Ar nq cq nr cr Dq Dr W) => (subD A2 Ar n2 cap2 nr cr b Dr W (hb.up (flat_lasts _) h.1.1) h.2.2 c2'.1 cDr.1 (by omega) (by rw [← h.2.2.len]; omega) (by rw [vDr]; omega)).mono fun e W' ⟨A', n', c', he, hr, hf, hb⟩ => (⟨A', n', c', he, hD2 ▸ hr, hf.mono (h.1.lt (m := 3) (j := 0) (by simp)), h.keep hb, hb⟩ : ∃ A' n' c', e = Ending.returned (.slice A' n' c') ∧ RdI W' W'.heap.size A' n' c' D2 ∧ FrA (g + 3 + 1) A' ∧ D3 w g [(0, 0, .int .i64 s), (0, 1, .slice A n cap), (1, 0, .int .i64 t), (1, 1, .slice A2 n2 cap2)] [(2, 0), (2, 1), (3, 0), (3, 1)] Aq Ar nq cq nr cr Dq Dr W' ∧ Below W.heap.size W W'))
    have HS1 := Lib.hid (fun A6 n6 c6 Aq Ar nq cq nr cr W (h6 : RdI W W.heap.size A6 n6 c6 D1) (h : D3 w g [(0, 0, .int .i64 s), (0, 1, .slice A n cap), (1, 0, .int .i64 t), (1, 1, .slice A2 n2 cap2)] [(2, 0), (2, 1), (3, 0), (3, 1)] Aq Ar nq cq nr cr Dq Dr W) => (signedD (-1) A6 n6 c6 _ _ W h6 cD1 (Or.inr (Or.inl rfl)) z1).mono fun e W' ⟨s', A', n', c', l', he, hr, hs, hf, hb⟩ => (⟨s', A', n', c', l', he, hr, hs, hf, h.keep hb, hb⟩ : ∃ s' A' n' c' l', e = Ending.returned (.agg #[.int .i64 s', .slice A' n' c']) ∧ RdI W' W'.heap.size A' n' c' l' ∧ Std s' l' (fq (bval s a) (bval t b)) ∧ (∀ B, FrA B A6 → FrA B A') ∧ D3 w g [(0, 0, .int .i64 s), (0, 1, .slice A n cap), (1, 0, .int .i64 t), (1, 1, .slice A2 n2 cap2)] [(2, 0), (2, 1), (3, 0), (3, 1)] Aq Ar nq cq nr cr Dq Dr W' ∧ Below W.heap.size W W'))
    have HS2 := Lib.hid (fun A6 n6 c6 Aq Ar nq cq nr cr W (h6 : RdI W W.heap.size A6 n6 c6 D2) (h : D3 w g [(0, 0, .int .i64 s), (0, 1, .slice A n cap), (1, 0, .int .i64 t), (1, 1, .slice A2 n2 cap2)] [(2, 0), (2, 1), (3, 0), (3, 1)] Aq Ar nq cq nr cr Dq Dr W) => (signedD t A6 n6 c6 _ _ W h6 cD2 m1' z2).mono fun e W' ⟨s', A', n', c', l', he, hr, hs, hf, hb⟩ => (⟨s', A', n', c', l', he, hr, hs, hf, h.keep hb, hb⟩ : ∃ s' A' n' c' l', e = Ending.returned (.agg #[.int .i64 s', .slice A' n' c']) ∧ RdI W' W'.heap.size A' n' c' l' ∧ Std s' l' (fr (bval s a) (bval t b)) ∧ (∀ B, FrA B A6 → FrA B A') ∧ D3 w g [(0, 0, .int .i64 s), (0, 1, .slice A n cap), (1, 0, .int .i64 t), (1, 1, .slice A2 n2 cap2)] [(2, 0), (2, 1), (3, 0), (3, 1)] Aq Ar nq cq nr cr Dq Dr W' ∧ Below W.heap.size W W'))
    clear d1 v1 z1 z2 q1 q2 hcs ms m1 m1' cD1 cD2 hD1 hD2 lq lr vDq vDr vq0 vr0 vr1 cDq cDr hDq hDr hb1 ha1 hn21 hbne e2' l1 l2 c1' c2' h1 h2 ht
    generalize fq (bval s a) (bval t b) = Zq at *
    generalize fr (bval s a) (bval t b) = Zr at *
    have Hr0 := Lib.hid hr0
    clear hr0
    go_enter Tryd.func15, Tryd.ntmps15
    go_wp2_with fail
    rw [← HW.out, ← HG.out]
    refine (HR1.out _ hb0).mono ?_
    rintro e w1 ⟨rfl, hb1⟩
    have K1 := K0.keep hb1
    clear hb1 hb0 c0 c1 c2 c3 c4 c5 c6 c7 c8 c9 c10 c11 K0
    obtain ⟨hb0, ⟨⟨c0, c1⟩, c2, c3⟩, ⟨⟨c4, c5⟩, c6, c7⟩, ⟨c8, c9⟩, c10, c11⟩ := raw3.1 K1
    go_wp2_with fail
    refine (HR2.out _ hb0).mono ?_
    rintro e w2 ⟨rfl, hb1⟩
    have K2 := K1.keep hb1
    clear hb1 hb0 c0 c1 c2 c3 c4 c5 c6 c7 c8 c9 c10 c11 K1
    obtain ⟨hb0, ⟨⟨c0, c1⟩, c2, c3⟩, ⟨⟨c4, c5⟩, c6, c7⟩, ⟨c8, c9⟩, c10, c11⟩ := raw3.1 K2
    go_wp2_with fail
    refine (HD.out _ K2).mono ?_
    rintro e w5 ⟨Aq, nq, cq, Ar, nr, cr, rfl, K3, fq', fr'⟩
    clear hb0 c0 c1 c2 c3 c4 c5 c6 c7 c8 c9 c10 c11 K2
    have hnr : 0 < nr := by rw [← K3.2.2.len]; exact Hr0.out
    have hd2 : decide (0 < nr) = true := decide_eq_true hnr
    obtain ⟨⟨hb0, ⟨⟨c0, c1⟩, c2, c3⟩, ⟨⟨c4, c5⟩, c6, c7⟩, ⟨c8, c9⟩, c10, c11⟩, -, -⟩ := raw4.1 K3
    go_wp2_with fail
    clear hb0 c0 c1 c2 c3 c4 c5 c6 c7 c8 c9 c10 c11
    have HF2 := Lib.hid (fq'.mono (show g + 2 + 1 ≤ g + 4 by omega))
    have HF2' := Lib.hid (fr'.mono (show g + 2 + 1 ≤ g + 4 by omega))
    have HF3 := Lib.hid (fq'.mono (show g + 3 + 1 ≤ g + 4 by omega))
    have HF3' := Lib.hid (fr'.mono (show g + 3 + 1 ≤ g + 4 by omega))
    go_region_held3 (fun W => (Below w.heap.size w W ∧ ((W.cell? ⟨g, 0, none⟩ = some (.int .i64 s) ∧ W.cell? ⟨g, 1, none⟩ = some (.slice A n cap)) ∧ W.cell? ⟨g + 1, 0, none⟩ = some (.int .i64 t) ∧ W.cell? ⟨g + 1, 1, none⟩ = some (.slice A2 n2 cap2)) ∧ ((W.cell? ⟨g + 2, 0, none⟩ = some (cellD W ⟨g + 2, 0, none⟩) ∧ W.cell? ⟨g + 2, 1, none⟩ = some (cellD W ⟨g + 2, 1, none⟩)) ∧ W.cell? ⟨g + 3, 0, none⟩ = some (cellD W ⟨g + 3, 0, none⟩) ∧ W.cell? ⟨g + 3, 1, none⟩ = some (cellD W ⟨g + 3, 1, none⟩)) ∧ (W.frozen? ⟨g + 2, 0, none⟩ = false ∧ W.frozen? ⟨g + 2, 1, none⟩ = false) ∧ W.frozen? ⟨g + 3, 0, none⟩ = false ∧ W.frozen? ⟨g + 3, 1, none⟩ = false) ∧ RdI W W.heap.size Aq nq cq Dq ∧ RdI W W.heap.size Ar nr cr Dr)
      ((refine raw4.1 ?_; first | assumption | exact K3.drew | exact D3.set2 (Nat.le_of_eq HG.out.symm) (by assumption) (b := g + 2) (by omega) (by simp <;> omega) HF2.out HF2'.out | exact D3.set2 (Nat.le_of_eq HG.out.symm) (raw4.2 (by assumption)) (b := g + 3) (by omega) (by simp <;> omega) HF3.out HF3'.out | exact (raw4.2 (by assumption)).keep ((Below.refl _ _).alloc (Nat.le_refl _) _)))
      (first
        | (go_at_call 31; refine (HA.out _ _ _ _ _ _ _ _ rfl _ rfl (raw4.2 (by assumption))).mono ?_; rintro e w6 ⟨A8, n8, c8, rfl, hr8, hf8, k8, b8⟩)
        | (go_at_call 32; refine (HM.out _ _ _ _ _ _ _ (raw4.2 (by assumption))).mono ?_; rintro e w7 ⟨A9, n9, c9, rfl, hr9, hf9, k9, b9⟩)
        | (go_at_call 29; with_reducible refine (HS1.out _ _ _ _ _ _ _ _ _ _ (by assumption) (raw4.2 (by assumption))).mono ?_; rintro e w3 ⟨s6, A6, n6, c6, l6, rfl, hr6, hstd6, hf6, k6, b6⟩)
        | (go_at_call 29; with_reducible refine (HS2.out _ _ _ _ _ _ _ _ _ _ (by assumption) (raw4.2 (by assumption))).mono ?_; rintro e w4 ⟨s7, A7, n7, c7, l7, rfl, hr7, hstd7, hf7, k7, b7⟩))
    have h67 := (hr6.up (flat_lasts _) b9).up (flat_lasts _) b7
    have hA6 := hf6 _ hf8
    have hA7 := hf7 _ hf9
    clear hr6 hf6 hf7 k6 b6 b7 b8 b9 k8 k9 hr8 hr9 hf8 hf9 K3 fq' fr'
    obtain ⟨⟨-, -, ⟨⟨x4, x5⟩, x6, x7⟩, -⟩, -, -⟩ := raw4.1 k7
    obtain ⟨⟨e1, e2⟩, e3, e4⟩ := set4_cells (u := .int .i64 s6) (v := .slice A6 n6 c6) (u' := .int .i64 s7) (v' := .slice A7 n7 c7) (show g + 2 ≠ g + 3 by omega) x4 x5 x6 x7
    have HE := Lib.hid (BigE2.mk (c := 0) (Nat.le_of_eq HG.out.symm) k7.1 (by simp) h67 hr7 hstd6 hstd7 hA6 hA7)
    clear k7 h67 hr7 hstd6 hstd7 hA6 hA7 x4 x5 x6 x7
    go_wp2
    exact bodyPost_ret (v := .tuple #[.agg #[.int .i64 s6, .slice A6 n6 c6], .agg #[.int .i64 s7, .slice A7 n7 c7], .int .i64 0]) (by simp [results, Tryd.results15, go_sem, e1, e2, e3, e4]) rfl HE.out
end Go.Proofs.YtkeajohkpmabcaaDoor
