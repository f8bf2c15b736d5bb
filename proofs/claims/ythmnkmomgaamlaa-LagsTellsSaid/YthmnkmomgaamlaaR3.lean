/- Walk over grow of package lags. Conditions stand in the theorem. -/
import Derived.Test.YthmnkmomgaamlaaR2
import Derived.Test.YthmnkmomgaamlaaLa
import Derived.RegionTactic
import Derived.WalkMore
import Derived.Deep.OwnRows
import Derived.ChangeAlike
import Derived.StillTailTactics
namespace Go.Proofs.Ythmnkmomgaamlaa
open Go.RowKit
set_option linter.unusedVariables false

def GrowPost (w : World) (m n : Nat) (all : List St) (e : Ending) (w' : World) : Prop := ∃ (T : Nat → Int) (B : Nat → Nat) (g1 g2 : Nat) (o : Int), e = .returned (.tuple #[.slice (some ⟨g1, 0, none⟩) m m, .slice (some ⟨g2, 0, none⟩) m m, .int .i64 o]) ∧
  Own 1 iEnc w' w.heap.size 3 (.slice (some ⟨g1, 0, none⟩) m m) (ofF m T) ∧ Own 1 iEnc w' w.heap.size 3 (.slice (some ⟨g2, 0, none⟩) m m) (ofF m (fun v => (B v : Int))) ∧ (∀ v, v < m → T v ≤ (((m + 1) * n : Nat) : Int) * 1048576) ∧
  ((o = -1 ∧ Least m all T) ∨ ∃ v, v < m ∧ o = (v : Int) ∧ BadAt m all B v) ∧ Below w.heap.size w w'
theorem Gs.nums {m n r j C : Nat} {all : List St} {T : Nat → Int} {B U S : Nat → Nat} {cb : Bool} (g : Gs m all r j T B cb U S C) (hl : all.length = n) (hr : r ≤ m) (hj : j ≤ n) : (∀ v, v < m → 0 ≤ T v ∧ T v ≤ (((m + 1) * n : Nat) : Int) * 1048576) := fun v hv => by
  have h1 := g.pos v hv
  have h2 := g.bd v hv
  have h3 := g.clk
  rw [hl] at h3
  have h4 : r * n ≤ m * n := Nat.mul_le_mul_right n hr
  have h5 : (m + 1) * n = m * n + n := by rw [Nat.add_mul]; omega
  refine ⟨h1, ?_⟩
  rw [h5]
  omega
theorem ofB_set {m t i : Nat} {B : Nat → Nat} : (fun j => if j = t then (i : Int) else ((B j : Nat) : Int)) = fun v => (((fun v => if v = t then i else B v) v : Nat) : Int) := by
  funext j
  by_cases h : j = t <;> simp [h]
set_option maxRecDepth 100000 in
set_option maxHeartbeats 2000000 in
theorem grow_any (m : Nat) (A : Option Addr) (n cap : Nat) (all : List St) (w : World) (hl : RdT w w.heap.size A n cap all) (hok : ∀ e, e < all.length → okS m (aAt all e)) (h0 : ∀ v, 0 < v → v < m → ∃ e, e < all.length ∧ aAt all e = (0, (v : Int), 0)) (hm : 1 ≤ m ∧ m ≤ 200) (hn : n ≤ 5000) :
  Calls Try.prog 24 #[.int .i64 m, .slice A n cap] w (GrowPost w m n all) := by
  have hcaps := hl.caps
  have hlen := hl.len
  obtain ⟨m1, m2⟩ := hm
  have Hok := Lib.hid hok; have H0 := Lib.hid h0; have Hlen := Lib.hid hlen
  clear hok h0 hlen
  have hmn : (m + 1) * n ≤ 201 * 5000 := Nat.mul_le_mul (by omega) hn
  obtain ⟨MN, hMN⟩ : ∃ MN, (m + 1) * n = MN := ⟨_, rfl⟩
  rw [hMN] at hmn
  have HMN := Lib.hid hMN
  clear hMN
  have hmk := run_make_row' (P := Try.prog) 23 3 (.int .i64 0) 8 Try.underlying23 int_info rfl .i64 .i64 m (by omega) (by omega)
  have hb2 : Below w.heap.size w ((w.alloc (.cells (madeCells #[.int .i64 0] m) 3)).alloc (.cells (madeCells #[.int .i64 0] m) 3)).drew := (((Below.refl w.heap.size w).alloc (Nat.le_refl _) _).alloc (by simp) _).drew
  have hoA : Own 1 iEnc ((w.alloc (.cells (madeCells #[.int .i64 0] m) 3)).alloc (.cells (madeCells #[.int .i64 0] m) 3)).drew w.heap.size 3 (.slice (some ⟨w.heap.size, 0, none⟩) m m) (ofF m (fun _ => (0 : Int))) := ((Own.made rfl (by rw [Nat.mul_one]; rfl) (Nat.le_refl _) (by omega)).alloc _).drew
  have hoB : Own 1 iEnc ((w.alloc (.cells (madeCells #[.int .i64 0] m) 3)).alloc (.cells (madeCells #[.int .i64 0] m) 3)).drew w.heap.size 3 (.slice (some ⟨w.heap.size + 1, 0, none⟩) m m) (ofF m (fun _ => (0 : Int))) := (Own.made (H := w.heap.size + 1) (by simp) (by rw [Nat.mul_one]; rfl) (by simp) (by omega)).drew
  have hg0 := Gs.start m all
  go_enter Try.func24, Try.ntmps24
  go_wp2
  go_step3
  go_wp2
  go_region
  obtain ⟨g1, g2, hg1, hg2, hg12, hA, hB⟩ : ∃ g1 g2, g1 = w.heap.size ∧ g2 = w.heap.size + 1 ∧ g1 ≠ g2 ∧ Own 1 iEnc ((w.alloc (.cells (madeCells #[.int .i64 0] m) 3)).alloc (.cells (madeCells #[.int .i64 0] m) 3)).drew w.heap.size 3 (.slice (some ⟨g1, 0, none⟩) m m) (ofF m (fun _ => (0 : Int))) ∧ Own 1 iEnc ((w.alloc (.cells (madeCells #[.int .i64 0] m) 3)).alloc (.cells (madeCells #[.int .i64 0] m) 3)).drew w.heap.size 3 (.slice (some ⟨g2, 0, none⟩) m m) (ofF m (fun _ => (0 : Int))) := ⟨_, _, rfl, rfl, by omega, hoA, hoB⟩
  rw [← hg2, ← hg1]
  rotate_left
  obtain ⟨g1, g2, hg1, hg2, hg12, hA, hB⟩ : ∃ g1 g2, g1 = w.heap.size + 1 ∧ g2 = w.heap.size ∧ g1 ≠ g2 ∧ Own 1 iEnc ((w.alloc (.cells (madeCells #[.int .i64 0] m) 3)).alloc (.cells (madeCells #[.int .i64 0] m) 3)).drew w.heap.size 3 (.slice (some ⟨g1, 0, none⟩) m m) (ofF m (fun _ => (0 : Int))) ∧ Own 1 iEnc ((w.alloc (.cells (madeCells #[.int .i64 0] m) 3)).alloc (.cells (madeCells #[.int .i64 0] m) 3)).drew w.heap.size 3 (.slice (some ⟨g2, 0, none⟩) m m) (ofF m (fun _ => (0 : Int))) := ⟨_, _, rfl, rfl, by omega, hoB, hoA⟩
  rw [← hg1, ← hg2]
  all_goals
    clear hg1 hg2 hoA hoB
    generalize ((w.alloc (.cells (madeCells #[.int .i64 0] m) 3)).alloc (.cells (madeCells #[.int .i64 0] m) 3)).drew = w2 at *
    go_wp2
    go_step3
    go_wp2
    clear hmk
    go_loopg [6, 7] (m + 1) (fun gk o i wr => ∃ (r : Nat) (T : Nat → Int) (B U S : Nat → Nat) (C : Nat), r ≤ m ∧ gk = m + 1 - r ∧ o = .int .i64 (-1) ∧ i = .int .i64 r ∧ Own 1 iEnc wr w.heap.size 3 (.slice (some ⟨g1, 0, none⟩) m m) (ofF m T) ∧ Own 1 iEnc wr w.heap.size 3 (.slice (some ⟨g2, 0, none⟩) m m) (ofF m (fun v => (B v : Int))) ∧ Gs m all r 0 T B true U S C ∧ Below w.heap.size w wr)
    case atStart => exact ⟨0, fun _ => 0, fun _ => 0, _, _, _, Nat.zero_le _, rfl, rfl, rfl, hA, hB, hg0, hb2⟩
    case round =>
      clear hg0 hA hB hb2
      obtain ⟨r, T, B, U, S, C, hr, rfl, rfl, rfl, hoT, hoB, hg, hb⟩ := hrel
      go_wp2
      go_loopg [6, 8, 19] n (fun gk o calm i wr => ∃ (j : Nat) (T : Nat → Int) (B : Nat → Nat) (cb : Bool) (U S : Nat → Nat) (C : Nat), j ≤ n ∧ gk = n - j ∧ o = .int .i64 (-1) ∧ i = .int .i64 j ∧ calm = .bool cb ∧ Own 1 iEnc wr w.heap.size 3 (.slice (some ⟨g1, 0, none⟩) m m) (ofF m T) ∧ Own 1 iEnc wr w.heap.size 3 (.slice (some ⟨g2, 0, none⟩) m m) (ofF m (fun v => (B v : Int))) ∧ Gs m all r j T B cb U S C ∧ (cb = false → r < m) ∧ Below w.heap.size w wr)
      case atStart => exact ⟨0, T, B, true, U, S, C, Nat.zero_le _, rfl, rfl, rfl, rfl, hoT, hoB, hg, (fun h => by cases h), hb⟩
      case round =>
        clear hoT hoB hg hb
        obtain ⟨j, T, B, cb, U, S, C, hj, rfl, rfl, rfl, rfl, hoT, hoB, hg, hcb, hb⟩ := hrel
        have Hg := Lib.hid hg; have Hcb := Lib.hid hcb
        clear hg hcb
        by_cases hlt : j < n
        · obtain ⟨b, off, x, y, z, rfl, hbB, hx, c0, c1, c2⟩ := (hl.below (flat_lasts _) hb (Nat.le_refl _) (Nat.le_refl _)).atT hlt
          have hos := Hok.out j (by rw [Hlen.out]; exact hlt)
          have ha := aAt_eq hx
          rw [ha] at hos
          have ⟨⟨q1, q2⟩, ⟨q3, q4⟩, q5, q6, q7⟩ := hos
          simp only at q1 q2 q3 q4 q5 q6 q7
          obtain ⟨f, rfl⟩ := Int.eq_ofNat_of_zero_le q1
          obtain ⟨t, rfl⟩ := Int.eq_ofNat_of_zero_le q3
          have hfm : f < m := by omega
          have htm : t < m := by omega
          have hft : f ≠ t := by omega
          have hnm := Hg.out.nums Hlen.out hr hj
          rw [HMN.out] at hnm
          have hTf := hnm f hfm
          have hTt := hnm t htm
          obtain ⟨TF, hTF⟩ : ∃ x, T f = x := ⟨_, rfl⟩
          obtain ⟨TT, hTT⟩ : ∃ x, T t = x := ⟨_, rfl⟩
          obtain ⟨e1, e2⟩ := (hoT.alloc (.cells #[.int .i64 f, .int .i64 t, .int .i64 z] 35)).cellI hfm
          obtain ⟨e3, e4⟩ := (hoT.alloc (.cells #[.int .i64 f, .int .i64 t, .int .i64 z] 35)).cellI htm
          obtain ⟨e5, e6⟩ := (hoB.alloc (.cells #[.int .i64 f, .int .i64 t, .int .i64 z] 35)).cellI htm
          have hoT2 := hoT.alloc (.cells #[.int .i64 f, .int .i64 t, .int .i64 z] 35)
          have hoB2 := hoB.alloc (.cells #[.int .i64 f, .int .i64 t, .int .i64 z] 35)
          have hb2 := hb.alloc hb.size (.cells #[.int .i64 f, .int .i64 t, .int .i64 z] 35)
          have d0 : (wr.alloc (.cells #[.int .i64 f, .int .i64 t, .int .i64 z] 35)).cell? ⟨wr.heap.size, 0, none⟩ = some (.int .i64 f) := new_cell rfl rfl
          have d1 : (wr.alloc (.cells #[.int .i64 f, .int .i64 t, .int .i64 z] 35)).cell? ⟨wr.heap.size, 1, none⟩ = some (.int .i64 t) := new_cell rfl rfl
          have d2 : (wr.alloc (.cells #[.int .i64 f, .int .i64 t, .int .i64 z] 35)).cell? ⟨wr.heap.size, 2, none⟩ = some (.int .i64 z) := new_cell rfl rfl
          rw [hTF] at e1 hTf
          rw [hTT] at e3 hTt
          have HTF := Lib.hid hTF; have HTT := Lib.hid hTT; have Ha := Lib.hid ha
          have hji : (j : Int) < (n : Int) := by omega
          have hj0 : (0 : Int) ≤ (j : Int) := by omega
          have hf0 : (0 : Int) ≤ (f : Int) := by omega
          have ht0 : (0 : Int) ≤ (t : Int) := by omega
          obtain ⟨f1, f2⟩ := hTf
          obtain ⟨t1, t2⟩ := hTt
          have hwz : IntKind.i64.wrap (TF + z) = TF + z := IntWalk.i64_in _ (by omega)
          have hg1 : wr.heap.size ≠ g1 := fun h => by
            have := (hoT.lt g1 rfl).2; omega
          have hg2 : wr.heap.size ≠ g2 := fun h => by
            have := (hoB.lt g2 rfl).2; omega
          clear hnm hTF hTT ha hx hos hoT hoB hb
          by_cases hle : TF + z ≤ TT
          · have hskip := Hg.out.skip (by rw [Ha.out]; simp only [sF, sT, sG, Int.toNat_natCast]; rw [HTF.out, HTT.out]; exact hle)
            have Hskip := Lib.hid hskip
            clear hskip
            go_wp2
            go_quiet (fail)
            go_wp2
            go_roundg (n - (j + 1))
            case rel => exact ⟨j + 1, T, B, cb, U, S, C, by omega, rfl, rfl, by go_num, rfl, hoT2.drewN _, hoB2.drewN _, Hskip.out, Hcb.out, below_drewN hb2 _⟩
            case measure => omega
          · have hd : decide (TF + z ≤ TT) = false := by simpa using hle
            have hup := Hg.out.up Hok.out (by rw [Hlen.out]; exact hlt) (by rw [Ha.out]; simp only [sF, sT, sG, Int.toNat_natCast]; rw [HTF.out, HTT.out]; omega)
            rw [Ha.out] at hup
            simp only [sF, sT, sG, Int.toNat_natCast] at hup
            rw [HTF.out] at hup
            have Hup := Lib.hid hup
            clear hup
            go_wp2
            go_quiet (fail)
            rename_i nq
            have hoT5 := hoT2.drewN nq
            have hoB5 := hoB2.drewN nq
            have hb5 := below_drewN hb2 nq
            have e1' : ((wr.alloc (.cells #[.int .i64 f, .int .i64 t, .int .i64 z] 35)).drewN nq).cell? ⟨g1, f, none⟩ = some (.int .i64 TF) := e1
            have e3' : ((wr.alloc (.cells #[.int .i64 f, .int .i64 t, .int .i64 z] 35)).drewN nq).cell? ⟨g1, t, none⟩ = some (.int .i64 TT) := e3
            have e4' : ((wr.alloc (.cells #[.int .i64 f, .int .i64 t, .int .i64 z] 35)).drewN nq).frozen? ⟨g1, t, none⟩ = false := e4
            have e5' : ((wr.alloc (.cells #[.int .i64 f, .int .i64 t, .int .i64 z] 35)).drewN nq).cell? ⟨g2, t, none⟩ = some (.int .i64 (B t)) := e5
            have e6' : ((wr.alloc (.cells #[.int .i64 f, .int .i64 t, .int .i64 z] 35)).drewN nq).frozen? ⟨g2, t, none⟩ = false := e6
            have d0' : ((wr.alloc (.cells #[.int .i64 f, .int .i64 t, .int .i64 z] 35)).drewN nq).cell? ⟨wr.heap.size, 0, none⟩ = some (.int .i64 f) := d0
            have d1' : ((wr.alloc (.cells #[.int .i64 f, .int .i64 t, .int .i64 z] 35)).drewN nq).cell? ⟨wr.heap.size, 1, none⟩ = some (.int .i64 t) := d1
            have d2' : ((wr.alloc (.cells #[.int .i64 f, .int .i64 t, .int .i64 z] 35)).drewN nq).cell? ⟨wr.heap.size, 2, none⟩ = some (.int .i64 z) := d2
            clear hoT2 hoB2 hb2 e1 e2 e3 e4 e5 e6 d0 d1 d2
            generalize (wr.alloc (.cells #[.int .i64 f, .int .i64 t, .int .i64 z] 35)).drewN nq = w5 at *
            go_wp2_with fail
            go_region
            have k1 := grown_kept (grown_set w5 g1 t (.int .i64 (TF + z)))
            have k2 := grown_kept (grown_set (w5.setCell ⟨g1, t, none⟩ (.int .i64 (TF + z))) g2 t (.int .i64 j))
            have hoT6 := ((hoT5.setI htm (TF + z)).keptS k2 (fun g hg h => by
              have a1 : g1 = g := by simpa [Value.ownBlock] using hg
              have a2 : g2 = g := by simpa using h
              omega)).drew
            have hoB6 := ((hoB5.keptS k1 (fun g hg h => by
              have a1 : g2 = g := by simpa [Value.ownBlock] using hg
              have a2 : g1 = g := by simpa using h
              omega)).setI htm (j : Int)).drew
            rw [ofB_set] at hoB6
            have hw1 : w.heap.size ≤ g1 := (hoT5.lt g1 rfl).1
            have hw2 : w.heap.size ≤ g2 := (hoB5.lt g2 rfl).1
            have hb6 := ((hb5.setCell (p := ⟨g1, t, none⟩) hw1 (.int .i64 (TF + z))).setCell (p := ⟨g2, t, none⟩) hw2 (.int .i64 (j : Int))).drew
            have d16 : ((w5.setCell ⟨g1, t, none⟩ (.int .i64 (TF + z))).setCell ⟨g2, t, none⟩ (.int .i64 j)).drew.cell? ⟨wr.heap.size, 1, none⟩ = some (.int .i64 t) :=
              (World.cell?_setCell_far _ ⟨g2, t, none⟩ ⟨wr.heap.size, 1, none⟩ _ (fun h => hg2 h.symm)).trans ((World.cell?_setCell_far _ ⟨g1, t, none⟩ ⟨wr.heap.size, 1, none⟩ _ (fun h => hg1 h.symm)).trans d1')
            clear hoT5 hoB5 hb5 e1' e3' e4' e5' e6' d0' d1' d2' k1 k2
            generalize ((w5.setCell ⟨g1, t, none⟩ (.int .i64 (TF + z))).setCell ⟨g2, t, none⟩ (.int .i64 j)).drew = w6 at *
            by_cases hrm : r = m
            · subst hrm
              have hrr : ((r : Int) == (r : Int)) = true := by simp
              have hbad := Hup.out.often Hok.out htm (by simp)
              have hnm2 := Hup.out.nums Hlen.out (Nat.le_refl _) (by omega)
              have Hbad := Lib.hid hbad; have Hnm2 := Lib.hid hnm2
              clear hbad hnm2
              go_wp2
              try rw [Exit.noGoto_ret]
              go_ret3
              exact ⟨_, _, g1, g2, (t : Int), rfl, hoT6, hoB6, (fun v hv => (Hnm2.out v hv).2), Or.inr ⟨t, htm, rfl, Hbad.out⟩, hb6⟩
            · have hrr : ((r : Int) == (m : Int)) = false := by simp; omega
              go_wp2
              go_roundg (n - (j + 1))
              case rel => exact ⟨j + 1, _, _, false, _, _, _, by omega, rfl, rfl, by go_num, rfl, hoT6, hoB6, Hup.out, (fun _ => by omega), hb6⟩
              case measure => omega
            all_goals exact (0 : Nat)
        · have e : j = n := by omega
          subst e
          cases cb
          · have hrm := Hcb.out rfl
            have hgn := Hg.out
            rw [show Gs m all r j T B false U S C = Gs m all r all.length T B false U S C by rw [Hlen.out]] at hgn
            have Hr := Lib.hid hgn.round
            have hwr : IntKind.i64.wrap ((r : Int) + 1) = (r : Int) + 1 := IntWalk.i64_in _ (by omega)
            clear hgn
            go_wp2
            go_roundg (m + 1 - (r + 1))
            case rel => exact ⟨r + 1, T, B, U, S, C, by omega, rfl, rfl, by go_num, hoT, hoB, Hr.out, hb⟩
            case measure => omega
          · have hgn := Hg.out
            have hnm := Hg.out.nums Hlen.out hr (Nat.le_refl _)
            rw [show Gs m all r j T B true U S C = Gs m all r all.length T B true U S C by rw [Hlen.out]] at hgn
            have Hf := Lib.hid (hgn.fin (by omega) Hok.out H0.out)
            have Hnm := Lib.hid hnm
            clear hgn hnm
            go_wp2
            rw [Exit.noGoto_ret]
            go_ret3
            exact ⟨T, B, g1, g2, -1, rfl, hoT, hoB, (fun v hv => (Hnm.out v hv).2), Or.inl ⟨rfl, Hf.out⟩, hb⟩
end Go.Proofs.Ythmnkmomgaamlaa
