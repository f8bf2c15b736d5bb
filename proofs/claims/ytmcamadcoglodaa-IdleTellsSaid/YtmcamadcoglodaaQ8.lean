/- Walk over prices of package idle. Conditions stand in the theorem. -/
import Derived.Test.YtmcamadcoglodaaK4
import Derived.Deep.DeepCutAuto
import Derived.Deep.RegionHeld3
import Derived.RegionTactic
import Derived.Laws.EntriesVeiled
import Derived.Deep.OwnRows
import Derived.WalkMore
import Derived.StillTailTactics
namespace Go.Proofs.Ytmcamadcoglodaa
open Go.RowKit
set_option linter.unusedVariables false
set_option maxRecDepth 100000 in
set_option maxHeartbeats 4000000 in
theorem prices_any (A : Option Addr) (cap : Nat) (cl : List (List Int)) (m n : Nat) (M : Int) (w : World) (hl : RdII w w.heap.size A m cap cl) (ht : Tab cl m n M) :
    Calls Try.prog 27 #[.slice A m cap] w (PricePost w m n M cl) := by
  have hcaps := hl.caps
  obtain ⟨⟨q1, q2, q3, q4⟩, q5, q6⟩ := And.intro ht.mn ht.hM
  have Ht := Lib.hid ht
  clear ht
  obtain ⟨b0, off0, A0, n0, cap0, x0, rfl, hb0, hx0, c0, rx0⟩ := hl.atII q1
  have hn0 : n0 = n := by rw [← rx0.len, ← clAt_eq hx0]; exact Ht.out.row 0 q1
  subst hn0
  have hcap0 := rx0.caps
  rw [Nat.add_zero] at c0
  have n1 : b0 < w.heap.size + 1 := by omega
  have n2 : b0 < w.heap.size + 1 + 1 := by omega
  have Hl := Lib.hid hl
  clear hl rx0 hx0
  go_enter Try.func27, Try.ntmps27
  go_wp2
  go_region
  have p5 : Hb ((((w.alloc (Obj.cells #[Value.slice (some ⟨b0, off0, none⟩) m cap] 22)).alloc (Obj.cells #[Value.slice none 0 0, Value.slice none 0 0, Value.slice none 0 0] 25)).alloc (Obj.cells #[Value.int IntKind.i64 n0] 3)).drew) w.heap.size #[Value.slice (some ⟨b0, off0, none⟩) m cap] 22 := (((Hb.new w _ _).alloc _).alloc _).drew
  have p10 : Hb ((((w.alloc (Obj.cells #[Value.slice (some ⟨b0, off0, none⟩) m cap] 22)).alloc (Obj.cells #[Value.slice none 0 0, Value.slice none 0 0, Value.slice none 0 0] 25)).alloc (Obj.cells #[Value.int IntKind.i64 n0] 3)).drew) (w.heap.size + 1) #[Value.slice none 0 0, Value.slice none 0 0, Value.slice none 0 0] 25 := ((Hb.newH (by simp)).alloc _).drew
  have p4 : Hb ((((w.alloc (Obj.cells #[Value.slice (some ⟨b0, off0, none⟩) m cap] 22)).alloc (Obj.cells #[Value.slice none 0 0, Value.slice none 0 0, Value.slice none 0 0] 25)).alloc (Obj.cells #[Value.int IntKind.i64 n0] 3)).drew) (w.heap.size + 1 + 1) #[Value.int IntKind.i64 n0] 3 := (Hb.newH (by simp)).drew
  have sz1 : ((((w.alloc (Obj.cells #[Value.slice (some ⟨b0, off0, none⟩) m cap] 22)).alloc (Obj.cells #[Value.slice none 0 0, Value.slice none 0 0, Value.slice none 0 0] 25)).alloc (Obj.cells #[Value.int IntKind.i64 n0] 3)).drew).heap.size = w.heap.size + 1 + 1 + 1 := by simp
  have hb1 : Below w.heap.size w ((((w.alloc (Obj.cells #[Value.slice (some ⟨b0, off0, none⟩) m cap] 22)).alloc (Obj.cells #[Value.slice none 0 0, Value.slice none 0 0, Value.slice none 0 0] 25)).alloc (Obj.cells #[Value.int IntKind.i64 n0] 3)).drew) := ((((Below.refl w.heap.size w).alloc (by simp) _).alloc (by simp) _).alloc (by simp; omega) _).drew
  generalize ((((w.alloc (Obj.cells #[Value.slice (some ⟨b0, off0, none⟩) m cap] 22)).alloc (Obj.cells #[Value.slice none 0 0, Value.slice none 0 0, Value.slice none 0 0] 25)).alloc (Obj.cells #[Value.int IntKind.i64 n0] 3)).drew) = w1 at *
  obtain ⟨g4, hg4⟩ : ∃ b, b = w.heap.size + 1 + 1 := ⟨_, rfl⟩
  rw [← hg4] at p4 ⊢
  obtain ⟨g10, hg10⟩ : ∃ b, b = w.heap.size + 1 := ⟨_, rfl⟩
  rw [← hg10] at p10 ⊢
  obtain ⟨g5, hg5⟩ : ∃ b, b = w.heap.size := ⟨_, rfl⟩
  rw [← hg5] at p5 ⊢
  have c4 : w1.cell? ⟨g4, 0, none⟩ = some (.int .i64 n0) := p4.cell rfl
  have l4 : g4 < w1.heap.size := by omega
  have l5 : g4 < w1.heap.size + 1 := by omega
  have l6 : g4 < w1.heap.size + 1 + 1 := by omega
  have l7 : g4 < w1.heap.size + 1 + 1 + 1 := by omega
  have hmk1 := run_make_row' (P := Try.prog) 23 3 (.int .i64 0) 8 Try.underlying23 int_info rfl .i64 .i64 (m + 1) (by omega) (by omega)
  have hmk2 := run_make_row' (P := Try.prog) 23 3 (.int .i64 0) 8 Try.underlying23 int_info rfl .i64 .i64 (n0 + 1) (by omega) (by omega)
  have hx1 : IntKind.i64.wrap ((m : Int) + 1) = (m : Int) + 1 := IntWalk.i64_in _ (by omega)
  have hx2 : IntKind.i64.wrap ((n0 : Int) + 1) = (n0 : Int) + 1 := IntWalk.i64_in _ (by omega)
  rw [show ((m + 1 : Nat) : Int) = (m : Int) + 1 from rfl] at hmk1
  rw [show ((n0 + 1 : Nat) : Int) = (n0 : Int) + 1 from rfl] at hmk2
  have HG := Lib.hid (And.intro hg4 (And.intro hg10 (And.intro hg5 sz1)))
  clear n1 n2 c0 hg4 hg10 hg5 sz1
  go_upto_region 2 with fail
  go_cut [5, 6] from 22 to 27 (fun s5 s6 wx => ∃ g1 g2 g7 g8, s5 = .pointer (some ⟨g7, 0, none⟩) ∧ s6 = .pointer (some ⟨g8, 0, none⟩) ∧ Hb wx g7 #[.slice (some ⟨g1, 0, none⟩) (m + 1) (m + 1)] 23 ∧ Hb wx g8 #[.slice (some ⟨g2, 0, none⟩) (n0 + 1) (n0 + 1)] 23 ∧
    Hb wx g1 (madeCells #[.int .i64 0] (m + 1)) 3 ∧ Hb wx g2 (madeCells #[.int .i64 0] (n0 + 1)) 3 ∧ (w1.heap.size ≤ g1 ∧ w1.heap.size ≤ g2 ∧ w1.heap.size ≤ g7 ∧ w1.heap.size ≤ g8) ∧ [g1, g2, g7, g8].Nodup ∧ Below w1.heap.size w1 wx)
  case first =>
    go_region
    all_goals go_wp2_with fail
    all_goals go_meet
    all_goals
      apply Exists.intro
      apply Exists.intro
      refine ⟨_, _, rfl, rfl, ?_, ?_, ?_, ?_, ?_, ?_, ?_⟩
      · repeat (first | with_reducible refine Hb.drew ?_ | with_reducible exact Hb.newH (by simp) | with_reducible refine Hb.alloc ?_ _)
      · repeat (first | with_reducible refine Hb.drew ?_ | with_reducible exact Hb.newH (by simp) | with_reducible refine Hb.alloc ?_ _)
      · repeat (first | with_reducible refine Hb.drew ?_ | with_reducible exact Hb.newH (by simp) | with_reducible refine Hb.alloc ?_ _)
      · repeat (first | with_reducible refine Hb.drew ?_ | with_reducible exact Hb.newH (by simp) | with_reducible refine Hb.alloc ?_ _)
      · omega
      · simp <;> omega
      · repeat (first | with_reducible exact Below.refl _ _ | with_reducible refine Below.drew ?_ | with_reducible refine Below.alloc ?_ (by simp <;> omega) _)
  case rest =>
  obtain ⟨g1, g2, g7, g8, rfl, rfl, p7, p8, p1, p2, ⟨k1, k2, k7, k8⟩, hnd, hbw⟩ := hcut
  have c4c : wc.cell? ⟨g4, 0, none⟩ = some (.int .i64 n0) := (p4.below hbw).cell rfl
  have szc := hbw.size
  have m0 : g4 < wc.heap.size := by omega
  have m1 : g4 < wc.heap.size + 1 := by omega
  have m2 : g4 < wc.heap.size + 1 + 1 := by omega
  clear c4 l4 l5 l6 l7
  go_wp2
  have hbW : Below wc.heap.size wc ((((wc.alloc (Obj.cells (madeCells #[Value.int IntKind.i64 0] (n0 + 1)) 3)).alloc (Obj.cells #[Value.slice (some ⟨wc.heap.size, 0, none⟩) (n0 + 1) (n0 + 1)] 23)).alloc (Obj.cells (madeCells #[Value.int IntKind.i64 0] (n0 + 1)) 3)).alloc (Obj.cells #[Value.slice (some ⟨wc.heap.size + 1 + 1, 0, none⟩) (n0 + 1) (n0 + 1)] 23)) := (((((Below.refl wc.heap.size wc).alloc (by simp) _).alloc (by simp) _).alloc (by simp; omega) _).alloc (by simp; omega) _)
  have p0 : Hb ((((wc.alloc (Obj.cells (madeCells #[Value.int IntKind.i64 0] (n0 + 1)) 3)).alloc (Obj.cells #[Value.slice (some ⟨wc.heap.size, 0, none⟩) (n0 + 1) (n0 + 1)] 23)).alloc (Obj.cells (madeCells #[Value.int IntKind.i64 0] (n0 + 1)) 3)).alloc (Obj.cells #[Value.slice (some ⟨wc.heap.size + 1 + 1, 0, none⟩) (n0 + 1) (n0 + 1)] 23)) wc.heap.size (madeCells #[Value.int IntKind.i64 0] (n0 + 1)) 3 := (((Hb.new _ _ _).alloc _).alloc _).alloc _
  have p6 : Hb ((((wc.alloc (Obj.cells (madeCells #[Value.int IntKind.i64 0] (n0 + 1)) 3)).alloc (Obj.cells #[Value.slice (some ⟨wc.heap.size, 0, none⟩) (n0 + 1) (n0 + 1)] 23)).alloc (Obj.cells (madeCells #[Value.int IntKind.i64 0] (n0 + 1)) 3)).alloc (Obj.cells #[Value.slice (some ⟨wc.heap.size + 1 + 1, 0, none⟩) (n0 + 1) (n0 + 1)] 23)) (wc.heap.size + 1) #[Value.slice (some ⟨wc.heap.size, 0, none⟩) (n0 + 1) (n0 + 1)] 23 := ((Hb.newH (by simp)).alloc _).alloc _
  have p3 : Hb ((((wc.alloc (Obj.cells (madeCells #[Value.int IntKind.i64 0] (n0 + 1)) 3)).alloc (Obj.cells #[Value.slice (some ⟨wc.heap.size, 0, none⟩) (n0 + 1) (n0 + 1)] 23)).alloc (Obj.cells (madeCells #[Value.int IntKind.i64 0] (n0 + 1)) 3)).alloc (Obj.cells #[Value.slice (some ⟨wc.heap.size + 1 + 1, 0, none⟩) (n0 + 1) (n0 + 1)] 23)) (wc.heap.size + 1 + 1) (madeCells #[Value.int IntKind.i64 0] (n0 + 1)) 3 := (Hb.newH (by simp)).alloc _
  have p9 : Hb ((((wc.alloc (Obj.cells (madeCells #[Value.int IntKind.i64 0] (n0 + 1)) 3)).alloc (Obj.cells #[Value.slice (some ⟨wc.heap.size, 0, none⟩) (n0 + 1) (n0 + 1)] 23)).alloc (Obj.cells (madeCells #[Value.int IntKind.i64 0] (n0 + 1)) 3)).alloc (Obj.cells #[Value.slice (some ⟨wc.heap.size + 1 + 1, 0, none⟩) (n0 + 1) (n0 + 1)] 23)) (wc.heap.size + 1 + 1 + 1) #[Value.slice (some ⟨wc.heap.size + 1 + 1, 0, none⟩) (n0 + 1) (n0 + 1)] 23 := Hb.newH (by simp)
  have hbwW : Below w.heap.size w ((((wc.alloc (Obj.cells (madeCells #[Value.int IntKind.i64 0] (n0 + 1)) 3)).alloc (Obj.cells #[Value.slice (some ⟨wc.heap.size, 0, none⟩) (n0 + 1) (n0 + 1)] 23)).alloc (Obj.cells (madeCells #[Value.int IntKind.i64 0] (n0 + 1)) 3)).alloc (Obj.cells #[Value.slice (some ⟨wc.heap.size + 1 + 1, 0, none⟩) (n0 + 1) (n0 + 1)] 23)) := (hb1.trans (hbw.mono hb1.size)).trans (hbW.mono (hb1.trans (hbw.mono hb1.size)).size)
  generalize ((((wc.alloc (Obj.cells (madeCells #[Value.int IntKind.i64 0] (n0 + 1)) 3)).alloc (Obj.cells #[Value.slice (some ⟨wc.heap.size, 0, none⟩) (n0 + 1) (n0 + 1)] 23)).alloc (Obj.cells (madeCells #[Value.int IntKind.i64 0] (n0 + 1)) 3)).alloc (Obj.cells #[Value.slice (some ⟨wc.heap.size + 1 + 1, 0, none⟩) (n0 + 1) (n0 + 1)] 23)) = w4 at *
  have hs0 := HS.make (w := w4) (base := w.heap.size) (hd := (some ⟨b0, off0, none⟩, m, cap)) (n := n0) (m := m) (by omega) (by omega) p0 (p1.below hbW) (p2.below hbW) p3 ((p4.below hbw).below hbW) ((p5.below hbw).below hbW) p6 (p7.below hbW) (p8.below hbW) p9 ((p10.below hbw).below hbW)
    (by have := HG.out; omega) (by
      have h1 := HG.out
      have h2 := p1.lt
      have h3 := p2.lt
      have h4 := p7.lt
      have h5 := p8.lt
      simp at hnd ⊢
      omega)
  obtain ⟨g9, hg9⟩ : ∃ b, b = wc.heap.size + 1 + 1 + 1 := ⟨_, rfl⟩
  rw [← hg9] at hs0 ⊢
  obtain ⟨g3, hg3⟩ : ∃ b, b = wc.heap.size + 1 + 1 := ⟨_, rfl⟩
  rw [← hg3] at hs0 ⊢
  obtain ⟨g6, hg6⟩ : ∃ b, b = wc.heap.size + 1 := ⟨_, rfl⟩
  rw [← hg6] at hs0 ⊢
  obtain ⟨g0, hg0⟩ : ∃ b, b = wc.heap.size := ⟨_, rfl⟩
  rw [← hg0] at hs0 ⊢
  clear hg9 hg3 hg6 hg0 p0 p1 p2 p3 p4 p5 p6 p7 p8 p9 p10 hbW hb1 hbw c4c m0 m1 m2 k1 k2 k7 k8 hnd szc HG hmk1 hx1
  obtain ⟨b, e0, e1, e2, e3, e4, e5, e6, e7, e8, e9, e10, hs⟩ : ∃ b : Nat → Nat, g0 = b 0 ∧ g1 = b 1 ∧ g2 = b 2 ∧ g3 = b 3 ∧ g4 = b 4 ∧ g5 = b 5 ∧ g6 = b 6 ∧ g7 = b 7 ∧ g8 = b 8 ∧ g9 = b 9 ∧ g10 = b 10 ∧ HS w4 w.heap.size 11 n0 m (some ⟨b0, off0, none⟩, m, cap) b (fun _ => 0) (fun _ => 0) (fun _ => 0) (fun _ => 0) (fun _ => 0) (fun _ => false) 0 := ⟨_, rfl, rfl, rfl, rfl, rfl, rfl, rfl, rfl, rfl, rfl, rfl, hs0⟩
  clear hs0
  subst e0 e1 e2 e3 e4 e5 e6 e7 e8 e9 e10
  have hst0 := Pst.start (m := m) (n := n0) (c := cT cl) q5 Ht.out.bd1
  go_loopg [9] m (fun gk i wr => ∃ (k : Nat) (O Wy : Nat → Nat) (U V : Nat → Int), 1 ≤ k ∧ k ≤ m + 1 ∧ gk = m + 1 - k ∧ i = .int .i64 k ∧ HS wr w.heap.size 11 n0 m (some ⟨b0, off0, none⟩, m, cap) b O Wy U V (fun _ => 0) (fun _ => false) 0 ∧ Pst m n0 (k - 1) M (cT cl) U V O ∧ Below w.heap.size w wr)
  case atStart => exact ⟨1, _, _, _, _, Nat.le_refl _, by omega, by omega, rfl, hs, hst0, hbwW⟩
  case round =>
    clear hs hst0 hbwW
    obtain ⟨k, O, Wy, U, V, hk1, hk, rfl, rfl, hs, hst, hb⟩ := hrel
    obtain ⟨v4, v5, v6, v7, v8, v9⟩ := HS.vars hs (by omega)
    by_cases hlt : k ≤ m
    · obtain ⟨p, hp⟩ : ∃ p, p = k - 1 := ⟨_, rfl⟩
      rw [← hp] at hst
      have hki : decide (k ≤ m) = true := by simpa using hlt
      have hki2 : decide ((k : Int) ≤ (m : Int)) = true := by simp; omega
      have hhp := hst.hp (W := Wy) (far := 1152921504606846976)
      rw [show p + 1 = k by omega] at hhp
      have Hhp := Lib.hid hhp
      have hpm : p < m := by omega
      have Hp1 := Lib.hid hp
      obtain ⟨o0, o1⟩ := HS.cO hs (by omega) (k := 0) (by omega)
      clear hst hhp hp
      go_upto_region 9 with (first
        | (refine wpList_st0 rfl rfl _ _ _ rfl ⟨b 0, 0, none⟩ (.int .i64 k) rfl rfl rfl int_size o0 o1 ?_
           intro w5 hw5
           have hs5 := HS.setO hs (by omega) (Nat.zero_le _) k
           rw [← hw5] at hs5
           have hb5 : Below w.heap.size w w5 := by rw [hw5]; exact HS.kept hs (a := 0) (by omega) (show 0 < n0 + 1 by omega) (.inl (k : Int)) _ w (Nat.le_refl _) hb
           clear hs hb v4 v5 v6 v7 v8 v9 o0 o1 hw5))
      obtain ⟨v4, -, -, -, -, -⟩ := HS.vars hs5 (by omega)
      have l0 : b 4 < w5.heap.size := (HM.lt hs5 (a := 4) (by omega)).2
      have l1 : b 4 < w5.heap.size + 1 := by omega
      have l2 : b 4 < w5.heap.size + 1 + 1 := by omega
      have l3 : b 4 < w5.heap.size + 1 + 1 + 1 := by omega
      have l4 : b 4 < w5.heap.size + 1 + 1 + 1 + 1 := by omega
      have hmk3 := run_make_row' (P := Try.prog) 66 4 (.bool false) 1 Try.underlying66 bool_info rfl .i64 .i64 (n0 + 1) (by omega) (by omega)
      rw [show ((n0 + 1 : Nat) : Int) = (n0 : Int) + 1 from rfl] at hmk3
      go_cut [10, 11] from 42 to 48 (fun s10 s11 wx => ∃ g11 g12 g13 g14, s10 = .pointer (some ⟨g13, 0, none⟩) ∧ s11 = .pointer (some ⟨g14, 0, none⟩) ∧ Hb wx g13 #[.slice (some ⟨g11, 0, none⟩) (n0 + 1) (n0 + 1)] 23 ∧ Hb wx g14 #[.slice (some ⟨g12, 0, none⟩) (n0 + 1) (n0 + 1)] 66 ∧
        Own 1 iEnc wx w5.heap.size 3 (.slice (some ⟨g11, 0, none⟩) (n0 + 1) (n0 + 1)) (List.replicate (n0 + 1) 1152921504606846976) ∧ Hb wx g12 (madeCells #[.bool false] (n0 + 1)) 4 ∧ (w5.heap.size ≤ g12 ∧ w5.heap.size ≤ g13 ∧ w5.heap.size ≤ g14) ∧ [g11, g12, g13, g14].Nodup ∧ Below w5.heap.size w5 wx)
      case first =>
        clear hs5 hmk2
        go_region_held3 (fun w' => w'.cell? ⟨b 4, 0, none⟩ = some (.int .i64 n0))
          (first | (go_simp; done) | go_keep | assumption)
          (first
            | (go_at_call 40
               refine (repeat_any 1152921504606846976 _ 1 (n0 + 1) _ (Rd.one (by go_simp)) (by omega) (by omega)).mono ?_
               rintro e w6 ⟨rfl, ho6, hb6⟩
               have hc6 := fun g j (hg : g < _) => hb6.cell (p := ⟨g, j, none⟩) hg
               have hf6 := fun g j (hg : g < _) => hb6.frozen (p := ⟨g, j, none⟩) hg
               have hk6 : w6.cell? ⟨b 4, 0, none⟩ = some (.int .i64 n0) := by
                 rw [hc6 _ _ (by simp <;> omega)]
                 go_simp
               have m0 : b 4 < w6.heap.size := World.block_lt_of_cell? w6 ⟨b 4, 0, none⟩ hk6
               have m1 : b 4 < w6.heap.size + 1 := by omega
               have m2 : b 4 < w6.heap.size + 1 + 1 := by omega
               have m3 : b 4 < w6.heap.size + 1 + 1 + 1 := by omega
               have q0 := hc6 (w5.heap.size) 0
               have r0 := hf6 (w5.heap.size) 0
               try simp [go_sem] at q0 r0
               have q1 := hc6 (w5.heap.size + 1) 0
               have r1 := hf6 (w5.heap.size + 1) 0
               try simp [go_sem] at q1 r1
               have q2 := hc6 (w5.heap.size + 1 + 1) 0
               have r2 := hf6 (w5.heap.size + 1 + 1) 0
               try simp [go_sem] at q2 r2
               have q3 := hc6 (w5.heap.size + 1 + 1 + 1) 0
               have r3 := hf6 (w5.heap.size + 1 + 1 + 1) 0
               try simp [go_sem] at q3 r3
               have z0 := (ho6.lt _ rfl).2
               simp at z0
               have y0 := Nat.lt_add_right 1 z0
               have x0 := Nat.lt_add_right 1 y0
               try (have z1 := Nat.lt_of_succ_lt z0; have y1 := Nat.lt_add_right 1 z1; have x1 := Nat.lt_add_right 1 y1)
               try (have z2 := Nat.lt_of_succ_lt z1; have y2 := Nat.lt_add_right 1 z2; have x2 := Nat.lt_add_right 1 y2)
               try (have z3 := Nat.lt_of_succ_lt z2; have y3 := Nat.lt_add_right 1 z3; have x3 := Nat.lt_add_right 1 y3)
               try (have z4 := Nat.lt_of_succ_lt z3; have y4 := Nat.lt_add_right 1 z4; have x4 := Nat.lt_add_right 1 y4)
               have h6 : ∀ g cs t, Hb _ g cs t → Hb w6 g cs t := fun g cs t h => h.below hb6
               have ho7 : ∃ G, G = _ ∧ Own 1 iEnc w6 G 3 (.slice (some ⟨G, 0, none⟩) (n0 + 1) (n0 + 1)) (List.replicate (n0 + 1) 1152921504606846976) := ⟨_, rfl, ho6⟩
               obtain ⟨G, hG, ho7⟩ := ho7
               simp at hG
               subst hG
               have hb56 : Below w5.heap.size w5 w6 := by
                 refine Below.trans ?_ (hb6.mono ?_)
                 · repeat (first | with_reducible exact Below.refl _ _ | with_reducible refine Below.drew ?_ | with_reducible refine Below.alloc ?_ (by simp <;> omega) _)
                 · simp <;> omega
               clear hc6 hf6 hb6 ho6))
        all_goals go_wp2_with fail
        all_goals go_meet
        all_goals
          apply Exists.intro
          apply Exists.intro
          refine ⟨_, _, rfl, rfl, ?_, ?_, ?_, ?_, ?_, ?_, ?_⟩
          · repeat (first | with_reducible refine Hb.drew ?_ | with_reducible exact Hb.newH (by simp) | with_reducible refine Hb.alloc ?_ _ | with_reducible apply Hb.setSame | with_reducible refine Hb.setOther ?_ (by omega) | with_reducible refine h6 _ _ _ ?_)
          · repeat (first | with_reducible refine Hb.drew ?_ | with_reducible exact Hb.newH (by simp) | with_reducible refine Hb.alloc ?_ _ | with_reducible apply Hb.setSame | with_reducible refine Hb.setOther ?_ (by omega) | with_reducible refine h6 _ _ _ ?_)
          · repeat (first | with_reducible exact Own.mono ho7 (by omega) | with_reducible refine Own.drew ?_ | with_reducible refine Own.alloc ?_ _ | with_reducible refine Own.setOther ?_ (by omega))
          · repeat (first | with_reducible refine Hb.drew ?_ | with_reducible exact Hb.newH (by simp) | with_reducible refine Hb.alloc ?_ _ | with_reducible apply Hb.setSame | with_reducible refine Hb.setOther ?_ (by omega) | with_reducible refine h6 _ _ _ ?_)
          · omega
          · simp <;> omega
          · repeat (first | with_reducible exact hb56 | with_reducible refine Below.drew ?_ | with_reducible refine Below.alloc ?_ (by first | omega | (simp <;> omega)) _ | with_reducible refine Below.setCell ?_ (by first | omega | (simp <;> omega)) _)
      case rest =>
      obtain ⟨g11, g12, g13, g14, rfl, rfl, p13, p14, o11, p12, ⟨k12, k13, k14⟩, hnd, hbw⟩ := hcut
      have hs6 := HM.below hs5 hbw
      have hb6 := hb5.trans (hbw.mono hb5.size)
      have kb : ∀ a, a < 11 → b a < w5.heap.size := fun a ha => (HM.lt hs5 ha).2
      have k11 := (o11.lt _ rfl).1
      have k11' := (o11.lt _ rfl).2
      obtain ⟨g15, hg15⟩ : ∃ g, wc.heap.size = g := ⟨_, rfl⟩
      have hs16 := HS.sixteen (far := 1152921504606846976) (HM.alloc hs6 (.cells #[.int .i64 0] 3)) (by omega) ((o11.mono hb5.size).alloc _) (p12.alloc _) (p13.alloc _) (p14.alloc _) (Hb.newH hg15) (by have := hb5.size; have := hbw.size; omega)
        (fun a ha => by have := kb a ha; have := hbw.size; show _ < g11 ∧ _; have h1 : w5.heap.size ≤ g11 := k11; omega) (by
          have h1 := p12.lt
          have h2 := p13.lt
          have h3 := p14.lt
          have h4 : g11 < wc.heap.size := k11'
          simp at hnd ⊢
          omega)
      have hb16 := hb6.alloc hb6.size (.cells #[.int .i64 0] 3)
      have hl16 : RdII (wc.alloc (.cells #[.int .i64 0] 3)) w.heap.size (some ⟨b0, off0, none⟩) m cap cl := Hl.out.below ii_lasts hb16 (Nat.le_refl _) (Nat.le_refl _)
      generalize hO' : (fun j => if j = 0 then k else O j) = O' at *
      have Hstep := Lib.hid (fun D a W0 U V L0 wz hl hs hp ha => step_any (some ⟨b0, off0, none⟩) cap cl m n0 p a M w.heap.size (b16 b [g11, g12, g13, g14, g15]) O' W0 U V L0 D wz hl Ht.out hs hp hpm ha)
      have hO0 : O' 0 = k := by rw [← hO']; rfl
      have HO0 := Lib.hid hO0
      have he5 := enters_of Try.func41 (by kernel_rfl) rfl
      clear hs5 hs6 hb5 hb6 kb k11 k11' k12 k13 k14 hnd hbw p12 p13 p14 o11 l0 l1 l2 l3 l4 v4 hmk3 hO0
      go_wp2_with fail
      refine (Hstep.out (fun _ => false) 0 Wy U V (fun _ => 1152921504606846976) _ hl16 hs16 Hhp.out (by rw [HO0.out]; omega)).mono ?_
      intro e w7 h7
      obtain ⟨U1, V1, L1, W1, nx, rfl, hs7, hp7, hnx, hb7⟩ := h7
      have hb7' := hb7 _ w (Nat.le_refl _) hb16
      obtain ⟨-, -, z0, z1⟩ := HS.vars2 hs7 rfl
      have z0' : w7.cell? ⟨g15, 0, none⟩ = some (.int .i64 ((0 : Nat) : Int)) := z0
      have z1' : w7.frozen? ⟨g15, 0, none⟩ = false := z1
      go_wp2_with (first
        | (refine wpList_st0 rfl rfl _ _ _ rfl ⟨g15, 0, none⟩ (.int .i64 nx) rfl rfl rfl int_size z0' z1' ?_
           intro w8 hw8
           have hs8 := HS.setA hs7 rfl nx
           have hb8 : Below w.heap.size w w8 := by rw [hw8]; exact HS.kept hs7 (a := 15) (by omega) (show 0 < 1 by omega) (.inl (nx : Int)) _ w (Nat.le_refl _) hb7'
           have hs8' : HS w8 w.heap.size 16 n0 m (some ⟨b0, off0, none⟩, m, cap) (b16 b [g11, g12, g13, g14, g15]) O' W1 U1 V1 L1 (mark (fun _ => false) 0) nx := by rw [hw8]; exact hs8))
      clear hs7 hs16 hb16 hl16 hb7 hb7' z0 z1 z0' z1' hs8 hw8 Hhp
      have Hp7 := Lib.hid hp7
      clear hp7
      go_loopg [] (n0 + 1 - cnt (mark (fun _ => false) 0) (n0 + 1)) (fun gk wx => ∃ (Wy : Nat → Nat) (U V L : Nat → Int) (D : Nat → Bool) (a : Nat), gk = n0 + 1 - cnt D (n0 + 1) ∧ 1 ≤ a ∧ HS wx w.heap.size 16 n0 m (some ⟨b0, off0, none⟩, m, cap) (b16 b [g11, g12, g13, g14, g15]) O' Wy U V L D a ∧ Hp m n0 p M 1152921504606846976 (cT cl) U V O' Wy L D a ∧ Below w.heap.size w wx)
      case atStart => exact ⟨W1, U1, V1, L1, _, nx, rfl, hnx, hs8', Hp7.out, hb8⟩
      case round =>
        clear hs8' Hp7 hb8 hnx
        obtain ⟨W2, U2, V2, L2, D2, a, rfl, ha1, hs, hp2, hb⟩ := hrel
        have Hp2 := Lib.hid hp2
        have hale := hp2.ale
        have hna := hp2.na
        obtain ⟨v4, v5, v6, v7, v8, v9⟩ := HS.vars hs (by omega)
        obtain ⟨v13, v14, v15, f15⟩ := HS.vars2 hs rfl
        obtain ⟨o0, -⟩ := HS.cO hs (by omega) hale
        have v6' : wr.cell? ⟨b 6, 0, none⟩ = some (.slice (some ⟨b 0, 0, none⟩) (n0 + 1) (n0 + 1)) := v6
        have v15' : wr.cell? ⟨g15, 0, none⟩ = some (.int .i64 a) := v15
        have f15' : wr.frozen? ⟨g15, 0, none⟩ = false := f15
        have o0' : wr.cell? ⟨b 0, a, none⟩ = some (.int .i64 (O' a)) := o0
        have ha0 : (0 : Int) ≤ (a : Int) := by omega
        have han : (a : Int) < ((n0 + 1 : Nat) : Int) := by omega
        have hl1 : RdII wr w.heap.size (some ⟨b0, off0, none⟩) m cap cl := Hl.out.below ii_lasts hb (Nat.le_refl _) (Nat.le_refl _)
        clear v4 v5 v6 v7 v8 v9 v13 v14 v15 f15 o0 hp2
        obtain ⟨r, hr⟩ : ∃ r, r = O' a := ⟨_, rfl⟩
        rw [← hr] at o0'
        have Hr := Lib.hid hr
        have Hna := Lib.hid hna
        clear hr hna
        by_cases hr0 : r = 0
        · have hrd : ((r : Int) != 0) = false := by simp [hr0]
          obtain ⟨g, hau⟩ := Hp2.out.back (by omega) (by rw [← Hr.out]; exact hr0)
          have Hau := Lib.hid hau
          clear hau
          subst hr0
          go_wp2
          clear v6' v15' f15' o0' hl1 ha0 han
          go_loopg [] g (fun gk wx => ∃ (O2 : Nat → Nat) (q : Nat), HS wx w.heap.size 16 n0 m (some ⟨b0, off0, none⟩, m, cap) (b16 b [g11, g12, g13, g14, g15]) O2 W2 U2 V2 L2 D2 q ∧ Au m n0 (p + 1) (cT cl) U2 V2 O2 W2 q gk ∧ Below w.heap.size w wx)
          case atStart => exact ⟨O', a, hs, Hau.out, hb⟩
          case round =>
            clear hs hb Hau
            obtain ⟨O2, q, hs, hau, hb⟩ := hrel
            have Hau := Lib.hid hau
            have hqn := hau.ale
            clear hau
            obtain ⟨v4, v5, v6, v7, v8, v9⟩ := HS.vars hs (by omega)
            obtain ⟨v13, v14, v15, f15⟩ := HS.vars2 hs rfl
            have v6' : wr.cell? ⟨b 6, 0, none⟩ = some (.slice (some ⟨b 0, 0, none⟩) (n0 + 1) (n0 + 1)) := v6
            have v9' : wr.cell? ⟨b 9, 0, none⟩ = some (.slice (some ⟨b 3, 0, none⟩) (n0 + 1) (n0 + 1)) := v9
            have v15' : wr.cell? ⟨g15, 0, none⟩ = some (.int .i64 q) := v15
            clear v4 v5 v6 v7 v8 v9 v13 v14 v15 f15
            by_cases hq0 : q = 0
            · subst hq0
              have hmt := Hau.out.fin
              rw [show p + 1 = k by have := Hp1.out; omega] at hmt
              have hnx := Pst.next Hp2.out hpm q2 q5 Ht.out.bd1 (O' := O2) (by rw [show p + 1 = k by have := Hp1.out; omega]; exact hmt)
              have Hnx := Lib.hid hnx
              clear hmt hnx
              go_wp2
              go_roundg (m + 1 - (k + 1))
              case rel => exact ⟨k + 1, O2, W2, U2, V2, by omega, by omega, rfl, by go_num, HS.elev hs (by omega) (fun a ha => (b16_low a ha).symm), by rw [show k + 1 - 1 = p + 1 by have := Hp1.out; omega]; exact Hnx.out, hb⟩
              case measure => omega
            · obtain ⟨w1', g', hg', hau'⟩ := Hau.out.step hq0
              have Hau' := Lib.hid hau'
              clear hau'
              have hqd : ((q : Int) != 0) = true := by simp; omega
              obtain ⟨c3, -⟩ := HS.cW hs (by omega) hqn
              have c3' : wr.cell? ⟨b 3, q, none⟩ = some (.int .i64 (W2 q)) := c3
              obtain ⟨c0, -⟩ := HS.cO hs (by omega) w1'
              have c0' : wr.cell? ⟨b 0, W2 q, none⟩ = some (.int .i64 (O2 (W2 q))) := c0
              obtain ⟨d0, d1⟩ := HS.cO hs (by omega) hqn
              have d0' : wr.cell? ⟨b 0, q, none⟩ = some (.int .i64 (O2 q)) := d0
              have d1' : wr.frozen? ⟨b 0, q, none⟩ = false := d1
              have hq1 : (0 : Int) ≤ (q : Int) := by omega
              have hq2 : (q : Int) < ((n0 + 1 : Nat) : Int) := by omega
              have hy1 : (0 : Int) ≤ ((W2 q : Nat) : Int) := by omega
              have hy2 : ((W2 q : Nat) : Int) < ((n0 + 1 : Nat) : Int) := by omega
              clear c3 c0 d0 d1
              obtain ⟨y, hy⟩ : ∃ y, y = W2 q := ⟨_, rfl⟩
              rw [← hy] at c3' c0' hy1 hy2 w1' Hau'
              obtain ⟨x, hx⟩ : ∃ x, x = O2 y := ⟨_, rfl⟩
              rw [← hx] at c0' Hau'
              have Hy := Lib.hid hy
              clear hy hx
              have hq3 : (q : Int) < (n0 : Int) + 1 := by omega
              have hy3 : (y : Int) < (n0 : Int) + 1 := by omega
              have hq4 : q < n0 + 1 := by omega
              have hy4 : y < n0 + 1 := by omega
              go_wp2_with fail
              go_still_tail 10, (by kernel_rfl)
              change wpList _ _ _ _ _ wr.drew
              refine wpList_st0 (w := wr.drew) rfl rfl _ _ _ rfl ⟨b 0, q, none⟩ (.int .i64 x) rfl rfl rfl int_size d0' d1' ?_
              intro w5' hw5'
              have hs1 : HS w5' w.heap.size 16 n0 m (some ⟨b0, off0, none⟩, m, cap) (b16 b [g11, g12, g13, g14, g15]) (fun j => if j = q then x else O2 j) W2 U2 V2 L2 D2 q := by rw [hw5']; exact HS.setO (HS.drew hs) (by omega) hqn x
              have hb1 : Below w.heap.size w w5' := by rw [hw5']; exact HS.kept (HS.drew hs) (a := 0) (by omega) (show q < n0 + 1 by omega) (.inl (x : Int)) _ w (Nat.le_refl _) hb.drew
              clear hs hb v6' v9' v15' c3' c0' d0' d1' hw5'
              obtain ⟨v4, v5, v6, v7, v8, v9⟩ := HS.vars hs1 (by omega)
              obtain ⟨v13, v14, v15, f15⟩ := HS.vars2 hs1 rfl
              have v9' : w5'.cell? ⟨b 9, 0, none⟩ = some (.slice (some ⟨b 3, 0, none⟩) (n0 + 1) (n0 + 1)) := v9
              have v15' : w5'.cell? ⟨g15, 0, none⟩ = some (.int .i64 q) := v15
              have f15' : w5'.frozen? ⟨g15, 0, none⟩ = false := f15
              obtain ⟨c3, -⟩ := HS.cW hs1 (by omega) hqn
              have c3' : w5'.cell? ⟨b 3, q, none⟩ = some (.int .i64 y) := by rw [Hy.out]; exact c3
              clear v4 v5 v6 v7 v8 v9 v13 v14 v15 f15 c3
              go_wp2_with (first
                | (refine wpList_st0 rfl rfl _ _ _ rfl ⟨g15, 0, none⟩ (.int .i64 y) rfl rfl rfl int_size v15' f15' ?_
                   intro w8 hw8
                   have hs8 := HS.setA hs1 rfl y
                   have hb8 : Below w.heap.size w w8 := by rw [hw8]; exact HS.kept hs1 (a := 15) (by omega) (show 0 < 1 by omega) (.inl (y : Int)) _ w (Nat.le_refl _) hb1
                   have hs8' : HS w8 w.heap.size 16 n0 m (some ⟨b0, off0, none⟩, m, cap) (b16 b [g11, g12, g13, g14, g15]) (fun j => if j = q then x else O2 j) W2 U2 V2 L2 D2 y := by rw [hw8]; exact hs8))
              go_roundg g'
              case rel => exact ⟨_, _, hs8', Hau'.out, hb8⟩
              case measure => exact hg'
        · have hrd : ((r : Int) != 0) = true := by simp; omega
          go_wp2_with fail
          refine (Hstep.out D2 a W2 U2 V2 L2 _ hl1 hs Hp2.out (by rw [← Hr.out]; exact hr0)).mono ?_
          intro e w7 h7
          obtain ⟨U3, V3, L3, W3, nx3, rfl, hs7, hp7, hnx3, hb7⟩ := h7
          have hb7' := hb7 _ w (Nat.le_refl _) hb
          obtain ⟨-, -, z0, z1⟩ := HS.vars2 hs7 rfl
          have z0' : w7.cell? ⟨g15, 0, none⟩ = some (.int .i64 a) := z0
          have z1' : w7.frozen? ⟨g15, 0, none⟩ = false := z1
          have Hp7 := Lib.hid hp7
          clear hp7
          go_wp2_with (first
            | (refine wpList_st0 rfl rfl _ _ _ rfl ⟨g15, 0, none⟩ (.int .i64 nx3) rfl rfl rfl int_size z0' z1' ?_
               intro w8 hw8
               have hs8 := HS.setA hs7 rfl nx3
               have hb8 : Below w.heap.size w w8 := by rw [hw8]; exact HS.kept hs7 (a := 15) (by omega) (show 0 < 1 by omega) (.inl (nx3 : Int)) _ w (Nat.le_refl _) hb7'
               have hs8' : HS w8 w.heap.size 16 n0 m (some ⟨b0, off0, none⟩, m, cap) (b16 b [g11, g12, g13, g14, g15]) O' W3 U3 V3 L3 (mark D2 a) nx3 := by rw [hw8]; exact hs8))
          go_roundg (n0 + 1 - cnt (mark D2 a) (n0 + 1))
          case rel => exact ⟨_, _, _, _, _, nx3, rfl, hnx3, hs8', Hp7.out, hb8⟩
          case measure => have := cnt_more Hna.out hale; omega
    · have ek : k = m + 1 := by omega
      subst ek
      have hki : decide (m + 1 ≤ m) = false := by simp
      have hki2 : decide (((m + 1 : Nat) : Int) ≤ (m : Int)) = false := by simp; omega
      rw [show m + 1 - 1 = m by omega] at hst
      have Hst := Lib.hid hst
      have hmk4 := run_make_row' (P := Try.prog) 23 3 (.int .i64 0) 8 Try.underlying23 int_info rfl .i64 .i64 m (by omega) (by omega)
      clear hst hmk2
      go_upto_region 18 with fail
      go_cut [14] from 75 to 81 (fun s14 wx => ∃ g16 gT, s14 = .pointer (some ⟨g16, 0, none⟩) ∧ Hb wx g16 #[.slice (some ⟨gT, 0, none⟩) m m, .slice (some ⟨b 1, 1, none⟩) m m, .slice (some ⟨b 2, 1, none⟩) n0 n0] 25 ∧ Hb wx gT (madeCells #[.int .i64 0] m) 3 ∧ (wr.heap.size ≤ g16 ∧ wr.heap.size ≤ gT) ∧ g16 ≠ gT ∧ Below wr.heap.size wr wx)
      case first =>
        have l7 := (HM.lt hs (a := 7) (by omega)).2
        have l8 := (HM.lt hs (a := 8) (by omega)).2
        have l71 := Nat.lt_add_right 1 l7
        have l81 := Nat.lt_add_right 1 l8
        have l72 := Nat.lt_add_right 1 l71
        have l82 := Nat.lt_add_right 1 l81
        clear hs
        go_region
        all_goals go_wp2_with fail
        all_goals go_meet
        all_goals
          apply Exists.intro
          apply Exists.intro
          refine ⟨rfl, ?_, ?_, ?_, ?_, ?_⟩
          · repeat (first | with_reducible refine Hb.drew ?_ | with_reducible exact Hb.newH (by simp) | with_reducible refine Hb.alloc ?_ _)
          · repeat (first | with_reducible refine Hb.drew ?_ | with_reducible exact Hb.newH (by simp) | with_reducible refine Hb.alloc ?_ _)
          · omega
          · omega
          · repeat (first | with_reducible exact Below.refl _ _ | with_reducible refine Below.drew ?_ | with_reducible refine Below.alloc ?_ (by first | omega | (simp <;> omega)) _)
      case rest =>
      obtain ⟨g16, gT, rfl, p16, pT, ⟨k16, kT⟩, hne, hbw⟩ := hcut
      have hs2 : HS _ w.heap.size 11 n0 m (some ⟨b0, off0, none⟩, m, cap) b O Wy U V (fun _ => 0) (fun _ => false) 0 := HM.below hs hbw
      have hb2 := hb.trans (hbw.mono hb.size)
      have hT : Own 1 iEnc _ w.heap.size 3 (.slice (some ⟨gT, 0, none⟩) m m) (ofF m (fun r => (((fun _ => 0 : Nat → Nat) r : Nat) : Int))) := (pT.own (n := m) (base := w.heap.size) (.inl 0) (made_list _ _) (Nat.le_trans hb.size kT) (by omega)).like fun i hi => rfl
      have kb : ∀ a, a < 11 → b a ≠ gT ∧ b a ≠ g16 := fun a ha => by
        have := (HM.lt hs ha).2
        omega
      have Kb := Lib.hid kb
      have kge : w.heap.size ≤ gT ∧ w.heap.size ≤ g16 := by have := hb.size; omega
      obtain ⟨kgT, kg16⟩ := kge
      have Hout0 := Lib.hid (Outs.start O (fun _ => 0))
      clear hs hb hbw k16 kT pT kb v4 v5 v6 v7 v8 v9 hmk4
      go_wp2
      go_loopg [15] n0 (fun gk i wx => ∃ (k : Nat) (T : Nat → Nat), 1 ≤ k ∧ k ≤ n0 + 1 ∧ gk = n0 + 1 - k ∧ i = .int .i64 k ∧ HS wx w.heap.size 11 n0 m (some ⟨b0, off0, none⟩, m, cap) b O Wy U V (fun _ => 0) (fun _ => false) 0 ∧ Own 1 iEnc wx w.heap.size 3 (.slice (some ⟨gT, 0, none⟩) m m) (ofF m (fun r => ((T r : Nat) : Int))) ∧ Hb wx g16 #[.slice (some ⟨gT, 0, none⟩) m m, .slice (some ⟨b 1, 1, none⟩) m m, .slice (some ⟨b 2, 1, none⟩) n0 n0] 25 ∧ Outs O k T ∧ Below w.heap.size w wx)
      case atStart => exact ⟨1, fun _ => 0, Nat.le_refl _, by omega, by omega, rfl, hs2, hT, p16, Hout0.out, hb2⟩
      case round =>
        clear hs2 hT p16 Hout0 hb2
        obtain ⟨k, T, hk1, hk, rfl, rfl, hs, hT, p16, hout, hb⟩ := hrel
        have Hout := Lib.hid hout
        obtain ⟨v4, v5, v6, v7, v8, v9⟩ := HS.vars hs (by omega)
        clear hout
        by_cases hlt : k ≤ n0
        · have hki : decide (k ≤ n0) = true := by simpa using hlt
          have hki2 : decide ((k : Int) ≤ (n0 : Int)) = true := by simp; omega
          obtain ⟨o0, -⟩ := HS.cO hs (by omega) hlt
          obtain ⟨r, hr⟩ : ∃ r, r = O k := ⟨_, rfl⟩
          rw [← hr] at o0
          have Hr := Lib.hid hr
          clear hr
          have hk0 : (0 : Int) ≤ (k : Int) := by omega
          have hk2 : (k : Int) < ((n0 + 1 : Nat) : Int) := by omega
          have hk3 : (k : Int) < (n0 : Int) + 1 := by omega
          by_cases hr0 : r = 0
          · subst hr0
            have Hsk := Lib.hid (Hout.out.skip Hr.out.symm)
            go_wp2
            go_roundg (n0 + 1 - (k + 1))
            case rel => exact ⟨k + 1, T, by omega, by omega, rfl, by go_num, hs, hT, p16, Hsk.out, hb⟩
            case measure => omega
          · have hrm : r ≤ m := by rw [Hr.out]; exact Hst.out.mt.own k hk1 hlt
            have Hpt := Lib.hid (Hout.out.put Hst.out.mt hk1 hlt (by rw [← Hr.out]; exact hr0))
            rw [← Hr.out] at Hpt
            have hrd : decide ((0 : Int) < (r : Int)) = true := by simp; omega
            have hrd2 : decide (0 < r) = true := by simp; omega
            have hrp : 0 < r := by omega
            obtain ⟨q, hq⟩ : ∃ q, q = r - 1 := ⟨_, rfl⟩
            rw [← hq] at Hpt
            obtain ⟨t0, t1⟩ := hT.cellI (i := q) (by omega)
            have e0 : wr.cell? ⟨g16, 0, none⟩ = some (.slice (some ⟨gT, 0, none⟩) m m) := p16.cell rfl
            rw [show (r : Int) = (q : Int) + 1 by omega] at o0
            have g0 : decide ((0 : Int) < (q : Int) + 1) = true := decide_eq_true (by omega)
            have g1 : IntKind.i64.wrap ((q : Int) + 1 - 1) = (q : Int) := by rw [show (q : Int) + 1 - 1 = q by omega]; exact IntWalk.i64_in _ (by omega)
            have g1' : IntKind.i64.wrap (q : Int) = (q : Int) := IntWalk.i64_in _ (by omega)
            have g2 : IntKind.i64.wrap ((k : Int) - 1) = (k : Int) - 1 := IntWalk.i64_in _ (by omega)
            have g5 : (0 : Int) ≤ (q : Int) := by omega
            have g6 : (q : Int) < (m : Int) := by omega
            have g7 : q < m := by omega
            clear hq
            go_wp2_with fail
            go_still_tail 10, (by kernel_rfl)
            change wpList _ _ _ _ _ wr.drew
            refine wpList_st0 (w := wr.drew) rfl rfl _ _ _ rfl ⟨gT, q, none⟩ (.int .i64 ((k : Int) - 1)) rfl rfl rfl int_size t0 t1 ?_
            intro w5 hw5
            have hT5 := (Own.drew hT).setI (i := q) (by omega) ((k : Int) - 1)
            rw [← hw5, ofF_congr (g := fun r' => (((if r' = q then k - 1 else T r') : Nat) : Int)) (fun j hj => by
              by_cases e : j = q
              · simp only [if_pos e]; omega
              · simp only [if_neg e])] at hT5
            have hk5 : Kept (fun g => some gT = some g) wr.drew w5 := by rw [hw5]; exact grown_kept (grown_set _ gT q _)
            have hs5 : HS w5 w.heap.size 11 n0 m (some ⟨b0, off0, none⟩, m, cap) b O Wy U V (fun _ => 0) (fun _ => false) 0 := HM.keptS (HS.drew hs) hk5 (fun a ha e => (Kb.out a ha).1 (by injection e with e; exact e.symm))
            have p165 : Hb w5 g16 #[.slice (some ⟨gT, 0, none⟩) m m, .slice (some ⟨b 1, 1, none⟩) m m, .slice (some ⟨b 2, 1, none⟩) n0 n0] 25 := by rw [hw5]; exact Hb.setOther p16.drew (by omega)
            have hb5 : Below w.heap.size w w5 := by rw [hw5]; exact hb.drew.setCell kgT _
            clear hs hT p16 hb hw5 hk5 t0 t1 e0 o0 v4 v5 v6 v7 v8 v9
            go_wp2
            go_roundg (n0 + 1 - (k + 1))
            case rel => exact ⟨k + 1, _, by omega, by omega, rfl, by go_num, hs5, hT5, p165, Hpt.out, hb5⟩
            case measure => omega
        · have ek : k = n0 + 1 := by omega
          subst ek
          have hki : decide (n0 + 1 ≤ n0) = false := by simp
          have hki2 : decide (((n0 + 1 : Nat) : Int) ≤ (n0 : Int)) = false := by simp; omega
          have hfin := Hout.out.fin Hst.out.mt
          have hcert := Lib.hid (Mt.cert (c := tb cl) Hst.out.mt hfin)
          have e0 : wr.cell? ⟨g16, 0, none⟩ = some (.slice (some ⟨gT, 0, none⟩) m m) := p16.cell rfl
          have e1 : wr.cell? ⟨g16, 1, none⟩ = some (.slice (some ⟨b 1, 1, none⟩) m m) := p16.cell rfl
          have e2 : wr.cell? ⟨g16, 2, none⟩ = some (.slice (some ⟨b 2, 1, none⟩) n0 n0) := p16.cell rfl
          have hres := HS.res hs (by omega)
          clear hfin v5 v6 v7 v8 v9
          have hp9 := hres.cells3 #[.slice (some ⟨gT, 0, none⟩) m m, .slice (some ⟨b 1, 1, none⟩) m m, .slice (some ⟨b 2, 1, none⟩) n0 n0]
          have hg9 := grown_row wr (b 10) #[.slice (some ⟨gT, 0, none⟩) m m, .slice (some ⟨b 1, 1, none⟩) m m, .slice (some ⟨b 2, 1, none⟩) n0 n0]
          have hg10 := (HM.lt hs (a := 10) (by omega))
          have hb9 := hb.grown hg9 hb.size (by intro q hq; cases hq; exact hg10.1)
          have hT9 := hT.keptS (grown_kept hg9) (by
            intro q hq e
            have h1 : gT = q := by simpa [Value.ownBlock] using hq
            have h2 : b 10 = q := by simpa using e
            exact (Kb.out 10 (by omega)).1 (by omega))
          have hU := (HM.ints hs (a := 1) (by omega) U (fun _ => rfl)).keptS (grown_kept hg9) (by
            intro q hq e
            have h1 : b 1 = q := by simpa [Value.ownBlock] using hq
            have h2 : b 10 = q := by simpa using e
            exact HM.ne hs (a := 1) (b := 10) (by omega) (by omega) (by omega) (by omega))
          have hV := (HM.ints hs (a := 2) (by omega) V (fun _ => rfl)).keptS (grown_kept hg9) (by
            intro q hq e
            have h1 : b 2 = q := by simpa [Value.ownBlock] using hq
            have h2 : b 10 = q := by simpa using e
            exact HM.ne hs (a := 2) (b := 10) (by omega) (by omega) (by omega) (by omega))
          have rU := Own.rd1 hU (by omega)
          have rV := Own.rd1 hV (by omega)
          have hone : (#[.slice (some ⟨gT, 0, none⟩) m m, .slice (some ⟨b 1, 1, none⟩) m m, .slice (some ⟨b 2, 1, none⟩) n0 n0] : Array Value).all (fun x => x.oneCell') = true := by simp [Value.oneCell']
          clear hg9 hg10 hb hT hU hV hs
          go_wp2_with (first
            | (refine wpList_store_row rfl _ _ _ rfl (b 10) #[.slice (some ⟨gT, 0, none⟩) m m, .slice (some ⟨b 1, 1, none⟩) m m, .slice (some ⟨b 2, 1, none⟩) n0 n0] rfl rfl 25 _ hres match_size rfl hone ?_
               generalize wr.setRow (b 10) #[.slice (some ⟨gT, 0, none⟩) m m, .slice (some ⟨b 1, 1, none⟩) m m, .slice (some ⟨b 2, 1, none⟩) n0 n0] = w9 at *))
          have z0 : w9.cell? ⟨b 10, 0, none⟩ = some (.slice (some ⟨gT, 0, none⟩) m m) := hp9.cell rfl
          have z1 : w9.cell? ⟨b 10, 1, none⟩ = some (.slice (some ⟨b 1, 1, none⟩) m m) := hp9.cell rfl
          have z2 : w9.cell? ⟨b 10, 2, none⟩ = some (.slice (some ⟨b 2, 1, none⟩) n0 n0) := hp9.cell rfl
          refine bodyPost_ret (v := .agg #[.slice (some ⟨gT, 0, none⟩) m m, .slice (some ⟨b 1, 1, none⟩) m m, .slice (some ⟨b 2, 1, none⟩) n0 n0]) (by simp [results, Try.results27, go_sem, z0, z1, z2]) rfl ?_
          exact ⟨T, _, _, gT, b 1, b 2, rfl, hT9, rU, rV, hcert.out, (fun r hr => ⟨Hst.out.mt.pos _, Hst.out.ub _ (by omega) (by omega)⟩), (fun k hk => ⟨Hst.out.vb _ (by omega) (by omega), Hst.out.mt.neg _ (by omega) (by omega)⟩), hb9⟩
end Go.Proofs.Ytmcamadcoglodaa
