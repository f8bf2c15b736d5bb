/- Walk over far of the reference of layer 15. Conditions stand in the theorem. -/
import Derived.Test.YthmnkmomgaamlaaF1
import Derived.Test.YthmnkmomgaamlaaGr
import Derived.Deep.OwnRows
import Derived.StillTailTactics
namespace Go.Proofs.Ythmnkmomgaamlaa
open Go.RowKit
set_option linter.unusedVariables false

theorem feas_r {n : Nat} {l : List Lg} {F : Nat → Int} : Feas (rstepsF n l) F ↔ Feas (stepsF n l) F := by
  rw [feas_mem, feas_mem]
  exact ⟨fun h s hs => h s (rsteps_mem.2 hs), fun h s hs => h s (rsteps_mem.1 hs)⟩
theorem rsteps_okA {n : Nat} {l : List Lg} (h : rightL n l = true) : ∀ e, e < (rstepsF n l).length → okS n (aAt (rstepsF n l) e) := fun e he => steps_ok h (rsteps_mem.1 (aAt_mem he))
theorem Fe.toFw {n : Nat} {l : List Lg} {D : Nat → Nat → Int} (h : Fe n (rstepsF n l) (rstepsF n l).length D) : Fw n (stepsF n l) 0 D := by
  have hedge : ∀ s ∈ stepsF n l, sG s ≤ D (sF s) (sT s) := fun s hs => by
    obtain ⟨k, hk⟩ := List.mem_iff_getElem?.1 (rsteps_mem.2 hs)
    have := h.edge k (List.getElem?_eq_some_iff.1 hk).1 (List.getElem?_eq_some_iff.1 hk).1
    rw [aAt_eq hk] at this
    exact this
  have h2 : Fe n (stepsF n l) (stepsF n l).length D := ⟨h.low, h.diag, fun k hk _ => hedge _ (aAt_mem hk), fun F hF => h.sound F (feas_r.2 hF)⟩
  exact h2.done
def FarPost (w : World) (m : Nat) (l : List Lg) (e : Ending) (w' : World) : Prop :=
  (e = .returned (.slice none 0 0) ∧ (∀ F, Feas (stepsF m l) F → False) ∧ Below w.heap.size w w') ∨
  (∃ (h : Nat) (rows : Nat → Nat) (D : Nat → Nat → Int), e = .returned (.slice (some ⟨h, 0, none⟩) m m) ∧ Grid w' w.heap.size m m h rows D ∧ Fw m (stepsF m l) m D ∧ (∀ x, x < m → D x x ≤ 0) ∧ Below w.heap.size w w')
def d0F : Nat → Nat → Int := fun i k => if i = k then 0 else (-1000000000000)
def d1F (j k : Nat) : Nat → Nat → Int := fun a b => if a = j then (if b < k ∧ b ≠ j then (-1000000000000) else 0) else d0F a b
set_option maxRecDepth 100000 in
set_option maxHeartbeats 4000000 in
theorem far_any (m : Nat) (A : Option Addr) (n cap : Nat) (l : List Lg) (w : World) (hl : RdL w w.heap.size A n cap l) (hr : rightL m l = true) (hm : m ≤ 14) :
  Calls Try.prog 26 #[.int .i64 m, .slice A n cap] w (FarPost w m l) := by
  have hlen := hl.len
  obtain ⟨⟨m1, m2⟩, hl2, -⟩ := rightL_iff hr
  rw [hlen] at hl2
  have m1' : 1 ≤ m := by omega
  have hsl := rsteps_len (n := m) (l := l)
  rw [hlen] at hsl
  have Hst := Lib.hid (fun w h => rsteps_any m A n cap l w h hr)
  have Hokr := Lib.hid (rsteps_okA hr)
  have Hok := Lib.hid (steps_okA hr)
  have HFw := Lib.hid (fun D (h : Fe m (rstepsF m l) (rstepsF m l).length D) => h.toFw)
  have Hnil : RowKit.Hid (∀ w', (∀ F, Feas (stepsF m l) F → False) → Below w.heap.size w w' → FarPost w m l (.returned (.slice none 0 0)) w') := Lib.hid fun w' h1 h2 => Or.inl ⟨rfl, h1, h2⟩
  have Hgrid : RowKit.Hid (∀ w' h rows D, Grid w' w.heap.size m m h rows D → Fw m (stepsF m l) m D → (∀ x, x < m → D x x ≤ 0) → Below w.heap.size w w' → FarPost w m l (.returned (.slice (some ⟨h, 0, none⟩) m m)) w') := Lib.hid fun w' h rows D h1 h2 h3 h4 => Or.inr ⟨h, rows, D, rfl, h1, h2, h3, h4⟩
  have hF0 := Fe.start m (rstepsF m l)
  have HF0 := Lib.hid hF0
  clear hr hlen hF0
  generalize stepsF m l = all at *
  generalize rstepsF m l = alr at *
  obtain ⟨N, hN⟩ : ∃ N, alr.length = N := ⟨_, rfl⟩
  rw [hN] at hsl
  have HN := Lib.hid hN
  clear hN
  have hN5 : N ≤ 5000 := by omega
  have hmk := run_make_row' (P := Try.prog) 23 3 (.int .i64 0) 8 Try.underlying23 int_info rfl .i64 .i64 m (by omega) (by omega)
  have hmkq := run_make_row' (P := Try.prog) 54 23 (.slice none 0 0) 24 Try.underlying54 slices_info rfl .i64 .i64 m (by omega) (by omega)
  have hb1 : Below w.heap.size w (w.alloc (.cells (madeCells #[.slice none 0 0] m) 23)) := (Below.refl w.heap.size w).alloc (Nat.le_refl _) _
  have hg1 : Grid (w.alloc (.cells (madeCells #[.slice none 0 0] m) 23)) w.heap.size m 0 w.heap.size (fun _ => 0) d0F := ⟨by
    have h := Own.madeQ (w := w) (n := m) (e := 23) rfl rfl (Nat.le_refl _) (by omega)
    rw [ofF_congr (g := fun i => if i < 0 then ((some ⟨0, 0, none⟩, m, m) : Iw) else (none, 0, 0)) (fun i _ => by rw [if_neg (by omega)])] at h
    exact h, fun i hi => absurd hi (by omega), fun i j hi => absurd hi (by omega), fun i hi => absurd hi (by omega)⟩
  go_enter Try.func26, Try.ntmps26
  go_wp2
  generalize w.alloc (.cells (madeCells #[.slice none 0 0] m) 23) = w1 at *
  obtain ⟨h, hh⟩ : ∃ h, w.heap.size = h := ⟨_, rfl⟩
  rw [hh] at hg1 hb1 ⊢
  have Hh := Lib.hid hh
  clear hmkq
  go_loopg [6] m (fun gk i wr => ∃ (j : Nat) (rows : Nat → Nat), j ≤ m ∧ gk = m - j ∧ i = .int .i64 j ∧ Grid wr h m j h rows d0F ∧ Below h w wr)
  case atStart => exact ⟨0, _, Nat.zero_le _, rfl, rfl, hg1, hb1⟩
  case round =>
    clear hg1 hb1
    obtain ⟨j, rows, hj, rfl, rfl, hg, hb⟩ := hrel
    by_cases hlt : j < m
    · have hh1 := hg.hlt
      obtain ⟨q1, q2⟩ := hg.hdr.cellQ hlt
      rw [if_neg (Nat.lt_irrefl j)] at q1
      have hg2 := hg.next hlt (by omega)
      have hb2 := (hb.setCell (p := ⟨h, j, none⟩) (Nat.le_refl _) (.slice (some ⟨wr.heap.size, 0, none⟩) m m)).alloc (by simp [World.setCell]; omega) (.cells (madeCells #[.int .i64 0] m) 3)
      have hji : (j : Int) < (m : Int) := by omega
      have hj0 : (0 : Int) ≤ (j : Int) := by omega
      clear hg hb
      go_wp2
      generalize (wr.setCell ⟨h, j, none⟩ (.slice (some ⟨wr.heap.size, 0, none⟩) m m)).alloc (.cells (madeCells #[.int .i64 0] m) 3) = w2 at *
      obtain ⟨rows2, hrows2⟩ : ∃ r, (fun i => if i = j then wr.heap.size else rows i) = r := ⟨_, rfl⟩
      rw [hrows2] at hg2
      have hg3 : Grid w2 h m (j + 1) h rows2 (d1F j 0) := hg2.congr (fun a b ha hb => by
        unfold d1F
        by_cases e : a = j
        · simp [e]
        · simp [e])
      clear hg2 hrows2 q1 q2
      go_loopg [7] m (fun gk i wr => ∃ k : Nat, k ≤ m ∧ gk = m - k ∧ i = .int .i64 k ∧ Grid wr h m (j + 1) h rows2 (d1F j k) ∧ Below h w wr)
      case atStart => exact ⟨0, Nat.zero_le _, rfl, rfl, hg3, hb2⟩
      case round =>
        clear hg3 hb2
        obtain ⟨k, hk, rfl, rfl, hg, hb⟩ := hrel
        by_cases hlt2 : k < m
        · have hki : (k : Int) < (m : Int) := by omega
          have hk0 : (0 : Int) ≤ (k : Int) := by omega
          by_cases ejk : j = k
          · have hne : ((j : Int) != (k : Int)) = false := by simp; omega
            have hg4 : Grid wr h m (j + 1) h rows2 (d1F j (k + 1)) := hg.congr (fun a b ha hb => by
              unfold d1F
              by_cases e : a = j
              · simp only [if_pos e]
                by_cases e2 : b < k ∧ b ≠ j
                · rw [if_pos e2, if_pos ⟨by omega, e2.2⟩]
                · rw [if_neg e2, if_neg (by omega)]
              · simp only [if_neg e])
            clear hg
            go_wp2
            go_roundg (m - (k + 1))
            case rel => exact ⟨k + 1, by omega, rfl, by go_num, hg4, hb⟩
            case measure => omega
          · have hne : ((j : Int) != (k : Int)) = true := by simp; omega
            have c0 := hg.head (show j < j + 1 by omega) hlt
            obtain ⟨c1, c2⟩ := hg.at_ (show j < j + 1 by omega) hlt2
            obtain ⟨hg4, hB4⟩ := hg.set (show j < j + 1 by omega) hlt2 (-1000000000000)
            have hb4 := hB4 h w (Nat.le_refl _) hb
            have hg5 : Grid (wr.setCell ⟨rows2 j, k, none⟩ (.int .i64 (-1000000000000))) h m (j + 1) h rows2 (d1F j (k + 1)) := hg4.congr (fun a b ha hb => by
              by_cases e : a = j ∧ b = k
              · obtain ⟨rfl, rfl⟩ := e
                rw [fs_same]; unfold d1F; rw [if_pos rfl, if_pos ⟨by omega, fun h => ejk h.symm⟩]
              · rw [fs_other _ _ _ _ e]
                unfold d1F
                by_cases e1 : a = j
                · simp only [if_pos e1]
                  by_cases e2 : b < k ∧ b ≠ j
                  · rw [if_pos e2, if_pos ⟨by omega, e2.2⟩]
                  · rw [if_neg e2, if_neg (by omega)]
                · simp only [if_neg e1])
            clear hg hg4 hB4 hb
            go_wp2
            go_roundg (m - (k + 1))
            case rel => exact ⟨k + 1, by omega, rfl, by go_num, hg5, hb4⟩
            case measure => omega
        · have e : k = m := by omega
          subst e
          have hg4 : Grid wr h k (j + 1) h rows2 d0F := hg.congr (fun a b ha hb => by
            unfold d1F d0F
            by_cases e : a = j
            · simp only [if_pos e]
              by_cases e2 : a = b
              · rw [if_neg (by omega), if_pos e2]
              · rw [if_pos (by omega), if_neg e2]
            · simp only [if_neg e])
          clear hg
          go_wp2
          go_roundg (k - (j + 1))
          case rel => exact ⟨j + 1, rows2, by omega, rfl, by go_num, hg4, hb⟩
          case measure => omega
    · have e : m = j := by omega
      subst e
      have hh2 := hg.hlt
      have hlw := hl.keep (flat_lasts _) (w' := wr) (B' := wr.heap.size) (by omega) (fun p hp => hb.cell (by omega))
      go_wp2_with fail
      refine (Hst.out _ hlw).mono ?_
      rintro e w3 ⟨v3, rfl, ho3, hb3⟩
      have hg3 := hg.below hb3
      have hb03 : Below h w w3 := hb.trans (hb3.mono (Nat.le_of_lt hh2.2))
      obtain ⟨As, cs, rfl, rs⟩ := ho3.rd tSized (by rw [HN.out]; omega)
      rw [HN.out] at rs ⊢
      have hAs : ∀ b off, As = some ⟨b, off, none⟩ → wr.heap.size ≤ b := fun b off e => (ho3.lt b (by rw [e]; rfl)).1
      have hFe : Fe m alr 0 d0F := HF0.out
      obtain ⟨R, hR⟩ : ∃ R, wr.heap.size = R := ⟨_, rfl⟩
      have hrows : ∀ i, i < m → rows i < R := fun i hi => by rw [← hR]; exact (hg.rlt hi).2
      have hAs2 : ∀ b off, As = some ⟨b, off, none⟩ → R ≤ b := fun b off e => by rw [← hR]; exact hAs b off e
      clear hg hb hlw ho3 hb3 hAs hR hh2
      go_wp2
      go_loopg [9] N (fun gk i wr => ∃ (e : Nat) (D : Nat → Nat → Int), e ≤ N ∧ gk = N - e ∧ i = .int .i64 e ∧ Grid wr h m m h rows D ∧ Fe m alr e D ∧ RdT wr wr.heap.size As N cs alr ∧ Below h w wr)
      case atStart => exact ⟨0, d0F, Nat.zero_le _, rfl, rfl, hg3, hFe, rs, hb03⟩
      case round =>
        clear hg3 hFe rs hb03
        obtain ⟨e, D, he, rfl, rfl, hg, hFe, rs, hb⟩ := hrel
        have HFe := Lib.hid hFe
        clear hFe
        by_cases hlt : e < N
        · obtain ⟨b, off, x, y, z, rfl, hbB, hx, c0, c1, c2⟩ := rs.atT hlt
          have hos := Hokr.out e (by rw [HN.out]; exact hlt)
          have ha := aAt_eq hx
          rw [ha] at hos
          have ⟨⟨q1, q2⟩, ⟨q3, q4⟩, q5, q6, q7⟩ := hos
          simp only at q1 q2 q3 q4 q5 q6 q7
          obtain ⟨f, rfl⟩ := Int.eq_ofNat_of_zero_le q1
          obtain ⟨t, rfl⟩ := Int.eq_ofNat_of_zero_le q3
          have hfm : f < m := by omega
          have htm : t < m := by omega
          have hstep := HFe.out.step Hokr.out (by rw [HN.out]; exact hlt)
          rw [ha] at hstep
          simp only [sF, sT, sG, Int.toNat_natCast] at hstep
          have k0 := hg.head hfm hfm
          obtain ⟨k1, k2⟩ := hg.at_ hfm htm
          obtain ⟨X, hX⟩ : ∃ X, D f t = X := ⟨_, rfl⟩
          obtain ⟨Y, hY⟩ : ∃ Y, max X z = Y := ⟨_, rfl⟩
          rw [hX] at k1 hstep
          rw [hY] at hstep
          obtain ⟨hg4, hB4⟩ := hg.set hfm htm Y
          have hb4 := hB4 h w (Nat.le_refl _) hb
          have hbr : b ≠ rows f := fun e => by
            have := hAs2 b off rfl
            have := hrows f hfm
            omega
          have rs4 := rs.keptS (grown_kept (grown_set wr (rows f) t (.int .i64 Y))) (Nat.le_refl _) (grown_kept (grown_set wr (rows f) t (.int .i64 Y))).size (fun hp b' off' e h => by
            injection e with e; injection e with e1 e2
            have h' : rows f = b' := by simpa using h
            omega)
          have hei : (e : Int) < (N : Int) := by omega
          have he0 : (0 : Int) ≤ (e : Int) := by omega
          have hf0 : (0 : Int) ≤ (f : Int) := by omega
          have ht0 : (0 : Int) ≤ (t : Int) := by omega
          have Hstep := Lib.hid hstep
          clear hstep hX ha hx hos hB4 hg
          go_wp2_with fail
          go_still_tail 35, (by kernel_rfl)
          change wpList _ _ _ _ _ wr.drew
          go_wp2
          go_roundg (N - (e + 1))
          case rel => exact ⟨e + 1, _, by omega, rfl, by go_num, hg4.drew, Hstep.out, rs4, hb4.drew⟩
          case measure => omega
        · have ee : e = N := by omega
          subst ee
          have hFw : Fw m all 0 D := HFw.out D (by rw [HN.out]; exact HFe.out)
          clear rs HFe
          go_wp2
          go_loopg [10] m (fun gk i wr => ∃ (b : Nat) (D : Nat → Nat → Int), b ≤ m ∧ gk = m - b ∧ i = .int .i64 b ∧ Grid wr h m m h rows D ∧ Fw m all b D ∧ (1 ≤ b → ∀ x, x < m → D x x ≤ 0) ∧ Below h w wr)
          case atStart => exact ⟨0, D, Nat.zero_le _, rfl, rfl, hg, hFw, (fun h => absurd h (by omega)), hb⟩
          case round =>
            clear hFw hg hb
            obtain ⟨b, D, hbm, rfl, rfl, hg, hFw, hdg, hb⟩ := hrel
            have HFw2 := Lib.hid hFw; have Hdg := Lib.hid hdg
            clear hFw hdg
            by_cases hlt : b < m
            · have hbi : (b : Int) < (m : Int) := by omega
              have hb0 : (0 : Int) ≤ (b : Int) := by omega
              have hph := HFw2.out.begin
              go_wp2
              go_loopg [11] m (fun gk v wr => ∃ (i : Nat) (E : Nat → Nat → Int), i ≤ m ∧ gk = m - i ∧ v = .int .i64 i ∧ Grid wr h m m h rows E ∧ Ph m all b D E i 0 ∧ Below h w wr)
              case atStart => exact ⟨0, D, Nat.zero_le _, rfl, rfl, hg, hph, hb⟩
              case round =>
                clear hph hg hb
                obtain ⟨i, E, him, rfl, rfl, hg, hph, hb⟩ := hrel
                have Hph := Lib.hid hph
                clear hph
                by_cases hlt2 : i < m
                · have hii : (i : Int) < (m : Int) := by omega
                  have hi0' : (0 : Int) ≤ (i : Int) := by omega
                  go_wp2
                  go_loopg [12] m (fun gk v wr => ∃ (k : Nat) (E : Nat → Nat → Int), k ≤ m ∧ gk = m - k ∧ v = .int .i64 k ∧ Grid wr h m m h rows E ∧ Ph m all b D E i k ∧ Below h w wr)
                  case atStart => exact ⟨0, E, Nat.zero_le _, rfl, rfl, hg, Hph.out, hb⟩
                  case round =>
                    clear hg hb Hph
                    obtain ⟨k, E, hkm, rfl, rfl, hg, hph, hb⟩ := hrel
                    have Hph := Lib.hid hph
                    clear hph
                    by_cases hlt3 : k < m
                    · have hki : (k : Int) < (m : Int) := by omega
                      have hk0 : (0 : Int) ≤ (k : Int) := by omega
                      have a0 := hg.head hlt2 hlt2
                      have a1 := hg.head hlt hlt
                      obtain ⟨x0, x1⟩ := hg.at_ hlt2 hlt
                      obtain ⟨y0, y1⟩ := hg.at_ hlt hlt3
                      obtain ⟨z0, z1⟩ := hg.at_ hlt2 hlt3
                      have l0 := Hph.out.low i k hlt2 hlt3
                      have l1 := Hph.out.low i b hlt2 hlt
                      have l2 := Hph.out.low b k hlt hlt3
                      have hpw : (2 : Int) ^ (b + 1) ≤ 16384 := by
                        have : ∀ c : Nat, c ≤ 14 → (2 : Int) ^ c ≤ 16384 := by decide
                        exact this (b + 1) (by omega)
                      obtain ⟨X0, hX0⟩ : ∃ X, E i k = X := ⟨_, rfl⟩
                      obtain ⟨X1, hX1⟩ : ∃ X, E i b = X := ⟨_, rfl⟩
                      obtain ⟨X2, hX2⟩ : ∃ X, E b k = X := ⟨_, rfl⟩
                      have hskip := fun h => Hph.out.skip h hlt2 hlt3 hlt
                      have hstep := fun h => Hph.out.step HFw2.out h hlt2 hlt3 hlt
                      rw [hX1, hX2] at hskip
                      rw [hX0, hX1, hX2] at hstep
                      rw [hX0] at l0 z0
                      rw [hX1] at l1 x0
                      rw [hX2] at l2 y0
                      have hc1 : -1000000000000 ≤ X1 ∧ X1 ≤ 1000000000000 := by
                        generalize (2 : Int) ^ (b + 1) = P at *
                        omega
                      have hc2 : -1000000000000 ≤ X2 ∧ X2 ≤ 1000000000000 := by
                        generalize (2 : Int) ^ (b + 1) = P at *
                        omega
                      clear l0 l1 l2 hpw hX0 hX1 hX2
                      by_cases hgo : -1000000000000 < X1 ∧ -1000000000000 < X2
                      · have hd1 : decide (-1000000000000 < X1) = true := by simp; omega
                        have hd2 : decide (-1000000000000 < X2) = true := by simp; omega
                        obtain ⟨c11, c12⟩ := hc1
                        obtain ⟨c21, c22⟩ := hc2
                        have hwS : IntKind.i64.wrap (X1 + X2) = X1 + X2 := IntWalk.i64_in _ (by omega)
                        have hstp := hstep hgo
                        obtain ⟨S, hS⟩ : ∃ S, X1 + X2 = S := ⟨_, rfl⟩
                        rw [hS] at hwS hstp
                        obtain ⟨Z, hZ⟩ : ∃ Z, min S 1000000000000 = Z := ⟨_, rfl⟩
                        rw [hZ] at hstp
                        obtain ⟨Y, hY⟩ : ∃ Y, max X0 Z = Y := ⟨_, rfl⟩
                        rw [hY] at hstp
                        have Hstp := Lib.hid hstp
                        obtain ⟨hg4, hB4⟩ := hg.set hlt2 hlt3 Y
                        have hb4 := hB4 h w (Nat.le_refl _) hb
                        clear hstp hstep hskip hg hB4 hgo
                        go_wp2_with fail
                        go_still_tail 30, (by kernel_rfl)
                        change wpList _ _ _ _ _ wr.drew
                        go_wp2
                        go_roundg (m - (k + 1))
                        case rel => exact ⟨k + 1, _, by omega, rfl, by go_num, hg4.drew, Hstp.out, hb4.drew⟩
                        case measure => omega
                      · have hsk := hskip hgo
                        have Hsk := Lib.hid hsk
                        have hd : decide (-1000000000000 < X1) = false ∨ (decide (-1000000000000 < X1) = true ∧ decide (-1000000000000 < X2) = false) := by
                          simp only [decide_eq_true_eq, decide_eq_false_iff_not]; omega
                        clear hsk hstep hskip hgo
                        rcases hd with hd | ⟨hd1, hd2⟩
                        all_goals
                          go_wp2
                          go_roundg (m - (k + 1))
                          case rel => exact ⟨k + 1, E, by omega, rfl, by go_num, hg, Hsk.out, hb⟩
                          case measure => omega
                    · have ee : k = m := by omega
                      subst ee
                      have hnx := Hph.out.next
                      have Hnx := Lib.hid hnx
                      clear hnx
                      go_wp2
                      go_roundg (k - (i + 1))
                      case rel => exact ⟨i + 1, E, by omega, rfl, by go_num, hg, Hnx.out, hb⟩
                      case measure => omega
                · have ee : i = m := by omega
                  subst ee
                  have hfin := Hph.out.fin Hok.out hm hlt HFw2.out
                  have Hfin := Lib.hid hfin
                  clear hfin
                  go_wp2
                  go_loopg [13] i (fun gk v wr2 => ∃ q : Nat, q ≤ i ∧ gk = i - q ∧ v = .int .i64 q ∧ (∀ x, x < q → E x x ≤ 0) ∧ wr = wr2)
                  case atStart => exact ⟨0, Nat.zero_le _, rfl, rfl, (fun x hx => absurd hx (by omega)), rfl⟩
                  case round =>
                    obtain ⟨q, hqm, rfl, rfl, hneg, rfl⟩ := hrel
                    have Hneg := Lib.hid hneg
                    clear hneg
                    by_cases hlt4 : q < i
                    · have hqi : (q : Int) < (i : Int) := by omega
                      have hq0 : (0 : Int) ≤ (q : Int) := by omega
                      have a0 := hg.head hlt4 hlt4
                      obtain ⟨x0, x1⟩ := hg.at_ hlt4 hlt4
                      obtain ⟨X, hX⟩ : ∃ X, E q q = X := ⟨_, rfl⟩
                      have HX := Lib.hid hX
                      rw [hX] at x0
                      clear hX
                      by_cases hpos : 0 < X
                      · have hd : decide (0 < X) = true := by simpa using hpos
                        have hno : ∀ F, Feas all F → False := fun F hF => by
                          have := Hfin.out.sound F hF q q hlt4 hlt4 (by rw [HX.out]; omega)
                          rw [HX.out] at this; omega
                        have Hno := Lib.hid hno
                        clear hno
                        go_wp2
                        go_ret
                        exact Hnil.out _ Hno.out (by rw [Hh.out]; exact hb)
                      · have hd : decide (0 < X) = false := by simpa using hpos
                        go_wp2
                        go_roundg (i - (q + 1))
                        case rel => exact ⟨q + 1, by omega, rfl, by go_num, (fun x hx => by
                          by_cases e : x = q
                          · subst e; rw [HX.out]; omega
                          · exact Hneg.out x (by omega)), rfl⟩
                        case measure => omega
                    · have ee : q = i := by omega
                      subst ee
                      go_wp2
                      go_roundg (q - (b + 1))
                      case rel => exact ⟨b + 1, E, by omega, rfl, by go_num, hg, Hfin.out, (fun _ => Hneg.out), hb⟩
                      case measure => omega
            · have ee : b = m := by omega
              subst ee
              go_wp2
              go_ret
              exact Hgrid.out _ h rows D (by rw [Hh.out]; exact hg) HFw2.out (Hdg.out m1') (by rw [Hh.out]; exact hb)
end Go.Proofs.Ythmnkmomgaamlaa
