/- Walk over Solve of package lags. Conditions stand in the theorem. -/
import Derived.Test.YthmnkmomgaamlaaR3
import Derived.Test.YthmnkmomgaamlaaR4
namespace Go.Proofs.Ythmnkmomgaamlaa
open Go.RowKit
set_option linter.unusedVariables false

theorem ofF_reverse {α : Type} (k : Nat) (f : Nat → α) : (ofF k f).reverse = ofF k (fun j => f (k - 1 - j)) := by
  apply List.ext_getElem?
  intro j
  by_cases hj : j < k
  · rw [List.getElem?_reverse (by rw [ofF_len]; exact hj), ofF_len, ofF_get (by omega), ofF_get hj]
  · rw [List.getElem?_eq_none (by rw [List.length_reverse, ofF_len]; omega), List.getElem?_eq_none (by rw [ofF_len]; omega)]
def SolveYes (w' : World) (M : Nat) (l : List Lg) (v1 v2 : Value) (er : Int) : Prop := er = 0 ∧ v2 = .slice none 0 0 ∧ ∃ (T : Nat → Int) (g : Nat), v1 = .slice (some ⟨g, 0, none⟩) M M ∧ RdI w' w'.heap.size (some ⟨g, 0, none⟩) M M (ofF M T) ∧ Least M (stepsF M l) T ∧ ∀ v, v < M → T v ≤ (((M + 1) * (stepsF M l).length : Nat) : Int) * 1048576
def SolveNo (w' : World) (M : Nat) (l : List Lg) (v1 v2 : Value) (er : Int) : Prop := er = 22 ∧ v1 = .slice none 0 0 ∧ ∃ (C : List St) (A : Option Addr) (k c : Nat), v2 = .slice A k c ∧ 1 ≤ k ∧ k ≤ M ∧ RdT w' w'.heap.size A k c C ∧ refF M l C = true ∧ ∃ B v, BadAt M (stepsF M l) B v
def SolvePost (w : World) (m : Int) (l : List Lg) (e : Ending) (w' : World) : Prop := ∃ v1 v2 er, e = .returned (.tuple #[v1, v2, .int .i64 er]) ∧ Below w.heap.size w w' ∧
  ((rightL m l = false ∧ v1 = .slice none 0 0 ∧ v2 = .slice none 0 0 ∧ er = 1) ∨ (rightL m l = true ∧ (SolveYes w' m.toNat l v1 v2 er ∨ SolveNo w' m.toNat l v1 v2 er)))
set_option maxRecDepth 100000 in
set_option maxHeartbeats 2000000 in
theorem solve_any (m : Int) (A : Option Addr) (n cap : Nat) (l : List Lg) (w : World) (hl : RdL w w.heap.size A n cap l) :
  Calls Try.prog 9 #[.int .i64 m, .slice A n cap] w (SolvePost w m l) := by
  have Hright := Lib.hid (fun w h => right_any m A n cap l w h)
  cases hr : rightL m l
  · have hpost : ∀ w', Below w.heap.size w w' → SolvePost w m l (.returned (.tuple #[.slice none 0 0, .slice none 0 0, .int .i64 1])) w' := fun w' hb => ⟨_, _, _, rfl, hb, Or.inl ⟨hr, rfl, rfl, rfl⟩⟩
    have Hpost := Lib.hid hpost
    have Hr := Lib.hid hr
    clear hpost hr
    go_enter Try.func9, Try.ntmps9
    go_wp2_with (go_at_call 16; refine (Hright.out _ hl).mono ?_; rw [Hr.out]; rintro e w1 ⟨rfl, hb1⟩)
    go_ret3
    exact Hpost.out _ hb1
  · obtain ⟨hm, hl2, -⟩ := rightL_iff hr
    obtain ⟨m, rfl⟩ := Int.eq_ofNat_of_zero_le (show 0 ≤ m by omega)
    have hm1 : 1 ≤ m ∧ m ≤ 200 := by omega
    have hYes : ∀ w' T g, Below w.heap.size w w' → RdI w' w'.heap.size (some ⟨g, 0, none⟩) m m (ofF m T) → Least m (stepsF m l) T → (∀ v, v < m → T v ≤ (((m + 1) * (stepsF m l).length : Nat) : Int) * 1048576) → SolvePost w m l (.returned (.tuple #[.slice (some ⟨g, 0, none⟩) m m, .slice none 0 0, .int .i64 0])) w' := fun w' T g hb h1 h2 h3 =>
      ⟨_, _, _, rfl, hb, Or.inr ⟨hr, Or.inl ⟨rfl, rfl, T, g, by rw [Int.toNat_natCast], by rw [Int.toNat_natCast]; exact h1, by rw [Int.toNat_natCast]; exact h2, by rw [Int.toNat_natCast]; exact h3⟩⟩⟩
    have hNo : ∀ w' C A k c B v, Below w.heap.size w w' → 1 ≤ k → k ≤ m → RdT w' w'.heap.size A k c C → refF m l C = true → BadAt m (stepsF m l) B v → SolvePost w m l (.returned (.tuple #[.slice none 0 0, .slice A k c, .int .i64 22])) w' := fun w' C A k c B v hb h1 h2 h3 h4 h5 =>
      ⟨_, _, _, rfl, hb, Or.inr ⟨hr, Or.inr ⟨rfl, rfl, C, A, k, c, rfl, h1, by rw [Int.toNat_natCast]; exact h2, h3, by rw [Int.toNat_natCast]; exact h4, B, v, by rw [Int.toNat_natCast]; exact h5⟩⟩⟩
    have Hok := Lib.hid (steps_okA hr)
    have Hz := Lib.hid (steps_zero (n := m) (l := l))
    have hsl := steps_len (n := m) (l := l)
    have Hcr := Lib.hid (fun B v k => circ_ref hr (B := B) (v := v) (k := k))
    have Hsteps := Lib.hid (fun w h => steps_any m A n cap l w h hr)
    have Hr := Lib.hid hr
    have HYes := Lib.hid hYes; have HNo := Lib.hid hNo
    clear hYes hNo hr
    generalize stepsF m l = all at *
    obtain ⟨N, hN⟩ : ∃ N, all.length = N := ⟨_, rfl⟩
    have hN5 : N ≤ 5000 := by omega
    have HN := Lib.hid hN
    obtain ⟨m1, m2⟩ := hm1
    have Hgrow := Lib.hid (fun A c w h => grow_any m A N c all w h Hok.out Hz.out ⟨m1, m2⟩ hN5)
    clear hsl hN
    obtain ⟨i0, hi0, hz0, hz1, hz2⟩ := info_parts step_info
    go_enter Try.func9, Try.ntmps9
    go_wp2_with (first
      | (go_at_call 16; refine (Hright.out _ hl).mono ?_; rw [Hr.out]; rintro e w1 ⟨rfl, hb1⟩
         have hl1 := hl.up (flat_lasts _) hb1)
      | (go_at_call 23; refine (Hsteps.out _ hl1).mono ?_; rintro e w2 ⟨v2, rfl, ho2, hb2⟩
         have hb02 := hb1.trans (hb2.mono hb1.size)
         obtain ⟨As, cs, rfl, rs⟩ := ho2.rd tSized (by rw [HN.out]; omega)
         rw [HN.out] at rs ⊢
         clear ho2 hb1 hb2))
    refine (Hgrow.out As cs _ rs).mono ?_
    rintro e w3 ⟨T, B, g1, g2, o, rfl, hoT, hoB, hTb, hcase, hb3⟩
    have hb03 := hb02.trans (hb3.mono hb02.size)
    have rs3 := rs.up (flat_lasts _) hb3
    obtain ⟨A1, c1, hv1, rT⟩ := hoT.rd iSized (by rw [ofF_len]; omega)
    obtain ⟨A2, c2, hv2, rB⟩ := hoB.rd iSized (by rw [ofF_len]; omega)
    rw [ofF_len] at hv1 hv2 rT rB
    injection hv1 with a1 a2 a3
    injection hv2 with b1 b2 b3
    subst a1 a3 b1 b3
    have HTb := Lib.hid hTb
    clear hTb hoT hoB hb3 a2 b2 rs hb02
    rcases hcase with ⟨rfl, hleast⟩ | ⟨v, hv, rfl, hbad⟩
    · have Hl := Lib.hid hleast
      clear hleast
      go_wp2
      go_ret3
      exact HYes.out _ T g1 hb03 rT Hl.out (fun v hv => by rw [HN.out]; exact HTb.out v hv)
    · have Hbad := Lib.hid hbad
      clear hbad
      have hd : decide ((v : Int) < 0) = false := by simp
      have hcaps := rs3.caps
      go_wp2
      go_loopg [10, 31] m (fun gk at' i wr => ∃ k : Nat, k ≤ m ∧ gk = m - k ∧ i = .int .i64 k ∧ at' = .int .i64 ((itp all B k v : Nat) : Int) ∧ w3 = wr)
      case atStart => exact ⟨0, Nat.zero_le _, rfl, rfl, rfl, rfl⟩
      case round =>
        obtain ⟨k, hk, rfl, rfl, rfl, rfl⟩ := hrel
        by_cases hlt : k < m
        · obtain ⟨p1, p2, p3⟩ := Hbad.out.1 k
          have hnext : itp all B (k + 1) v = sF (aAt all (B (itp all B k v))) := rfl
          obtain ⟨a, ha⟩ : ∃ a, itp all B k v = a := ⟨_, rfl⟩
          rw [ha] at p1 p2 p3 hnext ⊢
          obtain ⟨b', off', y, hA', hbB', hy, e0⟩ := rB.atI p1
          obtain ⟨-, ey⟩ := ofF_get_some hy
          subst ey
          rw [HN.out] at p2
          obtain ⟨b, off, x, y, z, rfl, hbB, hx, c0, c1, c2⟩ := rs3.atT p2
          rw [aAt_eq hx] at hnext
          have hos := okS_nat (Hok.out _ (by rw [HN.out]; exact p2))
          rw [aAt_eq hx] at hos
          have hxn := hos.2.2.2.2.2.1
          simp only at hxn
          injection hA' with hA'
          injection hA' with hA1 hA2
          subst hA1 hA2
          rw [Nat.zero_add] at e0
          have Hnext := Lib.hid (show x = ((itp all B (k + 1) v : Nat) : Int) by rw [hnext]; exact hxn)
          clear hnext hxn hos hx hy p3 ha
          generalize B a = q at *
          have h1 : (k : Int) < (m : Int) := by omega
          have h2 : (a : Int) < (m : Int) := by omega
          have h3 : (0 : Int) ≤ (a : Int) := by omega
          have h4 : (q : Int) < (N : Int) := by omega
          have h5 : (0 : Int) ≤ (q : Int) := by omega
          go_wp2
          go_roundg (m - (k + 1))
          case rel => exact ⟨k + 1, by omega, rfl, by go_num, by rw [Hnext.out], rfl⟩
          case measure => omega
        · have e : k = m := by omega
          subst e
          obtain ⟨hat, ⟨c, hc1, hc2, hc3⟩, hpos⟩ := Hbad.out
          obtain ⟨a, ha⟩ : ∃ a, itp all B k v = a := ⟨_, rfl⟩
          rw [itp_add, ha] at hc3
          have Hat := Lib.hid (fun j => (show itp all B j a < k ∧ B (itp all B j a) < all.length ∧ sT (aAt all (B (itp all B j a))) = itp all B j a by rw [← ha, ← itp_add]; exact hat _))
          have Hc3 := Lib.hid hc3
          have Hcr2 := Lib.hid (fun j h1 h2 (h3 : itp all B j a = a) => (show refF k l (circ all B a j).reverse = true by
            have := Hcr.out B v j Hbad.out h1 h2 (by rw [ha]; exact h3)
            rw [ha] at this; exact this))
          rw [ha]
          clear hat hpos hc3 ha
          go_wp2
          go_loopg [11, 12] (c + 1) (fun gk cv e wr => ∃ (j : Nat) (A' : Option Addr) (c' : Nat), j ≤ c ∧ gk = c + 1 - j ∧ e = .int .i64 ((itp all B j a : Nat) : Int) ∧ cv = .slice A' j c' ∧ Own 3 tEnc wr w3.heap.size 35 (.slice A' j c') (circ all B a j) ∧ (∀ i, 0 < i → i < j → itp all B i a ≠ a) ∧ Below w3.heap.size w3 wr)
          case atStart => exact ⟨0, none, 0, Nat.zero_le _, rfl, rfl, rfl, Own.nil, (fun i h1 h2 => absurd h2 (by omega)), Below.refl _ _⟩
          case round =>
            obtain ⟨j, A', c', hj, rfl, rfl, rfl, ho, hne, hb⟩ := hrel
            have Hne := Lib.hid hne
            clear hne
            have hgo : (j < c ∧ (((j : Int) == 0) = true ∨ (((j : Int) == 0) = false ∧ (((itp all B j a : Nat) : Int) != (a : Int)) = true))) ∨ (1 ≤ j ∧ itp all B j a = a) := by
              by_cases h0 : j = 0
              · left; subst h0; exact ⟨by omega, Or.inl (by simp)⟩
              · by_cases h1 : itp all B j a = a
                · exact Or.inr ⟨by omega, h1⟩
                · left
                  refine ⟨?_, Or.inr ⟨by simp; omega, by simp; omega⟩⟩
                  by_cases h2 : j = c
                  · subst h2; exact absurd Hc3.out h1
                  · omega
            rcases hgo with ⟨hjc, hgo⟩ | ⟨hj0, hja⟩
            · obtain ⟨p1, p2, p3⟩ := Hat.out j
              have hnext : itp all B (j + 1) a = sF (aAt all (B (itp all B j a))) := rfl
              have hcirc : circ all B a (j + 1) = circ all B a j ++ [aAt all (B (itp all B j a))] := ofF_succ
              have hne2 : ∀ i, 0 < i → i < j + 1 → (j = 0 ∨ itp all B j a ≠ a) → itp all B i a ≠ a := fun i h1 h2 h3 => by
                by_cases e : i = j
                · subst e; rcases h3 with h3 | h3
                  · omega
                  · exact h3
                · exact Hne.out i h1 (by omega)
              have hne3 : j = 0 ∨ itp all B j a ≠ a := by
                rcases hgo with h | ⟨_, h⟩
                · left; simp at h; exact h
                · right; simp at h; omega
              have Hne2 := Lib.hid (fun i h1 h2 => hne2 i h1 h2 hne3)
              obtain ⟨e, he⟩ : ∃ e, itp all B j a = e := ⟨_, rfl⟩
              have hsz := hb.size
              have hclen : (circ all B a j).length = j := ofF_len
              clear hne2 hne3
              rw [he] at p1 p2 p3 hnext hcirc hgo ⊢
              obtain ⟨b', off', y, hA', hbB', hy, e0⟩ := rB.atI p1
              obtain ⟨-, ey⟩ := ofF_get_some hy
              subst ey
              rw [HN.out] at p2
              obtain ⟨b, off, x, y, z, rfl, hbB, hx, c0, c1, c2⟩ := rs3.atT p2
              have ha := aAt_eq hx
              rw [ha] at hnext hcirc
              have hos := okS_nat (Hok.out _ (by rw [HN.out]; exact p2))
              rw [ha] at hos
              have hxn := hos.2.2.2.2.2.1
              simp only at hxn
              injection hA' with hA'
              injection hA' with hA1 hA2
              subst hA1 hA2
              rw [Nat.zero_add] at e0
              have Hnext := Lib.hid (show x = ((itp all B (j + 1) a : Nat) : Int) by rw [hnext]; exact hxn)
              have Hcirc := Lib.hid hcirc
              clear hnext hxn hos hx hy p3 he hcirc ha
              generalize B e = q at *
              have h2 : (e : Int) < (k : Int) := by omega
              have h3 : (0 : Int) ≤ (e : Int) := by omega
              have h4 : (q : Int) < (N : Int) := by omega
              have h5 : (0 : Int) ≤ (q : Int) := by omega
              have e0' := (hb.cell (p := ⟨g2, e, none⟩) hbB').trans e0
              have c0' := (hb.cell (p := ⟨b, off + q * 3, none⟩) hbB).trans c0
              have c1' := (hb.cell (p := ⟨b, off + q * 3 + 1, none⟩) hbB).trans c1
              have c2' := (hb.cell (p := ⟨b, off + q * 3 + 2, none⟩) hbB).trans c2
              rcases hgo with hgo | ⟨hgo1, hgo2⟩
              all_goals
                go_wp2_with (at_builtin
                             refine wpList_app1 tSized rfl _ _ 26 rfl w3.heap.size 35 i0 _ 24 Try.underlying26 hi0 hz0 hz1 hz2 rfl _ (circ all B a j) rfl ho (x, y, z) _ rfl wr.heap.size rfl rfl (by rw [hclen]; omega) (by omega) hsz ?_
                             intro v4 w4 ho4 hk4 hn4 hB4
                             have hb4 := hB4 _ _ (Nat.le_refl _) hb
                             have f0 := (hb4.cell (p := ⟨g2, e, none⟩) hbB').trans e0
                             have k0 := (hb4.cell (p := ⟨b, off + q * 3, none⟩) hbB).trans c0
                             rw [← Hcirc.out] at ho4
                             obtain ⟨A4, c4, rfl, -⟩ := ho4.rd tSized (by rw [circ, ofF_len]; omega)
                             rw [show (circ all B a (j + 1)).length = j + 1 from ofF_len] at ho4 ⊢)
                go_roundg (c + 1 - (j + 1))
                case rel => exact ⟨j + 1, A4, c4, by omega, rfl, by rw [Hnext.out], rfl, ho4, Hne2.out, hb4⟩
                case measure => omega
            · have href := Hcr2.out j hj0 (by omega) hja
              have hrev : (circ all B a j).reverse = ofF j (fun i => aAt all (B (itp all B (j - 1 - i) a))) := ofF_reverse j _
              have Hrev := Lib.hid hrev; have Href := Lib.hid href
              have hd1 : ((j : Int) == 0) = false := by simp; omega
              have hd2 : (((itp all B j a : Nat) : Int) != (a : Int)) = false := by rw [hja]; simp
              obtain ⟨g, c5, hv5, hg1, hg2, hg3, hg4, -, -⟩ := ho.form (by rw [circ, ofF_len]; omega)
              rw [show (circ all B a j).length = j from ofF_len] at hv5 hg3
              injection hv5 with e1 e2 e3
              subst e1 e3
              have hb0w := hb03.trans (hb.mono hb03.size)
              clear hrev href hja e2
              go_wp2_with fail
              refine (reverse_any g j c' w3.heap.size _ wr ho ⟨hj0, by omega⟩).mono ?_
              rintro e w5 ⟨rfl, ho5, hk5⟩
              have hb5 : Below w.heap.size w w5 := hb0w.trans (hk5.below hb0w.size (fun i hi => by have := hb03.size; omega))
              obtain ⟨A6, c6, hv6, r6⟩ := ho5.rd tSized (by rw [ofF_len]; omega)
              rw [ofF_len] at hv6 r6
              injection hv6 with f1 f2 f3
              subst f1 f3
              rw [← Hrev.out] at r6
              go_wp2
              go_ret3
              exact HNo.out _ _ _ _ _ B v hb5 hj0 (by omega) r6 Href.out Hbad.out
end Go.Proofs.Ythmnkmomgaamlaa
