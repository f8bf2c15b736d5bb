/- Walk over Latest of package lags. Conditions stand in the theorem. -/
import Derived.Test.YthmnkmomgaamlaaR9
namespace Go.Proofs.Ythmnkmomgaamlaa
open Go.RowKit
set_option linter.unusedVariables false

def LatPost (w : World) (m : Int) (l : List Lg) (en : Int) (e : Ending) (w' : World) : Prop := ∃ v er, e = .returned (.tuple #[v, .int .i64 er]) ∧ Below w.heap.size w w' ∧
  (((rightL m l = false ∨ en < 0 ∨ 1048576 < en) ∧ v = .slice none 0 0 ∧ er = 1) ∨ (rightL m l = true ∧ (0 ≤ en ∧ en ≤ 1048576) ∧
    ((er = 22 ∧ v = .slice none 0 0 ∧ ∃ B v, BadAt m.toNat (stepsF m.toNat l) B v) ∨ (er = 20 ∧ v = .slice none 0 0 ∧ ∃ T, Least m.toNat (stepsF m.toNat l) T ∧ ∃ i, i < m.toNat ∧ en < T i) ∨
     (er = 0 ∧ ∃ (L T : Nat → Int) (A : Option Addr) (c : Nat), v = .slice A m.toNat c ∧ RdI w' w'.heap.size A m.toNat c (ofF m.toNat L) ∧ Greatest m.toNat (stepsF m.toNat l) en L ∧ Least m.toNat (stepsF m.toNat l) T ∧ ∀ i, i < m.toNat → T i ≤ en ∧ T i ≤ L i))))

set_option maxRecDepth 100000 in
set_option maxHeartbeats 2000000 in
theorem latest_any (m : Int) (A : Option Addr) (n cap : Nat) (l : List Lg) (en : Int) (w : World) (hl : RdL w w.heap.size A n cap l) :
  Calls Try.prog 11 #[.int .i64 m, .slice A n cap, .int .i64 en] w (LatPost w m l en) := by
  have Hright := Lib.hid (fun w h => right_any m A n cap l w h)
  have hlen := hl.len
  cases hr : rightL m l
  · have hpost : ∀ w', Below w.heap.size w w' → LatPost w m l en (.returned (.tuple #[.slice none 0 0, .int .i64 1])) w' := fun w' hb => ⟨_, _, rfl, hb, Or.inl ⟨Or.inl hr, rfl, rfl⟩⟩
    have Hpost := Lib.hid hpost
    have Hr := Lib.hid hr
    clear hpost hr
    go_enter Try.func11, Try.ntmps11
    go_wp2_with (go_at_call 16; refine (Hright.out _ hl).mono ?_; rw [Hr.out]; rintro e w1 ⟨rfl, hb1⟩)
    go_ret2
    exact Hpost.out _ hb1
  by_cases hen : 0 ≤ en ∧ en ≤ 1048576
  case neg =>
    have hpost : ∀ w', Below w.heap.size w w' → LatPost w m l en (.returned (.tuple #[.slice none 0 0, .int .i64 1])) w' := fun w' hb => ⟨_, _, rfl, hb, Or.inl ⟨Or.inr (by omega), rfl, rfl⟩⟩
    have Hpost := Lib.hid hpost
    have Hr := Lib.hid hr
    have hd : decide (en < 0) = true ∨ (decide (en < 0) = false ∧ decide (1048576 < en) = true) := by
      simp only [decide_eq_true_eq, decide_eq_false_iff_not]; omega
    clear hpost hr hen
    rcases hd with hd | ⟨hd1, hd2⟩
    all_goals
      go_enter Try.func11, Try.ntmps11
      go_wp2_with (go_at_call 16; refine (Hright.out _ hl).mono ?_; rw [Hr.out]; rintro e w1 ⟨rfl, hb1⟩)
      go_ret2
      exact Hpost.out _ hb1
  obtain ⟨hm, hl2, -⟩ := rightL_iff hr
  obtain ⟨m, rfl⟩ := Int.eq_ofNat_of_zero_le (show 0 ≤ m by omega)
  have Hsolve := Lib.hid (fun w h => solve_any m A n cap l w h)
  have h22 : ∀ w' B v, Below w.heap.size w w' → BadAt m (stepsF m l) B v → LatPost w m l en (.returned (.tuple #[.slice none 0 0, .int .i64 22])) w' := fun w' B v hb h => ⟨_, _, rfl, hb, Or.inr ⟨hr, hen, Or.inl ⟨rfl, rfl, B, v, by rw [Int.toNat_natCast]; exact h⟩⟩⟩
  have h20 : ∀ w' T, Below w.heap.size w w' → Least m (stepsF m l) T → (∃ i, i < m ∧ en < T i) → LatPost w m l en (.returned (.tuple #[.slice none 0 0, .int .i64 20])) w' := fun w' T hb h h2 => ⟨_, _, rfl, hb, Or.inr ⟨hr, hen, Or.inr (Or.inl ⟨rfl, rfl, T, by rw [Int.toNat_natCast]; exact ⟨h, h2⟩⟩)⟩⟩
  have hok0 : ∀ w' L T A c, Below w.heap.size w w' → RdI w' w'.heap.size A m c (ofF m L) → Greatest m (stepsF m l) en L → Least m (stepsF m l) T → (∀ i, i < m → T i ≤ en ∧ T i ≤ L i) → LatPost w m l en (.returned (.tuple #[.slice A m c, .int .i64 0])) w' := fun w' L T A c hb h1 h2 h3 h4 =>
    ⟨_, _, rfl, hb, Or.inr ⟨hr, hen, Or.inr (Or.inr ⟨rfl, L, T, A, c, by rw [Int.toNat_natCast]; exact ⟨rfl, h1, h2, h3, h4⟩⟩)⟩⟩
  have Hok := Lib.hid (steps_okA hr)
  have hsl := steps_len (n := m) (l := l)
  have Hsteps := Lib.hid (fun w h => steps_any m A n cap l w h hr)
  have Hr := Lib.hid hr
  have H22 := Lib.hid h22; have H20 := Lib.hid h20; have H0 := Lib.hid hok0
  have hSR : ∀ w' e, SolvePost w m l e w' → ∃ v1 v2 er, e = .returned (.tuple #[v1, v2, .int .i64 er]) ∧ Below w.heap.size w w' ∧ (SolveYes w' m l v1 v2 er ∨ SolveNo w' m l v1 v2 er) := fun w' e ⟨v1, v2, er, he, hb, h⟩ => ⟨v1, v2, er, he, hb, by
    rcases h with ⟨h, _⟩ | ⟨_, h⟩
    · rw [hr] at h; cases h
    · rw [Int.toNat_natCast] at h; exact h⟩
  have hSR2 : ∀ w0 w' e, SolvePost w0 m l e w' → ∃ v1 v2 er, e = .returned (.tuple #[v1, v2, .int .i64 er]) ∧ Below w0.heap.size w0 w' ∧ (SolveYes w' m l v1 v2 er ∨ SolveNo w' m l v1 v2 er) := fun w0 w' e ⟨v1, v2, er, he, hb, h⟩ => ⟨v1, v2, er, he, hb, by
    rcases h with ⟨h, _⟩ | ⟨_, h⟩
    · rw [hr] at h; cases h
    · rw [Int.toNat_natCast] at h; exact h⟩
  have HSR := Lib.hid hSR2
  clear h22 h20 hok0 hr hSR hSR2
  obtain ⟨e1, e2⟩ := hen
  have hd1 : decide (en < 0) = false := by simpa using e1
  have hd2 : decide (1048576 < en) = false := by simpa using e2
  unfold SolveYes SolveNo at HSR
  generalize stepsF m l = all at *
  obtain ⟨N, hN⟩ : ∃ N, all.length = N := ⟨_, rfl⟩
  rw [hN, hlen] at hsl
  rw [hlen] at hl2
  have HN := Lib.hid hN
  have hN5 : N ≤ 5000 := by omega
  clear hsl hN hlen
  have hm1 : 1 ≤ m ∧ m ≤ 200 := by omega
  obtain ⟨m1, m2⟩ := hm1
  go_enter Try.func11, Try.ntmps11
  go_wp2_with (go_at_call 16; refine (Hright.out _ hl).mono ?_; rw [Hr.out]; rintro e w1 ⟨rfl, hb1⟩
               have hl1 := hl.up (flat_lasts _) hb1)
  refine (Hsolve.out _ hl1).mono ?_
  intro e w2 hsp
  obtain ⟨v1, v2, er, rfl, hb2, hcase⟩ := HSR.out _ _ _ hsp
  have hb02 := hb1.trans (hb2.mono hb1.size)
  clear hsp hb2 hb1 hl1
  rcases hcase with ⟨rfl, rfl, T, g, rfl, rT, hT, hTb⟩ | ⟨rfl, rfl, C, AC, k, c, rfl, hk1, hk2, rC, href, B, v, hbad⟩
  case inr =>
    have Hbad := Lib.hid hbad
    clear hbad href
    go_wp2
    go_ret2
    exact H22.out _ B v hb02 Hbad.out
  have HT := Lib.hid hT
  clear hT hTb
  go_wp2_with fail
  refine (max_any _ m m T w2 rT m1).mono ?_
  rintro e w3 ⟨M, rfl, hM1, hM2, rfl⟩
  by_cases hlate : en < M
  · have hex : ∃ i, i < m ∧ en < T i := by
      obtain ⟨i, hi, e⟩ := hM2
      exact ⟨i, hi, by omega⟩
    have Hex := Lib.hid hex
    have hdl : decide (en < M) = true := by simpa using hlate
    clear hM1 hM2 hex
    go_wp2
    go_ret2
    exact H20.out _ T hb02 HT.out Hex.out
  have hTe : ∀ v, v < m → T v ≤ en := fun v hv => by have := hM1 v hv; omega
  have hls := Ls.start HT.out hTe e1
  have Hls := Lib.hid hls
  have HTe := Lib.hid hTe
  have hdl : decide (en < M) = false := by simpa using hlate
  clear hM1 hM2 hlate hls hTe
  have hlit := Rd.litG iSized (w := w2) 3 [en] #[.int .i64 en] 1 w2.heap.size rfl rfl rfl (by omega)
  have hbl := (Below.refl w2.heap.size w2).alloc (Nat.le_refl _) (.cells #[.int .i64 en] 3)
  go_wp2_with fail
  refine (repeat_any en _ 1 m _ hlit m1 (by omega)).mono ?_
  rintro e w4 ⟨v4, rfl, ho4, hb4⟩
  have hb24 : Below w2.heap.size w2 w4 := hbl.trans (hb4.mono hbl.size)
  have hb04 := hb02.trans (hb24.mono hb02.size)
  have ho4' : Own 1 iEnc w4 w2.heap.size 3 v4 (ofF m (fun _ => en)) := by rw [← ofF_rep]; exact ho4.mono hbl.size
  clear hlit hbl hb4 ho4
  obtain ⟨g4, c4, rfl, hg1, hg2, hg3, hg4, hf4, -⟩ := ho4'.form (by rw [ofF_len]; omega)
  rw [ofF_len] at ho4' hg3 ⊢
  obtain ⟨z0, z1⟩ := ho4'.cellI (i := 0) (by omega)
  have ho5 := ho4'.setI (i := 0) (by omega) 0
  have hb5 := hb24.setCell (p := ⟨g4, 0, none⟩) hg1 (.int .i64 0)
  have h0m : (0 : Int) < (m : Int) := by omega
  have hg5 : g4 < (w4.setCell ⟨g4, 0, none⟩ (.int .i64 0)).heap.size := by simp [World.setCell]; omega
  clear hf4 hb24 hb04 rT
  go_wp2_with fail
  refine (Hsteps.out _ (hl.up (flat_lasts _) (hb02.trans (hb5.mono hb02.size)))).mono ?_
  rintro e w6 ⟨v6, rfl, ho6, hb6⟩
  have ho6' := ho5.below hb6
  obtain ⟨As, cs, rfl, rs⟩ := ho6.rd tSized (by rw [HN.out]; omega)
  rw [HN.out] at rs ⊢
  have hg6 : g4 < w6.heap.size := Nat.lt_of_lt_of_le hg5 hb6.size
  have hsb : ∀ b off, As = some ⟨b, off, none⟩ → 0 < N → b ≠ g4 := fun b off e hp h => by
    have := (ho6.lt b (by rw [e]; rfl)).1
    rw [h] at this; omega
  have hb26 : Below w2.heap.size w2 w6 := hb5.trans (hb6.mono hb5.size)
  have hncs := rs.caps
  clear ho6 hb6 hb5 ho5 z0 z1 ho4' hg5
  go_wp2
  go_loopg [13] (pot m T (fun v => if v = 0 then 0 else en) + 1) (fun gk calm wr => ∃ (L : Nat → Int) (cb : Bool), gk = (if cb = true then 0 else pot m T L + 1) ∧ calm = .bool cb ∧ Own 1 iEnc wr w2.heap.size 3 (.slice (some ⟨g4, 0, none⟩) m c4) (ofF m L) ∧ Ls m all T en L ∧ (cb = true → Feas all L) ∧ RdT wr wr.heap.size As N cs all ∧ g4 < wr.heap.size ∧ Below w2.heap.size w2 wr)
  case atStart => exact ⟨_, false, by simp, rfl, ho6', Hls.out, (fun h => by cases h), rs, hg6, hb26⟩
  case round =>
    clear hb26 hg6 ho6' rs
    obtain ⟨L, cb, hgk, rfl, ho, hLs, hfe, rs, hg6, hb26⟩ := hrel
    have HLs := Lib.hid hLs; have Hfe := Lib.hid hfe
    clear hLs hfe
    cases cb
    · simp only [Bool.false_eq_true, if_false] at hgk
      subst hgk
      go_wp2
      go_loopg [13, 55] N (fun gk calm i w8 => ∃ (j : Nat) (L' : Nat → Int) (cb : Bool), j ≤ N ∧ gk = N - j ∧ i = .int .i64 j ∧ calm = .bool cb ∧ Own 1 iEnc w8 w2.heap.size 3 (.slice (some ⟨g4, 0, none⟩) m c4) (ofF m L') ∧ Ls m all T en L' ∧ (cb = true → ∀ e, e < j → e < all.length → L' (sF (aAt all e)) + sG (aAt all e) ≤ L' (sT (aAt all e))) ∧ (cb = true → L' = L) ∧ pot m T L' ≤ pot m T L ∧ (cb = false → pot m T L' < pot m T L) ∧ RdT w8 w8.heap.size As N cs all ∧ g4 < w8.heap.size ∧ Below w2.heap.size w2 w8)
      case atStart => exact ⟨0, L, true, Nat.zero_le _, rfl, rfl, rfl, ho, HLs.out, (fun _ e h => absurd h (by omega)), (fun _ => rfl), Nat.le_refl _, (fun h => by cases h), rs, hg6, hb26⟩
      case round =>
        clear hb26 hg6 ho rs
        obtain ⟨j, L', cb, hj, rfl, rfl, rfl, ho, hL', hsat, hsame, hp1, hp2, rs, hg6, hb26⟩ := hrel
        have HL := Lib.hid hL'; have Hsat := Lib.hid hsat; have Hsame := Lib.hid hsame; have Hp1 := Lib.hid hp1; have Hp2 := Lib.hid hp2
        clear hL' hsat hsame hp1 hp2
        by_cases hlt : j < N
        · obtain ⟨b, off, x, y, z, rfl, hbB, hx, c0, c1, c2⟩ := rs.atT hlt
          have hos := Hok.out j (by rw [HN.out]; exact hlt)
          have ha := aAt_eq hx
          rw [ha] at hos
          have ⟨⟨q1, q2⟩, ⟨q3, q4⟩, q5, q6, q7⟩ := hos
          simp only at q1 q2 q3 q4 q5 q6 q7
          obtain ⟨f, rfl⟩ := Int.eq_ofNat_of_zero_le q1
          obtain ⟨t, rfl⟩ := Int.eq_ofNat_of_zero_le q3
          have hfm : f < m := by omega
          have htm : t < m := by omega
          have b1 := HL.out.le f hfm
          have b2 := HL.out.le t htm
          have b3 := HL.out.ge f hfm
          have b4 := HL.out.ge t htm
          have b5 := HT.out.2.2.1 f hfm
          have b6 := HT.out.2.2.1 t htm
          obtain ⟨TF, hTF⟩ : ∃ x, L' f = x := ⟨_, rfl⟩
          obtain ⟨TT, hTT⟩ : ∃ x, L' t = x := ⟨_, rfl⟩
          have ho2 := ho.alloc (.cells #[.int .i64 f, .int .i64 t, .int .i64 z] 35)
          obtain ⟨u1, u2⟩ := ho2.cellI hfm
          obtain ⟨u3, u4⟩ := ho2.cellI htm
          have hb2 := hb26.alloc hb26.size (.cells #[.int .i64 f, .int .i64 t, .int .i64 z] 35)
          have rs2 := rs.up (flat_lasts _) ((Below.refl wr.heap.size wr).alloc (Nat.le_refl _) (.cells #[.int .i64 f, .int .i64 t, .int .i64 z] 35))
          have hgg : g4 < (wr.alloc (.cells #[.int .i64 f, .int .i64 t, .int .i64 z] 35)).heap.size := by simp; omega
          have d0 : (wr.alloc (.cells #[.int .i64 f, .int .i64 t, .int .i64 z] 35)).cell? ⟨wr.heap.size, 0, none⟩ = some (.int .i64 f) := new_cell rfl rfl
          have d1 : (wr.alloc (.cells #[.int .i64 f, .int .i64 t, .int .i64 z] 35)).cell? ⟨wr.heap.size, 1, none⟩ = some (.int .i64 t) := new_cell rfl rfl
          have d2 : (wr.alloc (.cells #[.int .i64 f, .int .i64 t, .int .i64 z] 35)).cell? ⟨wr.heap.size, 2, none⟩ = some (.int .i64 z) := new_cell rfl rfl
          rw [hTF] at u1 b1 b3
          rw [hTT] at u3 b2 b4
          have HTF := Lib.hid hTF; have HTT := Lib.hid hTT; have Ha := Lib.hid ha
          have hji : (j : Int) < (N : Int) := by omega
          have hj0 : (0 : Int) ≤ (j : Int) := by omega
          have hf0 : (0 : Int) ≤ (f : Int) := by omega
          have ht0 : (0 : Int) ≤ (t : Int) := by omega
          have hwz : IntKind.i64.wrap (TT - z) = TT - z := IntWalk.i64_in _ (by omega)
          have hbg : b ≠ g4 := hsb b off rfl (by omega)
          have hgw : w2.heap.size ≤ g4 := hg1
          clear hTF hTT ha hx hos ho hb26 rs
          by_cases hgt : TT - z < TF
          · have hd : decide (TT - z < TF) = true := by simpa using hgt
            have hdown := HL.out.down HT.out Hok.out (i := j) (by rw [HN.out]; exact hlt) (by rw [Ha.out]; simp only [sF, sT, sG, Int.toNat_natCast]; rw [HTF.out, HTT.out]; exact hgt)
            rw [Ha.out] at hdown
            simp only [sF, sT, sG, Int.toNat_natCast] at hdown
            rw [HTT.out] at hdown
            have hpot := pot_down (n := m) (T := T) (L := L') (L' := fun v => if v = f then TT - z else L' v) hfm (by rw [if_pos rfl, HTF.out]; exact hgt) (fun v hv => by
              by_cases e : v = f
              · rw [if_pos e, e, HTF.out]; omega
              · rw [if_neg e]; exact Int.le_refl _) hdown.ge
            have Hdown := Lib.hid hdown; have Hpot := Lib.hid (Nat.lt_of_lt_of_le hpot Hp1.out)
            clear hdown hpot
            go_wp2
            go_quiet (fail)
            rename_i nq
            have ho5 := ho2.drewN nq
            have hb5 := below_drewN hb2 nq
            have rs5 := rs2.drewN (flat_lasts _) nq
            have u1' : ((wr.alloc (.cells #[.int .i64 f, .int .i64 t, .int .i64 z] 35)).drewN nq).cell? ⟨g4, f, none⟩ = some (.int .i64 TF) := u1
            have u2' : ((wr.alloc (.cells #[.int .i64 f, .int .i64 t, .int .i64 z] 35)).drewN nq).frozen? ⟨g4, f, none⟩ = false := u2
            have u3' : ((wr.alloc (.cells #[.int .i64 f, .int .i64 t, .int .i64 z] 35)).drewN nq).cell? ⟨g4, t, none⟩ = some (.int .i64 TT) := u3
            have d0' : ((wr.alloc (.cells #[.int .i64 f, .int .i64 t, .int .i64 z] 35)).drewN nq).cell? ⟨wr.heap.size, 0, none⟩ = some (.int .i64 f) := d0
            have d1' : ((wr.alloc (.cells #[.int .i64 f, .int .i64 t, .int .i64 z] 35)).drewN nq).cell? ⟨wr.heap.size, 1, none⟩ = some (.int .i64 t) := d1
            have d2' : ((wr.alloc (.cells #[.int .i64 f, .int .i64 t, .int .i64 z] 35)).drewN nq).cell? ⟨wr.heap.size, 2, none⟩ = some (.int .i64 z) := d2
            have hgg' : g4 < ((wr.alloc (.cells #[.int .i64 f, .int .i64 t, .int .i64 z] 35)).drewN nq).heap.size := hgg
            have hsz5 : ((wr.alloc (.cells #[.int .i64 f, .int .i64 t, .int .i64 z] 35)).drewN nq).heap.size = (wr.alloc (.cells #[.int .i64 f, .int .i64 t, .int .i64 z] 35)).heap.size := rfl
            rw [← hsz5] at rs5
            clear ho2 hb2 rs2 u1 u2 u3 u4 d0 d1 d2 hgg hsz5
            generalize (wr.alloc (.cells #[.int .i64 f, .int .i64 t, .int .i64 z] 35)).drewN nq = w5 at *
            go_wp2_with fail
            go_region
            have ho6 := (ho5.setI hfm (TT - z)).drew
            have hb6 := (hb5.setCell (p := ⟨g4, f, none⟩) hgw (.int .i64 (TT - z))).drew
            have hk6 := (grown_kept (grown_set w5 g4 f (.int .i64 (TT - z)))).drew
            have rs6 := rs5.keptS hk6 (Nat.le_refl _) hk6.size (fun hp b' off' e h => by
              injection e with e; injection e with e1 e2
              have h' : g4 = b' := by simpa using h
              omega)
            have hgg6 : g4 < (w5.setCell ⟨g4, f, none⟩ (.int .i64 (TT - z))).drew.heap.size := Nat.lt_of_lt_of_le hgg' hk6.size
            clear ho5 hb5 rs5 u1' u2' u3' d0' d1' d2' hk6
            generalize (w5.setCell ⟨g4, f, none⟩ (.int .i64 (TT - z))).drew = w6 at *
            go_wp2
            go_roundg (N - (j + 1))
            case rel => exact ⟨j + 1, _, false, by omega, rfl, by go_num, rfl, ho6, Hdown.out, (fun h => by cases h), (fun h => by cases h), Nat.le_of_lt Hpot.out, (fun _ => Hpot.out), rs6, hgg6, hb6⟩
            case measure => omega
            all_goals exact (0 : Nat)
          · have hd : decide (TT - z < TF) = false := by simpa using hgt
            have hsat2 : cb = true → ∀ e, e < j + 1 → e < all.length → L' (sF (aAt all e)) + sG (aAt all e) ≤ L' (sT (aAt all e)) := fun h e he hl => by
              by_cases ee : e = j
              · subst ee
                rw [Ha.out]; simp only [sF, sT, sG, Int.toNat_natCast]; rw [HTF.out, HTT.out]; omega
              · exact Hsat.out h e (by omega) hl
            have Hsat2 := Lib.hid hsat2
            clear hsat2
            go_wp2
            go_quiet (fail)
            go_wp2
            go_roundg (N - (j + 1))
            case rel => exact ⟨j + 1, L', cb, by omega, rfl, by go_num, rfl, ho2.drewN _, HL.out, Hsat2.out, Hsame.out, Hp1.out, Hp2.out, rs2.drewN (flat_lasts _) _, hgg, below_drewN hb2 _⟩
            case measure => omega
        · have e : j = N := by omega
          subst e
          cases cb
          · have hp := Hp2.out rfl
            have Hp := Lib.hid hp
            clear hp
            go_wp2
            go_roundg (pot m T L' + 1)
            case rel => exact ⟨L', false, by simp, rfl, ho, HL.out, (fun h => by cases h), rs, hg6, hb26⟩
            case measure => have := Hp.out; omega
          · have hfe : Feas all L' := fun e he => Hsat.out rfl e (by rw [← HN.out]; exact he) he
            have Hfe2 := Lib.hid hfe
            clear hfe
            go_wp2
            go_roundg 0
            case rel => exact ⟨L', true, by simp, rfl, ho, HL.out, (fun _ => Hfe2.out), rs, hg6, hb26⟩
            case measure => omega
    · have hgr := HLs.out.fin (Hfe.out rfl)
      have Hgr := Lib.hid hgr
      obtain ⟨A9, c9, hv9, r9⟩ := ho.rd iSized (by rw [ofF_len]; omega)
      rw [ofF_len] at hv9 r9
      injection hv9 with f1 f2 f3
      subst f1 f3
      clear hgr f2
      go_wp2
      go_ret2
      exact H0.out _ L T _ _ (hb02.trans (hb26.mono hb02.size)) r9 Hgr.out HT.out (fun i hi => ⟨HTe.out i hi, HLs.out.ge i hi⟩)
end Go.Proofs.Ythmnkmomgaamlaa
