/- Walk over Greedy of the reference of layer 36. Conditions stand in the theorem. -/
import Derived.Test.YthhmdljfklbbeaaP19
import Derived.Test.YthhmdljfklbbeaaPu
import Derived.Lib.MinMax
namespace Go.Proofs.Ythhmdljfklbbeaa
open Go.RowKit
set_option linter.unusedVariables false

theorem away2 {raw : Nat → Iw} {i s0 s1 : Nat} {sm ou sm' ou' : Value} {x : Iw} (h : Away raw i (fun b => sm.ownBlock = some b ∨ ou.ownBlock = some b)) (hlt : ∀ k, k < i → 0 < (raw k).2.1 → ∀ b off, (raw k).1 = some ⟨b, off, none⟩ → b < s0)
    (hx : 0 < x.2.1 → ∀ b off, x.1 = some ⟨b, off, none⟩ → s0 ≤ b ∧ b < s1) (hsm : ∀ g, sm.ownBlock = some g → g < s0) (hou : ∀ g, ou.ownBlock = some g → g < s0) (hsm' : ∀ g, sm'.ownBlock = some g → sm.ownBlock = some g ∨ s1 ≤ g) (hou' : ∀ g, ou'.ownBlock = some g → ou.ownBlock = some g ∨ s1 ≤ g)
    (h01 : s0 ≤ s1) : Away (fun j => if j < i then raw j else x) (i + 1) (fun b => sm'.ownBlock = some b ∨ ou'.ownBlock = some b) := fun k hk hp b off he hS => by
  by_cases hki : k < i
  · simp only [if_pos hki] at hp he
    have hb := hlt k hki hp b off he
    refine h k hki hp b off he ?_
    rcases hS with hS | hS
    · rcases hsm' b hS with h5 | h5
      · exact Or.inl h5
      · omega
    · rcases hou' b hS with h5 | h5
      · exact Or.inr h5
      · omega
  · simp only [if_neg hki] at hp he
    obtain ⟨hb1, hb2⟩ := hx hp b off he
    rcases hS with hS | hS
    · rcases hsm' b hS with h5 | h5
      · have := hsm b h5; omega
      · omega
    · rcases hou' b hS with h5 | h5
      · have := hou b h5; omega
      · omega

set_option maxRecDepth 100000 in
set_option maxHeartbeats 2000000 in
theorem rgreedy_any (p : Pl) (n : Nat) (w : World) (hp : rightF p = true) (hn : n ≤ 1000) :
  Calls Try.prog 28 #[plV p, .int .i64 n] w (GreedyPost w p n) := by
  obtain ⟨i0, hi0, hz0, hz1, hz2⟩ := info_parts int_info
  obtain ⟨j0, hj0, jz0, jz1, jz2⟩ := info_parts slices_info
  have hf := grP_facts hp
  have hb6 := rightF_iff hp
  have Hf := Lib.hid hf.2
  have Hlf := Lib.hid (fun i k h1 h2 => gr_lefts hp i (k := k) h1 h2)
  obtain ⟨hM1, hM2⟩ := hf.1
  obtain ⟨g, hg⟩ : ∃ g, g = grP p := ⟨_, rfl⟩
  rw [← hg] at Hf Hlf
  have hpost : GreedyPost w p n = fun e w' => ∃ A cap, e = .returned (.slice A n cap) ∧ RdII w' w'.heap.size A n cap (ofF n (fun i => partsL p.ms (g i))) ∧ Below w.heap.size w w' := by rw [hg]; rfl
  have Hpost := Lib.hid hpost
  clear hf hpost hg hp
  obtain ⟨mo, pr, ms, co, wi, to⟩ := p
  simp only [plV, plC] at *
  obtain ⟨⟨p11, p12⟩, ⟨p21, p22⟩, ⟨p31, p32⟩, ⟨p41, p42⟩, ⟨p51, p52⟩, ⟨p61, p62⟩⟩ := hb6
  obtain ⟨W, rfl⟩ := Int.eq_ofNat_of_zero_le (show 0 ≤ wi by omega)
  simp only [Int.toNat_natCast] at *
  obtain ⟨M, hM⟩ : ∃ M, ms * co = M := ⟨_, rfl⟩
  rw [hM] at hM1 hM2
  rw [Hpost.out]
  have hb0 : Below w.heap.size w (w.alloc (.cells #[.int .i64 mo, .int .i64 pr, .int .i64 ms, .int .i64 co, .int .i64 (W : Int), .int .i64 to] 23)) := (Below.refl w.heap.size w).alloc (Nat.le_refl _) _
  have hc0 : ∀ (j : Nat) u, (#[.int .i64 mo, .int .i64 pr, .int .i64 ms, .int .i64 co, .int .i64 (W : Int), .int .i64 to] : Array Value)[j]? = some u → (w.alloc (.cells #[.int .i64 mo, .int .i64 pr, .int .i64 ms, .int .i64 co, .int .i64 (W : Int), .int .i64 to] 23)).cell? ⟨w.heap.size, j, none⟩ = some u := fun j u hu => new_cell rfl hu
  have hl1 : w.heap.size < (w.alloc (.cells #[.int .i64 mo, .int .i64 pr, .int .i64 ms, .int .i64 co, .int .i64 (W : Int), .int .i64 to] 23)).heap.size := by simp
  go_enter Try.func28, Try.ntmps28
  go_wp2
  generalize w.alloc (.cells #[.int .i64 mo, .int .i64 pr, .int .i64 ms, .int .i64 co, .int .i64 (W : Int), .int .i64 to] 23) = w1 at *
  have Hce : RowKit.Hid (∀ wr, Below w1.heap.size w1 wr → wr.cell? ⟨w.heap.size, 2, none⟩ = some (.int .i64 ms) ∧ wr.cell? ⟨w.heap.size, 3, none⟩ = some (.int .i64 co) ∧ wr.cell? ⟨w.heap.size, 4, none⟩ = some (.int .i64 (W : Int)) ∧ wr.cell? ⟨w.heap.size, 5, none⟩ = some (.int .i64 to)) :=
    Lib.hid (fun wr hb => ⟨(hb.cell (p := ⟨w.heap.size, 2, none⟩) hl1).trans (hc0 2 _ rfl), (hb.cell (p := ⟨w.heap.size, 3, none⟩) hl1).trans (hc0 3 _ rfl), (hb.cell (p := ⟨w.heap.size, 4, none⟩) hl1).trans (hc0 4 _ rfl), (hb.cell (p := ⟨w.heap.size, 5, none⟩) hl1).trans (hc0 5 _ rfl)⟩)
  clear hc0
  go_loopg [5, 6, 7] n (fun gk out sm i wr => ∃ (j : Nat) (raw : Nat → Iw) (As : Option Addr) (cs : Nat), j ≤ n ∧ gk = n - j ∧ i = .int .i64 j ∧ sm = .slice As j cs ∧ Own 1 iEnc wr w1.heap.size 3 (.slice As j cs) (ofF j g) ∧ Own 1 qEnc wr w1.heap.size 32 out (ofF j raw) ∧ FitI wr raw (fun i => partsL ms (g i)) j ∧ Away raw j (fun b => (Value.slice As j cs).ownBlock = some b ∨ out.ownBlock = some b) ∧
    (∀ b, (Value.slice As j cs).ownBlock = some b → out.ownBlock ≠ some b) ∧ Below w1.heap.size w1 wr)
  case atStart => exact ⟨0, fun _ => (none, 0, 0), none, 0, Nat.zero_le _, rfl, rfl, rfl, Own.nil, Own.nil, (fun k hk => absurd hk (by omega)), (fun k hk => absurd hk (by omega)), (fun b hb => by simp [Value.ownBlock] at hb), Below.refl _ _⟩
  case round =>
    obtain ⟨j, raw, As, cs, hj, rfl, rfl, rfl, hs, ho, hfit, haway, hdis, hb⟩ := hrel
    by_cases hlt : j < n
    · have hfj := Hf.out j
      obtain ⟨⟨g1, g2, g3⟩, hmin, hl0, -⟩ := hfj
      rw [hM] at hmin g3
      have hlf := fun k => Hlf.out j k
      have hji : (j : Int) < (n : Int) := by omega
      have hwbj : wb W j ≤ j := by unfold wb; omega
      obtain ⟨c2, c3, c4, c5⟩ := Hce.out wr hb
      have hwW : IntKind.i64.wrap ((j : Int) - (W : Int)) = (j : Int) - (W : Int) := IntWalk.i64_in _ (by omega)
      have hwW1 : IntKind.i64.wrap ((j : Int) - (W : Int) + 1) = (j : Int) - (W : Int) + 1 := IntWalk.i64_in _ (by omega)
      obtain ⟨As', cs', hv, rs⟩ := hs.rd iSized (by rw [ofF_len]; omega)
      rw [ofF_len] at hv rs
      injection hv with hv1 hv2 hv3
      subst hv1 hv3
      have Hmin := Lib.hid hmin; have Hlf' := Lib.hid hlf
      have HM := Lib.hid hM
      clear hmin hlf hl0 hv2
      have hrsc := rs.caps
      go_wp2
      go_loopg [8, 9] (j - wb W j) (fun gk left i w2 => ∃ k : Nat, wb W j ≤ k ∧ k ≤ j ∧ gk = j - k ∧ i = .int .i64 k ∧ left = .int .i64 (to - (sumN g k - sumN g (wb W j))) ∧ wr = w2)
      case atStart => exact ⟨wb W j, Nat.le_refl _, hwbj, rfl, by rw [wb_max], by simp, rfl⟩
      case round =>
        obtain ⟨k, hk1, hk2, rfl, rfl, rfl, rfl⟩ := hrel
        by_cases hkj : k < j
        · obtain ⟨b, off, x, rfl, hbB, hx, k0⟩ := rs.atI hkj
          obtain ⟨-, ex⟩ := ofF_get_some hx
          have hdk : decide (k < j) = true := by simpa using hkj
          have hki : (k : Int) < (j : Int) := by omega
          have hk0 : (0 : Int) ≤ (k : Int) := by omega
          have hq1 := Hlf'.out k hk1 hk2
          have hq2 := Hlf'.out (k + 1) (by omega) (by omega)
          have hq3 : to - (sumN g (k + 1) - sumN g (wb W j)) = to - (sumN g k - sumN g (wb W j)) - x := by rw [sumN, ex]; omega
          have Hq3 := Lib.hid hq3
          rw [hq3] at hq2
          clear hx ex hq3
          obtain ⟨Y, hY⟩ : ∃ y, to - (sumN g k - sumN g (wb W j)) = y := ⟨_, rfl⟩
          rw [hY] at hq1 hq2 ⊢
          have HY := Lib.hid hY
          obtain ⟨q1, q2⟩ := hq1
          obtain ⟨q3, q4⟩ := hq2
          have hwY : IntKind.i64.wrap (Y - x) = Y - x := IntWalk.i64_in _ (by omega)
          clear hY
          go_wp2
          go_roundg (j - (k + 1))
          case rel => exact ⟨k + 1, by omega, by omega, rfl, by go_num, by rw [Hq3.out, HY.out], rfl⟩
          case measure => omega
        · have e : k = j := by omega
          subst e
          have hdk : decide (k < k) = false := by simp
          have hq := Hlf'.out k hk1 (Nat.le_refl _)
          have hmin := Hmin.out
          obtain ⟨LV, hLV⟩ : ∃ y, to - (sumN g k - sumN g (wb W k)) = y := ⟨_, rfl⟩
          rw [hLV] at hq hmin ⊢
          obtain ⟨q1, q2⟩ := hq
          have Hmin2 := Lib.hid hmin
          clear hLV hmin
          obtain ⟨wo, rfl⟩ : ∃ wo, wo = wr := ⟨_, rfl⟩
          have hG0 := GrInv.start (ms := ms) (L := LV) q1 p51
          go_wp2
          go_loopg [10, 11] co.toNat (fun gk lv s wr => ∃ (l : List Int) (S : Int) (AL : Option Addr) (m cL : Nat), gk = co.toNat - m ∧ l.length = m ∧ lv = .slice AL m cL ∧ s = .int .i64 S ∧ GrInv ms co LV l S ∧ Own 1 iEnc wr wo.heap.size 3 (.slice AL m cL) l ∧ Below wo.heap.size wo wr)
          case atStart => exact ⟨[], 0, none, 0, 0, by omega, rfl, rfl, rfl, hG0, Own.nil, Below.refl _ _⟩
          case round =>
            obtain ⟨l, S, AL, m, cL, rfl, hlm, rfl, rfl, hG, hoL, hbL⟩ := hrel
            obtain ⟨s1, s2, s3⟩ := hG.facts q1 p41
            rw [hlm] at s3
            have hb2 := hb.trans (hbL.mono hb.size)
            obtain ⟨d2, d3, d4, d5⟩ := Hce.out wr hb2
            have hszL := hbL.size
            by_cases hgo : (m : Int) < co ∧ S < LV
            · obtain ⟨hgo1, hgo2⟩ := hgo
              have hd1 : decide ((m : Int) < co) = true := by simpa using hgo1
              have hd2 : decide (S < LV) = true := by simpa using hgo2
              have hst := hG.step p41 (by rw [hlm]; exact hgo1) hgo2
              have hst2 := hst.facts q1 p41
              have hwS : IntKind.i64.wrap (LV - S) = LV - S := IntWalk.i64_in _ (by omega)
              obtain ⟨X, hX⟩ : ∃ x, min ms (LV - S) = x := ⟨_, rfl⟩
              rw [hX] at hst hst2
              obtain ⟨t1, t2, -⟩ := hst2
              have hwX : IntKind.i64.wrap (S + X) = S + X := IntWalk.i64_in _ (by omega)
              have Hst := Lib.hid hst
              clear hst hG hG0
              have hlen : (l ++ [X]).length = m + 1 := by rw [List.length_append, hlm]; rfl
              obtain ⟨l2, hl2⟩ : ∃ l2, l ++ [X] = l2 := ⟨_, rfl⟩
              have Hl2 := Lib.hid hl2
              rw [hl2] at hlen
              clear hl2
              go_wp2_with (at_builtin
                           refine wpList_app _ iSized rfl _ _ 32 rfl wo.heap.size 3 i0 _ 8 Try.underlying32 hi0 hz0 hz1 hz2 rfl _ l rfl (hoL.alloc _) _ _ 1 1 [X] rfl (Rd.new1 iSized wr X #[.int .i64 X] rfl 3) (by rw [hlm]; simp only [maxLen]; omega) (by rw [hlm]; omega) (by simp; omega) ?_
                           intro v4 w4 ho4 hg4 hx4
                           have hb4 : Below wo.heap.size wo w4 := Own.grow (hoL.alloc _) (Nat.le_refl _) (hbL.alloc hszL _) (by simp; omega) hg4
                           rw [Hl2.out] at ho4
                           obtain ⟨A4, c4', rfl, -⟩ := ho4.rd iSized (by rw [hlen]; omega)
                           rw [hlen] at ho4 ⊢)
              go_roundg (co.toNat - (m + 1))
              case rel => exact ⟨l2, S + X, A4, m + 1, c4', rfl, hlen, rfl, rfl, by rw [← Hl2.out]; exact Hst.out, ho4, hb4⟩
              case measure => omega
            · have hdone := hG.done p41 p51 (by rw [hlm]; omega)
              rw [HM.out, Hmin2.out] at hdone
              obtain ⟨hl, hS⟩ := hdone
              clear hG hG0
              obtain ⟨A2, cc2, hv2, rL⟩ := hoL.rd iSized (by rw [hlm]; omega)
              rw [hlm] at hv2 rL
              injection hv2 with e1 e2 e3
              subst e1 e3
              have hvs := fun gg (hgg : (Value.slice As k cs).ownBlock = some gg) => hs.lt gg hgg
              have hvo := fun gg (hgg : u5.ownBlock = some gg) => ho.lt gg hgg
              have hs2 := hs.below hbL
              have ho2 := ho.below hbL
              have hfit2 := hfit.below hbL
              have hAL : 0 < m → ∀ b off, AL = some ⟨b, off, none⟩ → wo.heap.size ≤ b ∧ b < wr.heap.size := fun hp b off he => by
                obtain ⟨b', off', he', hlt', -⟩ := rL.2.2.2 hp
                rw [he] at he'
                injection he' with he'
                injection he' with he1
                exact ⟨(hoL.lt b (by rw [he]; rfl)).1, by omega⟩
              have hold : ∀ i, i < k → 0 < (raw i).2.1 → ∀ b off, (raw i).1 = some ⟨b, off, none⟩ → b < wo.heap.size := fun i hi hp b off he => by
                obtain ⟨b', off', he', hlt', -⟩ := (hfit i hi).2.2.2 hp
                rw [he] at he'
                injection he' with he'
                injection he' with he1
                omega
              have hmoreS : ofF k g ++ [S] = ofF (k + 1) g := by rw [ofF_succ, hS]
              have HmoreS := Lib.hid hmoreS
              have Hl := Lib.hid hl
              have hsz2 := hb2.size
              have hd : (decide ((m : Int) < co) = false) ∨ (decide ((m : Int) < co) = true ∧ decide (S < LV) = false) := by
                simp only [decide_eq_false_iff_not, decide_eq_true_eq]; omega
              clear hl hS hmoreS e2 hgo
              rcases hd with hd1 | ⟨hd1, hd2⟩
              all_goals
                go_wp2_with (first
                  | (at_builtin
                     refine wpList_app _ qSized rfl _ _ 24 rfl w1.heap.size 32 j0 _ 24 Try.underlying24 hj0 jz0 jz1 jz2 rfl _ (ofF k raw) rfl (ho2.alloc _) _ _ 1 1 [(AL, m, cL)] rfl (Rd.new1 qSized wr (AL, m, cL) #[.slice AL m cL] rfl 32) (by simp only [maxLen, ofF_len]; omega) (by simp only [ofF_len]; omega) (by simp; omega) ?_
                     intro out3 w3 ho3 hg3 hx3
                     have hkA : Kept (fun b => u5.ownBlock = some b) wr w3 := ((Kept.refl (fun b => u5.ownBlock = some b) wr).alloc _).trans (grown_kept hg3) (fun _ _ h => h)
                     have hb3 : Below w1.heap.size w1 w3 := Own.grow (ho2.alloc _) (Nat.le_refl _) (hb2.alloc hsz2 _) (by simp; omega) hg3
                     have hsz3 := hkA.size
                     have hs3 := hs2.keptS hkA (fun gg hgg h => hdis gg hgg h)
                     have hfit3 := (hfit2.keptS hkA (haway.mono (fun b hb => Or.inr hb))).more (x := (AL, m, cL)) (L := fun i => partsL ms (g i)) (by
                       show RdI w3 w3.heap.size AL m cL (partsL ms (g k))
                       rw [← Hl.out]
                       exact rL.keptS hkA (Nat.le_refl _) hsz3 (fun hp b off he h => by have := (hAL hp b off he).1; have := (hvo _ h).2; omega))
                     have ho3' : ∀ gg, out3.ownBlock = some gg → u5.ownBlock = some gg ∨ wr.heap.size ≤ gg := fun gg hgg => by
                       rcases hx3 with hx | hx
                       · exact Or.inl (hx ▸ hgg)
                       · rw [hx] at hgg; injection hgg with hgg; right; rw [← hgg]; simp
                     have hd13 : ∀ b, (Value.slice As k cs).ownBlock = some b → out3.ownBlock ≠ some b := fun b h5 h6 => by
                       rcases ho3' b h6 with h7 | h7
                       · exact hdis b h5 h7
                       · have := (hvs _ h5).2; omega
                     rw [ofF_more] at ho3
                     have hs3sz : w1.heap.size ≤ w3.heap.size := hb3.size)
                  | (at_builtin
                     refine wpList_app _ iSized rfl _ _ 32 rfl w1.heap.size 3 i0 _ 8 Try.underlying32 hi0 hz0 hz1 hz2 rfl _ (ofF k g) rfl (hs3.alloc _) _ _ 1 1 [S] rfl (Rd.new1 iSized w3 S #[.int .i64 S] rfl 3) (by rw [ofF_len]; simp only [maxLen]; omega) (by rw [ofF_len]; omega) (by simp; omega) ?_
                     intro v4 w4 ho4 hg4 hx4
                     have hkB : Kept (fun b => (Value.slice As k cs).ownBlock = some b) w3 w4 := ((Kept.refl (fun b => (Value.slice As k cs).ownBlock = some b) w3).alloc _).trans (grown_kept hg4) (fun _ _ h => h)
                     have hb4 : Below w1.heap.size w1 w4 := Own.grow (hs3.alloc _) (Nat.le_refl _) (hb3.alloc hs3sz _) (by simp; omega) hg4
                     rw [HmoreS.out] at ho4
                     obtain ⟨A4, c4', rfl, -⟩ := ho4.rd iSized (by rw [ofF_len]; omega)
                     rw [ofF_len] at ho4 hx4 ⊢
                     have hv4 : ∀ gg, (Value.slice A4 (k + 1) c4').ownBlock = some gg → (Value.slice As k cs).ownBlock = some gg ∨ w3.heap.size ≤ gg := fun gg hgg => by
                       rcases hx4 with hx | hx
                       · exact Or.inl (hx ▸ hgg)
                       · rw [hx] at hgg; injection hgg with hgg; right; rw [← hgg]; simp
                     have ho4' := ho3.keptS hkB (fun gg hgg h => hd13 gg h hgg)
                     have haway3 : Away (fun j => if j < k then raw j else (AL, m, cL)) (k + 1) (fun b => (Value.slice As k cs).ownBlock = some b ∨ out3.ownBlock = some b) := away2 haway hold hAL (fun gg h => (hvs gg h).2) (fun gg h => (hvo gg h).2) (fun gg h => Or.inl h) ho3' hszL
                     have hfit4 := hfit3.keptS hkB (haway3.mono (fun b hb => Or.inl hb))
                     have haway4 : Away (fun j => if j < k then raw j else (AL, m, cL)) (k + 1) (fun b => (Value.slice A4 (k + 1) c4').ownBlock = some b ∨ out3.ownBlock = some b) := away2 haway hold hAL (fun gg h => (hvs gg h).2) (fun gg h => (hvo gg h).2) (fun gg h => by rcases hv4 gg h with h5 | h5; exact Or.inl h5; exact Or.inr (by omega)) ho3' hszL
                     have hdis4 : ∀ b, (Value.slice A4 (k + 1) c4').ownBlock = some b → out3.ownBlock ≠ some b := fun b h5 h6 => by
                       rcases hv4 b h5 with h7 | h7
                       · exact hd13 b h7 h6
                       · have := (ho3.lt b h6).2; omega))
                go_roundg (n - (k + 1))
                case rel => exact ⟨k + 1, _, A4, c4', by omega, rfl, by go_num, rfl, ho4, ho4', hfit4, haway4, hdis4, hb4⟩
                case measure => omega
    · have e : j = n := by omega
      subst e
      obtain ⟨A, cap, rfl, rd⟩ := ho.rd qSized (by rw [ofF_len]; omega)
      rw [ofF_len] at rd ⊢
      go_wp2
      go_ret
      exact ⟨A, cap, rfl, hfit.rd rd, hb0.trans (hb.mono hb0.size)⟩
end Go.Proofs.Ythhmdljfklbbeaa
