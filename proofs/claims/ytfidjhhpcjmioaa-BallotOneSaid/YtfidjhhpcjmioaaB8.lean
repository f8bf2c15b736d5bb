/- Walks over Cast, Sum and Open of the reference of layer 34. Conditions stand in each theorem. -/
import Derived.Test.YtfidjhhpcjmioaaB7
import Derived.Test.YtfidjhhpcjmioaaB3
namespace Go.Proofs.Ytfidjhhpcjmioaa
open Go.RowKit
set_option linter.unusedVariables false

theorem ropen_any (A : Option Addr) (n cap : Nat) (l : List (Int × Int)) (k c : Int) (w : World) (hl : RdP w w.heap.size A n cap l) (hn : n ≤ 1000000) :
  Calls Try.prog 30 #[.slice A n cap, .int .i64 k, .int .i64 c] w fun e w' => e = .returned (.tuple #[.int .i64 (openF l k c).1, .int .i64 (openF l k c).2]) ∧ Below w.heap.size w w' := by
  have hj := rjoin_any A n cap l k w hl hn
  rw [rjoin_join] at hj
  unfold openF
  generalize joinF l k = J at *
  obtain ⟨a, b⟩ := J
  have Hj := Lib.hid hj; clear hj
  by_cases h1 : b = 0
  · subst h1
    rw [if_neg (by simp)]
    by_cases h2 : c < a
    · rw [if_pos h2]
      go_enter Try.func30, Try.ntmps30
      go_wp2_with (go_at_call 16; refine Hj.out.mono ?_; rintro e w1 ⟨rfl, hb1⟩)
      go_ret2
      exact ⟨rfl, hb1⟩
    · rw [if_neg h2]
      have hd : decide (c < a) = false := by simpa using h2
      go_enter Try.func30, Try.ntmps30
      go_wp2_with (go_at_call 16; refine Hj.out.mono ?_; rintro e w1 ⟨rfl, hb1⟩)
      go_ret2
      exact ⟨rfl, hb1⟩
  · rw [if_pos h1]
    have e1 : (b != 0) = true := by simpa using h1
    go_enter Try.func30, Try.ntmps30
    go_wp2_with (go_at_call 16; refine Hj.out.mono ?_; rintro e w1 ⟨rfl, hb1⟩)
    go_ret2
    exact ⟨rfl, hb1⟩

theorem rcast_bad (m : Int) (y : Bool) (t k s : Int) (w : World) (hb : splitBad (yesI y) k t = true) :
  Calls Try.prog 26 #[.int .i64 m, .bool y, .int .i64 t, .int .i64 k, .int .i64 s] w (CastPost w ((0, []), 1)) := by
  have hsp := fun w => rsplit_bad (yesI y) k t s w hb
  have hmm := fun w => rmember_any m w
  cases hm : memF m
  all_goals
    have Hm := Lib.hid hm
    simp only [hm] at hmm
    clear hm hb
    cases y
    all_goals
      simp only [yesI, Bool.false_eq_true, if_false, if_true] at hsp
      go_enter Try.func26, Try.ntmps26
      go_wp2_with (first
        | (go_at_call 14; refine (hsp _).mono ?_; rintro e w1 ⟨rfl, rfl⟩)
        | (go_at_call 46; refine (hmm _).mono ?_; rintro e w2 ⟨rfl, rfl⟩))
      go_returns
      exact ⟨none, 0, 0, by simp, Rd.nil, (fun _ _ h => by cases h), (Below.refl w.heap.size w).alloc (Nat.le_refl _) _⟩
theorem rcast_no (m : Int) (y : Bool) (t k : Nat) (s : Int) (w : World) (hm : memF m = false) (hb : splitBad (yesI y) k t = false) (hs : -9223372036854775808 ≤ s ∧ s ≤ 9223372036854775807) :
  Calls Try.prog 26 #[.int .i64 m, .bool y, .int .i64 t, .int .i64 k, .int .i64 s] w (CastPost w ((0, []), 1)) := by
  have hb' : 1 ≤ t ∧ t ≤ 20 ∧ 1 ≤ k ∧ k ≤ t := by simp [splitBad] at hb; omega
  have hsp := fun w => rsplit_ok (yesI y) s k t w (yesI_inF y) hb'.1 hb'.2.1 hb'.2.2.1 hb'.2.2.2 hs.1 hs.2
  rw [rsplit_split _ _ _ _ (by omega) (yesI_inF y)] at hsp
  have hmm := fun w => rmember_any m w
  have Hll := Lib.hid (splitL_len (yesI y) k s t)
  generalize splitL (yesI y) k s t = L at *
  simp only [hm] at hmm
  clear hm hb
  cases y
  all_goals
    simp only [yesI, Bool.false_eq_true, if_false, if_true] at hsp
    go_enter Try.func26, Try.ntmps26
    go_wp2_with (first
      | (go_at_call 14
         refine (hsp _).mono ?_
         rintro e w1 ⟨v1, rfl, ho, hb1⟩
         have k0 : w1.cell? ⟨w.heap.size, 0, none⟩ = some (.int .i64 0) := (hb1.cell (by simp)).trans (by simp)
         have k1 : w1.cell? ⟨w.heap.size, 1, none⟩ = some (.slice none 0 0) := (hb1.cell (by simp)).trans (by simp)
         have f0 : w1.frozen? ⟨w.heap.size, 0, none⟩ = false := (hb1.frozen (by simp)).trans (by simp)
         have f1 : w1.frozen? ⟨w.heap.size, 1, none⟩ = false := (hb1.frozen (by simp)).trans (by simp)
         have hne : v1.ownBlock ≠ some w.heap.size := fun e => by have := (ho.lt _ e).1; simp at this; omega
         obtain ⟨A, c, rfl, -⟩ := ho.rd pSized (by have := Hll.out; omega)
         obtain ⟨z0, z1⟩ := two_set (.int .i64 0) (.slice none 0 0) k0 k1
         have hb2 := ((Below.refl w.heap.size w).alloc (Nat.le_refl _) (.cells #[.int .i64 0, .slice none 0 0] 47)).trans (hb1.mono (by simp)))
      | (go_at_call 46; refine (hmm _).mono ?_; rintro e w2 ⟨rfl, rfl⟩))
    have hb5 : Below w.heap.size w ((w1.setCell ⟨w.heap.size, 0, none⟩ (.int .i64 0)).setCell ⟨w.heap.size, 1, none⟩ (.slice none 0 0)) := (hb2.setCell (Nat.le_refl _) _).setCell (Nat.le_refl _) _
    generalize (w1.setCell ⟨w.heap.size, 0, none⟩ (.int .i64 0)).setCell ⟨w.heap.size, 1, none⟩ (.slice none 0 0) = w5 at *
    exact bodyPost_ret (v := .tuple #[.agg #[.int .i64 0, .slice none 0 0], .int .i64 1]) (by simp [results, Try.results26, go_sem, z0, z1]) rfl ⟨none, 0, 0, by simp, Rd.nil, (fun _ _ h => by cases h), hb5⟩
theorem rcast_yes (m : Int) (y : Bool) (t k : Nat) (s : Int) (w : World) (hm : memF m = true) (hb : splitBad (yesI y) k t = false) (hs : -9223372036854775808 ≤ s ∧ s ≤ 9223372036854775807) :
  Calls Try.prog 26 #[.int .i64 m, .bool y, .int .i64 t, .int .i64 k, .int .i64 s] w (CastPost w ((m, splitL (yesI y) k s t), 0)) := by
  have hb' : 1 ≤ t ∧ t ≤ 20 ∧ 1 ≤ k ∧ k ≤ t := by simp [splitBad] at hb; omega
  have hsp := fun w => rsplit_ok (yesI y) s k t w (yesI_inF y) hb'.1 hb'.2.1 hb'.2.2.1 hb'.2.2.2 hs.1 hs.2
  rw [rsplit_split _ _ _ _ (by omega) (yesI_inF y)] at hsp
  have hmm := fun w => rmember_any m w
  have Hll := Lib.hid (splitL_len (yesI y) k s t)
  generalize splitL (yesI y) k s t = L at *
  simp only [hm] at hmm
  clear hm hb
  cases y
  all_goals
    simp only [yesI, Bool.false_eq_true, if_false, if_true] at hsp
    go_enter Try.func26, Try.ntmps26
    go_wp2_with (first
      | (go_at_call 14
         refine (hsp _).mono ?_
         rintro e w1 ⟨v1, rfl, ho, hb1⟩
         have k0 : w1.cell? ⟨w.heap.size, 0, none⟩ = some (.int .i64 0) := (hb1.cell (by simp)).trans (by simp)
         have k1 : w1.cell? ⟨w.heap.size, 1, none⟩ = some (.slice none 0 0) := (hb1.cell (by simp)).trans (by simp)
         have f0 : w1.frozen? ⟨w.heap.size, 0, none⟩ = false := (hb1.frozen (by simp)).trans (by simp)
         have f1 : w1.frozen? ⟨w.heap.size, 1, none⟩ = false := (hb1.frozen (by simp)).trans (by simp)
         have hne : v1.ownBlock ≠ some w.heap.size := fun e => by have := (ho.lt _ e).1; simp at this; omega
         obtain ⟨A, c, rfl, -⟩ := ho.rd pSized (by have := Hll.out; omega)
         obtain ⟨z0, z1⟩ := two_set (.int .i64 m) (.slice A L.length c) k0 k1
         have hb2 := ((Below.refl w.heap.size w).alloc (Nat.le_refl _) (.cells #[.int .i64 0, .slice none 0 0] 47)).trans (hb1.mono (by simp)))
      | (go_at_call 46; refine (hmm _).mono ?_; rintro e w2 ⟨rfl, rfl⟩))
    have hb5 : Below w.heap.size w ((w1.setCell ⟨w.heap.size, 0, none⟩ (.int .i64 m)).setCell ⟨w.heap.size, 1, none⟩ (.slice A L.length c)) := (hb2.setCell (Nat.le_refl _) _).setCell (Nat.le_refl _) _
    have ho5 := (ho.kept (grown_set w1 w.heap.size 0 (.int .i64 m)) (Or.inr hne)).kept (grown_set _ w.heap.size 1 (.slice A L.length c)) (Or.inr hne)
    obtain ⟨A', c', hv, hr⟩ := ho5.rd pSized (by have := Hll.out; omega)
    injection hv with e1 e2 e3
    subst e1 e3
    generalize (w1.setCell ⟨w.heap.size, 0, none⟩ (.int .i64 m)).setCell ⟨w.heap.size, 1, none⟩ (.slice A L.length c) = w5 at *
    exact bodyPost_ret (v := .tuple #[.agg #[.int .i64 m, .slice A L.length c], .int .i64 0]) (by simp [results, Try.results26, go_sem, z0, z1]) rfl ⟨A, _, c, by simp, hr, (fun b off e => by subst e; have := (ho5.lt b rfl).1; simp at this; omega), hb5⟩
theorem rcast_ok (m : Int) (y : Bool) (t k : Nat) (s : Int) (w : World) (hb : splitBad (yesI y) k t = false) (hs : -9223372036854775808 ≤ s ∧ s ≤ 9223372036854775807) :
  Calls Try.prog 26 #[.int .i64 m, .bool y, .int .i64 t, .int .i64 k, .int .i64 s] w (CastPost w (if memF m then ((m, splitL (yesI y) k s t), 0) else ((0, []), 1))) := by
  cases hm : memF m
  · exact rcast_no m y t k s w hm hb hs
  · exact rcast_yes m y t k s w hm hb hs
theorem rcast_any (m : Int) (y : Bool) (t k s : Int) (w : World) (hs : -9223372036854775808 ≤ s ∧ s ≤ 9223372036854775807) :
  Calls Try.prog 26 #[.int .i64 m, .bool y, .int .i64 t, .int .i64 k, .int .i64 s] w (CastPost w (castF m y t k s)) := by
  cases hb : splitBad (yesI y) k t
  · have h1 : 1 ≤ t ∧ 1 ≤ k := by simp [splitBad] at hb; omega
    obtain ⟨k, rfl⟩ := Int.eq_ofNat_of_zero_le (show 0 ≤ k by omega)
    obtain ⟨t, rfl⟩ := Int.eq_ofNat_of_zero_le (show 0 ≤ t by omega)
    have h := rcast_ok m y t k s w hb hs
    have e : castF m y t k s = (if memF m then ((m, splitL (yesI y) k s t), 0) else ((0, []), 1)) := by
      unfold castF
      rw [hb]
      cases memF m <;> simp
    rw [e]; exact h
  · have e : castF m y t k s = ((0, []), 1) := by unfold castF; rw [if_pos (Or.inl hb)]
    rw [e]; exact rcast_bad m y t k s w hb

theorem rsum_bad (A : Option Addr) (n cap : Nat) (l : List Crd) (t : Int) (w : World) (hl : RdC w w.heap.size A n cap l) (hc : checkF l t ≠ 0) :
  Calls Try.prog 28 #[.slice A n cap, .int .i64 t] w fun e w' => e = .returned (.tuple #[.slice none 0 0, .int .i64 (checkF l t)]) ∧ Below w.heap.size w w' := by
  have e1 : (checkF l t != 0) = true := by simpa using hc
  have Hch := Lib.hid (rcheck_any A n cap l t w hl)
  generalize checkF l t = c at *
  go_enter Try.func28, Try.ntmps28
  go_wp2_with (go_at_call 33; refine Hch.out.mono ?_; rintro e w1 ⟨rfl, hb1⟩)
  go_ret2
  exact ⟨rfl, hb1⟩
theorem rsum_ok (A : Option Addr) (n cap : Nat) (l : List Crd) (t : Nat) (w : World) (hl : RdC w w.heap.size A n cap l) (hc : checkF l t = 0) :
  Calls Try.prog 28 #[.slice A n cap, .int .i64 t] w fun e w' => ∃ v, e = .returned (.tuple #[v, .int .i64 0]) ∧ Own 2 pEnc w' w.heap.size 39 v (sumF l t) ∧ Below w.heap.size w w' := by
  obtain ⟨i0, hi0, hz0, hz1, hz2⟩ := info_parts share_info
  have hlen := hl.len
  have hcaps := hl.caps
  have hch := rcheck_any A n cap l t w hl
  rw [hc] at hch
  have ht : 1 ≤ t ∧ t ≤ 20 ∧ chkA l t n = 0 := by
    unfold checkF at hc
    by_cases h : (t : Int) < 1 ∨ 20 < (t : Int) ∨ 4000 < l.length
    · rw [if_pos h] at hc; cases hc
    · rw [if_neg h, hlen] at hc; exact ⟨by omega, by omega, hc⟩
  obtain ⟨t1, t2, hok⟩ := ht
  have hcard := fun k hk => card_at (chkA_ok n hok k hk)
  have Hch := Lib.hid hch; have Hcard := Lib.hid hcard
  have Hlen := Lib.hid hlen
  clear hch hok hcard hc hlen
  go_enter Try.func28, Try.ntmps28
  go_wp2_with (first
    | (go_at_call 33; refine Hch.out.mono ?_; rintro e w1 ⟨rfl, hb1⟩))
  go_loopg [7, 8] t (fun gk v i wr => ∃ a : Nat, a ≤ t ∧ gk = t - a ∧ i = .int .i64 a ∧ Own 2 pEnc wr w.heap.size 39 v (shL (fun i => sumC l i n) a) ∧ Below w.heap.size w wr)
  case atStart => exact ⟨0, by omega, rfl, rfl, Own.nil, hb1⟩
  case round =>
    obtain ⟨a, ha, rfl, rfl, hown, hb⟩ := hrel
    by_cases hla : a < t
    · have hd1 : decide (a < t) = true := by simpa using hla
      obtain ⟨wo, rfl⟩ : ∃ wo : World, wo = wr := ⟨_, rfl⟩
      go_wp2
      go_loopg [9, 10] n (fun gk s i wr => ∃ k : Nat, k ≤ n ∧ gk = n - k ∧ i = .int .i64 k ∧ s = .int .i64 (sumC l a k) ∧ Below wo.heap.size wo wr)
      case atStart => exact ⟨0, by omega, rfl, rfl, rfl, Below.refl _ _⟩
      case round =>
        obtain ⟨k, hk, rfl, rfl, rfl, hbi⟩ := hrel
        have hbw : Below w.heap.size w wr := hb.trans (hbi.mono hb.size)
        by_cases hlk : k < n
        · obtain ⟨b, off, m, sh, A', n', cap', rfl, hbB, hcd, k0, k1, hsh⟩ := (hl.below cdE_lasts hbw (Nat.le_refl _) (Nat.le_refl _)).atC hlk
          obtain ⟨hc1, -, hc3⟩ := Hcard.out k hlk
          rw [cdAt_eq hcd] at hc1 hc3
          simp only at hc1 hc3
          have hn' : n' = t := hsh.len.symm.trans hc1
          subst hn'
          obtain ⟨b', off', x, y, rfl, hbB', hxy, s0, s1⟩ := hsh.atP hla
          have hy := hc3 a hla
          rw [fy_eq hxy] at hy
          obtain ⟨-, y1, y2⟩ := hy
          have hki : (k : Int) < (n : Int) := by omega
          have hk0 : (0 : Int) ≤ (k : Int) := by omega
          have hai : (a : Int) < (n' : Int) := by omega
          have ha0 : (0 : Int) ≤ (a : Int) := by omega
          have hyy : fy (cdAt l k).2 a = y := by rw [cdAt_eq hcd]; exact fy_eq hxy
          obtain ⟨z1, z2⟩ := sumC_bd l a k
          have Hz := Lib.hid (show sumC l a (k + 1) = (sumC l a k + y) % 2147483647 by rw [sumC, hyy])
          clear hc3 hxy hcd hyy hsh hc1
          go_wp2
          go_roundg (n - (k + 1))
          case rel => exact ⟨k + 1, by omega, rfl, by go_num, by rw [Hz.out], hbi⟩
          case measure => omega
        · have e : k = n := by omega
          subst e
          obtain ⟨z1, z2⟩ := sumC_bd l a k
          have hl3 := Rd.new1 pSized wr ((a : Int) + 1, sumC l a k) #[.int .i64 ((a : Int) + 1), .int .i64 (sumC l a k)] rfl 39
          have hbb : Below wo.heap.size wo wr := hbi
          have hown' := hown.below hbi
          have hsz := hbw.size
          go_wp2_with (at_builtin; refine wpList_app _ pSized rfl _ _ 22 rfl w.heap.size 39 i0 _ 16 Try.underlying22 hi0 hz0 hz1 hz2 rfl _ (shL (fun i => sumC l i k) a) rfl (hown'.alloc _) _ _ 1 1 _ rfl hl3 (by rw [shL_len]; simp only [maxLen]; omega) (by rw [shL_len]; omega) (by simp; omega) ?_
                       intro v3 w3 hown3 hg3 _
                       have hb3 : Below w.heap.size w w3 := Own.grow (hown'.alloc _) (Nat.le_refl _) (hbw.alloc hsz _) (by simp; omega) hg3)
          go_roundg (t - (a + 1))
          case rel => exact ⟨a + 1, by omega, rfl, by go_num, by rw [shL_succ]; exact hown3, hb3⟩
          case measure => omega
    · have e : a = t := by omega
      subst e
      go_wp2
      go_ret2
      refine ⟨_, rfl, ?_, hb⟩
      unfold sumF
      rw [Hlen.out]
      exact hown
end Go.Proofs.Ytfidjhhpcjmioaa
