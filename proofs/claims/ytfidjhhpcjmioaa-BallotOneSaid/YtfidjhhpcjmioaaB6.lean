/- Walk over Sum of package ballot. Conditions stand in the theorem. -/
import Derived.Test.YtfidjhhpcjmioaaB5
namespace Go.Proofs.Ytfidjhhpcjmioaa
open Go.RowKit
set_option linter.unusedVariables false

/-- what teller i has of the first k cards together -/
def sumC (l : List Crd) (i : Nat) : Nat → Int
  | 0 => 0
  | k + 1 => (sumC l i k + fy (cdAt l k).2 i) % 2147483647
theorem sumC_bd (l : List Crd) (i : Nat) : ∀ k, 0 ≤ sumC l i k ∧ sumC l i k < 2147483647
  | 0 => by simp [sumC]
  | k + 1 => by rw [sumC]; exact mod_bd _
/-- the sums of valid cards -/
def sumF (l : List Crd) (t : Nat) : List (Int × Int) := shL (fun i => sumC l i l.length) t
theorem chkA_ok {l : List Crd} {t : Int} : ∀ n, chkA l t n = 0 → ∀ k, k < n → cardF (cdAt l k) t = true
  | 0, _, k, hk => absurd hk (by omega)
  | n + 1, h, k, hk => by
    have h1 : chkA l t n = 0 := by
      by_cases h0 : chkA l t n = 0
      · exact h0
      · rw [chkA, if_pos h0] at h; exact h
    by_cases e : k = n
    · subst e
      rw [chkA, if_neg (by simp [h1])] at h
      cases hc : cardF (cdAt l k) t
      · rw [if_pos hc] at h; cases h
      · rfl
    · exact chkA_ok n h1 k (by omega)
theorem rowsOk_at {l : List (Int × Int)} : ∀ n, rowsOk l n = true → ∀ k, k < n → rowOk l k = true
  | 0, _, k, hk => absurd hk (by omega)
  | n + 1, h, k, hk => by
    rw [rowsOk, Bool.and_eq_true] at h
    by_cases e : k = n
    · subst e; exact h.2
    · exact rowsOk_at n h.1 k (by omega)
/-- a right card's shares -/
theorem card_at {c : Crd} {t : Nat} (h : cardF c t = true) : c.2.length = t ∧ (0 ≤ c.1 ∧ c.1 < 4000) ∧ ∀ i, i < t → fx c.2 i = (i : Int) + 1 ∧ 0 ≤ fy c.2 i ∧ fy c.2 i < 2147483647 := by
  simp only [cardF, memF, Bool.and_eq_true, decide_eq_true_eq] at h
  have hl : c.2.length = t := by omega
  refine ⟨hl, h.1.1, fun i hi => ?_⟩
  have h1 := rowsOk_at _ h.2 i (by omega)
  simp only [rowOk, Bool.and_eq_true, decide_eq_true_eq] at h1
  exact ⟨h1.1.1, h1.1.2, h1.2⟩

/-- the row while it is filled: tellers before i are done, teller i has the first k cards -/
def rowF (l : List Crd) (n i k : Nat) (j : Nat) : Int × Int := if j < i then ((j : Int) + 1, sumC l j n) else if j = i then ((j : Int) + 1, sumC l j k) else (0, 0)
/-- tellers before i are done -/
def rowD (l : List Crd) (n i : Nat) (j : Nat) : Int × Int := if j < i then ((j : Int) + 1, sumC l j n) else (0, 0)

theorem bsum_bad (A : Option Addr) (n cap : Nat) (l : List Crd) (t : Int) (w : World) (hl : RdC w w.heap.size A n cap l) (hc : checkF l t ≠ 0) :
  Calls Try.prog 27 #[.slice A n cap, .int .i64 t] w fun e w' => e = .returned (.tuple #[.slice none 0 0, .int .i64 (checkF l t)]) ∧ Below w.heap.size w w' := by
  have e1 : (checkF l t != 0) = true := by simpa using hc
  have Hch := Lib.hid (check_any A n cap l t w hl)
  generalize checkF l t = c at *
  go_enter Try.func27, Try.ntmps27
  go_wp2_with (go_at_call 32; refine Hch.out.mono ?_; rintro e w1 ⟨rfl, hb1⟩)
  go_ret2
  exact ⟨rfl, hb1⟩
theorem bsum_ok (A : Option Addr) (n cap : Nat) (l : List Crd) (t : Nat) (w : World) (hl : RdC w w.heap.size A n cap l) (hc : checkF l t = 0) :
  Calls Try.prog 27 #[.slice A n cap, .int .i64 t] w fun e w' => ∃ v, e = .returned (.tuple #[v, .int .i64 0]) ∧ Own 2 pEnc w' w.heap.size 39 v (sumF l t) ∧ Below w.heap.size w w' := by
  obtain ⟨i0, hi0, hz0, hz1, hz2⟩ := info_parts share_info
  have hlen := hl.len
  have hcaps := hl.caps
  have hch := check_any A n cap l t w hl
  rw [hc] at hch
  have ht : 1 ≤ t ∧ t ≤ 20 ∧ chkA l t n = 0 := by
    unfold checkF at hc
    by_cases h : (t : Int) < 1 ∨ 20 < (t : Int) ∨ 4000 < l.length
    · rw [if_pos h] at hc; cases hc
    · rw [if_neg h, hlen] at hc; exact ⟨by omega, by omega, hc⟩
  obtain ⟨t1, t2, hok⟩ := ht
  have hcard := fun k hk => card_at (chkA_ok n hok k hk)
  have Hch := Lib.hid hch; have Hcard := Lib.hid hcard
  clear hch hok hcard hc
  go_enter Try.func27, Try.ntmps27
  go_wp2_with (first
    | (go_at_call 32; refine Hch.out.mono ?_; rintro e w1 ⟨rfl, hb1⟩)
    | (go_at_call 47
       refine (repeat_any (0, 0) _ _ t _ ((Rd.new1 pSized w1 (0, 0) #[.int .i64 0, .int .i64 0] rfl 39).below (flat_lasts _) (Below.refl (w1.heap.size + 1) _) (Nat.le_refl _) (by simp)) t1 (by omega)).mono ?_
       rintro e w2 ⟨v2, rfl, ho2, hb2⟩
       obtain ⟨g2, c2, rfl, hg1, hg2, hg3, hg5, -, -⟩ := ho2.form (by simp; omega)
       simp only [List.length_replicate] at hg3 ho2 ⊢
       have hb02 : Below w.heap.size w w2 := (hb1.alloc hb1.size _).trans (hb2.mono (by have := hb1.size; simp; omega))
       have ho2' := Own.mono ho2 (base' := w.heap.size) (by have := hb1.size; simp; omega)
       rw [show List.replicate t ((0 : Int), (0 : Int)) = ofF t (rowD l n 0) from by rw [ofF_rep]; rfl] at ho2'
       clear ho2 hb2))
  have hgw : w.heap.size ≤ g2 := by have := hb1.size; simp at hg1; omega
  clear hg1 hg2 hb1
  go_loopg [23] t (fun gk i wr => ∃ a : Nat, a ≤ t ∧ gk = t - a ∧ i = .int .i64 a ∧ Own 2 pEnc wr w.heap.size 39 (.slice (some ⟨g2, 0, none⟩) t c2) (ofF t (rowD l n a)) ∧ Below w.heap.size w wr)
  case atStart => exact ⟨0, by omega, rfl, rfl, ho2', hb02⟩
  case round =>
    obtain ⟨a, ha, rfl, rfl, hown, hb⟩ := hrel
    by_cases hla : a < t
    · obtain ⟨q0, q1, f0, f1⟩ := hown.cellP hla
      rw [rowD, if_neg (by omega)] at q0 q1
      have hai : (a : Int) < (t : Int) := by omega
      have ha0 : (0 : Int) ≤ (a : Int) := by omega
      have haw : IntKind.i64.wrap ((a : Int) + 1) = (a : Int) + 1 := IntWalk.i64_in _ (by omega)
      have h3 := hown.setX hla ((a : Int) + 1)
      have hb3 : Below w.heap.size w (wr.setCell ⟨g2, a * 2, none⟩ (.int .i64 ((a : Int) + 1))) := hb.setCell hgw _
      go_wp2
      generalize wr.setCell ⟨g2, a * 2, none⟩ (.int .i64 ((a : Int) + 1)) = w3 at *
      rw [ofF_congr (g := rowF l n a 0) (fun j hj => by
        by_cases e : j = a
        · subst e; simp [rowF, rowD, sumC]
        · simp [rowF, rowD, e])] at h3
      clear q0 q1 f0 f1 hown hb
      go_loopg [34] n (fun gk i wr => ∃ k : Nat, k ≤ n ∧ gk = n - k ∧ i = .int .i64 k ∧ Own 2 pEnc wr w.heap.size 39 (.slice (some ⟨g2, 0, none⟩) t c2) (ofF t (rowF l n a k)) ∧ Below w.heap.size w wr)
      case atStart => exact ⟨0, by omega, rfl, rfl, h3, hb3⟩
      case round =>
        obtain ⟨k, hk, rfl, rfl, hown, hb⟩ := hrel
        by_cases hlk : k < n
        · obtain ⟨b, off, m, sh, A', n', cap', rfl, hbB, hcd, k0, k1, hsh⟩ := (hl.below cdE_lasts hb (Nat.le_refl _) (Nat.le_refl _)).atC hlk
          obtain ⟨hc1, -, hc3⟩ := Hcard.out k hlk
          rw [cdAt_eq hcd] at hc1 hc3
          simp only at hc1 hc3
          have hn' : n' = t := hsh.len.symm.trans hc1
          subst hn'
          obtain ⟨b', off', x, y, rfl, hbB', hxy, s0, s1⟩ := hsh.atP hla
          have hy := hc3 a hla
          rw [fy_eq hxy] at hy
          obtain ⟨-, y1, y2⟩ := hy
          have hki : (k : Int) < (n : Int) := by omega
          have hk0 : (0 : Int) ≤ (k : Int) := by omega
          have hyy : fy (cdAt l k).2 a = y := by rw [cdAt_eq hcd]; exact fy_eq hxy
          obtain ⟨z1, z2⟩ := sumC_bd l a k
          have Hz := Lib.hid (show sumC l a (k + 1) = (sumC l a k + y) % 2147483647 by rw [sumC, hyy])
          clear hc3 hxy hcd hyy hsh
          have ho4 := hown.alloc (.cells #[.int .i64 m, .slice (some ⟨b', off', none⟩) n' cap'] 47)
          have hb4 := hb.alloc hb.size (.cells #[.int .i64 m, .slice (some ⟨b', off', none⟩) n' cap'] 47)
          have m1 : (wr.alloc (.cells #[.int .i64 m, .slice (some ⟨b', off', none⟩) n' cap'] 47)).cell? ⟨wr.heap.size, 1, none⟩ = some (.slice (some ⟨b', off', none⟩) n' cap') := by simp
          have s1' := (hb4.cell hbB' (p := ⟨b', off' + a * 2 + 1, none⟩)).trans ((hb.cell hbB').symm.trans s1)
          go_wp2_with fail
          generalize wr.alloc (.cells #[.int .i64 m, .slice (some ⟨b', off', none⟩) n' cap'] 47) = w4 at *
          obtain ⟨q0, q1, f0, f1⟩ := ho4.cellP hla
          simp only [rowF, Nat.lt_irrefl, if_false, if_true] at q1
          have h4 := ho4.setY hla ((sumC l a k + y) % 2147483647)
          have hw1 : IntKind.i64.wrap (sumC l a k + y) = sumC l a k + y := IntWalk.i64_in _ (by omega)
          have hw2 : (sumC l a k + y).tmod 2147483647 = (sumC l a k + y) % 2147483647 := Int.tmod_eq_emod_of_nonneg (by omega)
          clear q0 f0 s0 s1 k0 k1 hown hb
          go_still_tail 17, (by kernel_rfl)
          change wpList _ _ _ _ _ w4.drew
          go_wp2
          go_roundg (n - (k + 1))
          case rel =>
            refine ⟨k + 1, by omega, rfl, by go_num, ?_, (hb4.setCell hgw _).drew⟩
            rw [ofF_congr (g := rowF l n a (k + 1)) (fun j hj => by
              by_cases e : j = a
              · subst e; simp [rowF, Hz.out]
              · simp [rowF, e])] at h4
            exact h4
          case measure => omega
        · have e : k = n := by omega
          subst e
          go_wp2
          go_roundg (t - (a + 1))
          case rel =>
            refine ⟨a + 1, by omega, rfl, by go_num, ?_, hb⟩
            rw [ofF_congr (g := rowD l k (a + 1)) (fun j hj => by
              by_cases e : j = a
              · subst e; simp [rowF, rowD]
              · have e2 : (j < a + 1) = (j < a) := by rw [eq_iff_iff]; omega
                simp [rowF, rowD, e, e2])] at hown
            exact hown
          case measure => omega
    · have e : a = t := by omega
      subst e
      go_wp2
      go_ret2
      refine ⟨_, rfl, ?_, hb⟩
      have hs : sumF l a = ofF a (rowD l n a) := by
        unfold sumF shL
        rw [hlen]
        exact ofF_congr fun j hj => by simp [rowD, hj]
      rw [hs]
      unfold Own at hown ⊢
      rw [ofF_len] at hown ⊢
      exact hown
end Go.Proofs.Ytfidjhhpcjmioaa
