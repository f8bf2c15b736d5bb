/- Walks over Check of package ballot and of its reference. Conditions stand in each theorem. -/
import Derived.Test.YtfidjhhpcjmioaaB1
import Derived.Test.YtfidjhhpcjmioaaW2
namespace Go.Proofs.Ytfidjhhpcjmioaa
open Go.RowKit
set_option linter.unusedVariables false

/-- the k-th card -/
def cdAt (l : List Crd) (k : Nat) : Crd := l.getD k (0, [])
theorem cdAt_eq {l : List Crd} {k : Nat} {c : Crd} (h : l[k]? = some c) : cdAt l k = c := by simp [cdAt, h]
/-- the members of the first k cards, the last first -/
def memL (l : List Crd) : Nat → List Int
  | 0 => []
  | k + 1 => (cdAt l k).1 :: memL l k
/-- the first error of the first k cards -/
def chkA (l : List Crd) (t : Int) : Nat → Int
  | 0 => 0
  | k + 1 => if chkA l t k ≠ 0 then chkA l t k else if cardF (cdAt l k) t = false then 2 else if (cdAt l k).1 ∈ memL l k then 5 else 0
theorem chkA_stays {l : List Crd} {t : Int} {k : Nat} (h : chkA l t k ≠ 0) : ∀ n, k ≤ n → chkA l t n = chkA l t k
  | 0, hk => by rw [show k = 0 by omega]
  | n + 1, hk => by
    by_cases e : k = n + 1
    · rw [e]
    · have h1 := chkA_stays h n (by omega)
      rw [chkA, if_pos (by rw [h1]; exact h), h1]
theorem chkA_form {l : List Crd} {t : Int} {k n : Nat} (h0 : chkA l t k = 0) (h : cardF (cdAt l k) t = false) (hk : k < n) : chkA l t n = 2 := by
  have h1 : chkA l t (k + 1) = 2 := by rw [chkA, if_neg (by simp [h0]), if_pos h]
  rw [chkA_stays (by rw [h1]; decide) n hk, h1]
theorem chkA_twice {l : List Crd} {t : Int} {k n : Nat} (h0 : chkA l t k = 0) (h : cardF (cdAt l k) t = true) (h2 : (cdAt l k).1 ∈ memL l k) (hk : k < n) : chkA l t n = 5 := by
  have h1 : chkA l t (k + 1) = 5 := by rw [chkA, if_neg (by simp [h0]), if_neg (by simp [h]), if_pos h2]
  rw [chkA_stays (by rw [h1]; decide) n hk, h1]
theorem chkA_next {l : List Crd} {t : Int} {k : Nat} (h0 : chkA l t k = 0) (h : cardF (cdAt l k) t = true) (h2 : ¬ (cdAt l k).1 ∈ memL l k) : chkA l t (k + 1) = 0 := by
  rw [chkA, if_neg (by simp [h0]), if_neg (by simp [h]), if_neg h2]
/-- the error of cards -/
def checkF (l : List Crd) (t : Int) : Int := if t < 1 ∨ 20 < t ∨ 4000 < l.length then 1 else chkA l t l.length

theorem check_any (A : Option Addr) (n cap : Nat) (l : List Crd) (t : Int) (w : World) (hl : RdC w w.heap.size A n cap l) :
  Calls Try.prog 32 #[.slice A n cap, .int .i64 t] w fun e w' => e = .returned (.int .i64 (checkF l t)) ∧ Below w.heap.size w w' := by
  have hlen := hl.len
  have hcaps := hl.caps
  by_cases h1 : t < 1
  · have he : checkF l t = 1 := by rw [checkF, if_pos (Or.inl h1)]
    rw [he]
    go_enter Try.func32, Try.ntmps32
    go_wp2
    go_ret
    exact ⟨rfl, Below.refl _ _⟩
  have d1 : decide (t < 1) = false := by simp; omega
  by_cases h2 : 20 < t
  · have he : checkF l t = 1 := by rw [checkF, if_pos (Or.inr (Or.inl h2))]
    rw [he]
    go_enter Try.func32, Try.ntmps32
    go_wp2
    go_ret
    exact ⟨rfl, Below.refl _ _⟩
  have d2 : decide (20 < t) = false := by simp; omega
  by_cases h3 : 4000 < n
  · have he : checkF l t = 1 := by rw [checkF, if_pos (Or.inr (Or.inr (by rw [hlen]; exact h3)))]
    rw [he]
    have d3 : decide (4000 < n) = true := by simp; omega
    have d4 : decide ((4000 : Int) < (n : Int)) = true := by simp; omega
    go_enter Try.func32, Try.ntmps32
    go_wp2
    go_ret
    exact ⟨rfl, Below.refl _ _⟩
  have d3 : decide (4000 < n) = false := by simp; omega
  have d4 : decide ((4000 : Int) < (n : Int)) = false := by simp; omega
  have he : checkF l t = chkA l t n := by rw [checkF, if_neg (by rw [hlen]; omega), hlen]
  rw [he]
  have hmm := @run_makeMap Try.prog
  go_enter Try.func32, Try.ntmps32
  go_wp2
  clear hmm
  go_loopg [22] n (fun gk i wr => ∃ j : Nat, j ≤ n ∧ gk = n - j ∧ i = .int .i64 j ∧ chkA l t j = 0 ∧ SeenMap Try.prog 3 4 wr w.heap.size j (memL l j) ∧ Below w.heap.size w wr)
  case atStart => exact ⟨0, Nat.zero_le _, rfl, rfl, rfl, SeenMap.made _ _ _ _, (Below.refl _ _).alloc (Nat.le_refl _) _⟩
  case round =>
    obtain ⟨j, hj, rfl, rfl, h0, hM, hb⟩ := hrel
    by_cases hlt : j < n
    · obtain ⟨b, off, m, sh, A', n', cap', rfl, hbB, hcd, c0, c1, hsh⟩ := (hl.below cdE_lasts hb (Nat.le_refl _) (Nat.le_refl _)).atC hlt
      have hc := cdAt_eq hcd
      have hji : (j : Int) < (n : Int) := by omega
      have hj0 : (0 : Int) ≤ (j : Int) := by omega
      have hBw : w.heap.size ≤ wr.heap.size := hb.size
      have hsh' : ∀ o, RdP (wr.alloc o) (wr.alloc o).heap.size A' n' cap' sh := fun o => hsh.below (flat_lasts _) ((Below.refl wr.heap.size wr).alloc (Nat.le_refl _) o) hBw (by simp; omega)
      cases hC : cardF (m, sh) t
      · have HR := Lib.hid (chkA_form h0 (by rw [hc]; exact hC) hlt)
        have HC := Lib.hid hC
        clear hC h0 hcd hc he
        go_wp2_with (first
          | (go_at_call 48; refine (bright_any m A' n' cap' sh t _ (hsh' _) (by omega)).mono ?_; rw [HC.out]; rintro e w1 ⟨rfl, hb1⟩))
        go_ret
        exact ⟨congrArg (fun z => Ending.returned (Value.int .i64 z)) HR.out.symm, (hb.alloc hb.size _).trans (hb1.mono (by simp; omega))⟩
      · have hm : 0 ≤ m ∧ m < 4000 := by simp [cardF, memF] at hC; omega
        obtain ⟨m1, m2⟩ := hm
        have hwf : (Lit.int .i64 m).wf = true := WalkArith.wf_i64 (by omega)
        have hil2 : j < maxLen := by simp only [maxLen]; omega
        cases hd : decide (m ∈ memL l j)
        · have HN := Lib.hid (chkA_next h0 (by rw [hc]; exact hC) (by rw [hc]; simpa using hd))
          have HC := Lib.hid hC; have HD := Lib.hid hd; have HM1 := Lib.hid (show (cdAt l j).1 = m by rw [hc])
          clear hC hd h0 hcd hc he
          go_wp2_with (first
            | (go_at_call 48; refine (bright_any m A' n' cap' sh t _ (hsh' _) (by omega)).mono ?_; rw [HC.out]; rintro e w1 ⟨rfl, hb1⟩
               have hc1 : w1.cell? ⟨wr.heap.size, 0, none⟩ = some (.int .i64 m) := (hb1.cell (by simp)).trans (by simp)
               have hM1 := (hM.alloc (.cells #[.int .i64 m, .slice A' n' cap'] 47)).below hb1 (by simp; omega)
               have hlk := hM1.look Try.underlying73 Try.underlying3 Try.underlying4 zero_bool m hwf
               rw [HD.out] at hlk
               have hbb := (hb.alloc hb.size (.cells #[.int .i64 m, .slice A' n' cap'] 47)).trans (hb1.mono (by simp; omega)))
            | (at_mapUpdate; refine wpList_mapUpdate_own _ rfl _ _ _ 73 rfl 3 4 (Go.Maps.int_keyed Try.underlying3) Try.underlying73 _ w.heap.size j _ rfl hM1 hil2 _ _ (.int .i64 m) rfl rfl (Go.Maps.keyOf_int_mk Try.underlying3 hwf) (.lit (.bool true)) [] (plainElem_bool Try.underlying4 true) ?_; intro w2 hown2 hgrow2))
          go_roundg (n - (j + 1))
          case rel => exact ⟨j + 1, by omega, rfl, by go_num, HN.out, by rw [memL, HM1.out]; exact hown2, hbb.grown hgrow2 (by have := hbb.size; omega) (by intro k hk; cases hk; omega)⟩
          case measure => omega
        · have HT := Lib.hid (chkA_twice h0 (by rw [hc]; exact hC) (by rw [hc]; simpa using hd) hlt)
          have HC := Lib.hid hC; have HD := Lib.hid hd
          clear hC hd h0 hcd hc he
          go_wp2_with (first
            | (go_at_call 48; refine (bright_any m A' n' cap' sh t _ (hsh' _) (by omega)).mono ?_; rw [HC.out]; rintro e w1 ⟨rfl, hb1⟩
               have hc1 : w1.cell? ⟨wr.heap.size, 0, none⟩ = some (.int .i64 m) := (hb1.cell (by simp)).trans (by simp)
               have hM1 := (hM.alloc (.cells #[.int .i64 m, .slice A' n' cap'] 47)).below hb1 (by simp; omega)
               have hlk := hM1.look Try.underlying73 Try.underlying3 Try.underlying4 zero_bool m hwf
               rw [HD.out] at hlk
               have hbb := (hb.alloc hb.size (.cells #[.int .i64 m, .slice A' n' cap'] 47)).trans (hb1.mono (by simp; omega))))
          go_ret
          exact ⟨congrArg (fun z => Ending.returned (Value.int .i64 z)) HT.out.symm, hbb⟩
    · have e : j = n := by omega
      subst e
      go_wp2
      go_ret
      exact ⟨by rw [h0]; rfl, hb⟩
end Go.Proofs.Ytfidjhhpcjmioaa
