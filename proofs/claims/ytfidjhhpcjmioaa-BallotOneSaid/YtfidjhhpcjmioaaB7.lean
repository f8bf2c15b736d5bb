/- Walks over Cast and Open of package ballot and of its reference. Conditions stand in each theorem. -/
import Derived.Test.YtfidjhhpcjmioaaB6
import Derived.Test.YtfidjhhpcjmioaaL2
import Derived.Handy
namespace Go.Proofs.Ytfidjhhpcjmioaa
open Go.RowKit
set_option linter.unusedVariables false

/-- what a member has said, as a number -/
def yesI (y : Bool) : Int := if y then 1 else 0
/-- what Cast returns -/
def castF (m : Int) (y : Bool) (t k s : Int) : Crd × Int := if splitBad (yesI y) k t = true ∨ memF m = false then ((0, []), 1) else ((m, splitL (yesI y) k s t.toNat), 0)
def CastPost (w : World) (c : Crd × Int) (e : Ending) (w' : World) : Prop :=
  ∃ A n cap, e = .returned (.tuple #[.agg #[.int .i64 c.1.1, .slice A n cap], .int .i64 c.2]) ∧ RdP w' w'.heap.size A n cap c.1.2 ∧ (∀ b off, A = some ⟨b, off, none⟩ → w.heap.size ≤ b) ∧ Below w.heap.size w w'

theorem two_set {w : World} {p : Nat} {u0 v0 : Value} (u v : Value) (h0 : w.cell? ⟨p, 0, none⟩ = some u0) (h1 : w.cell? ⟨p, 1, none⟩ = some v0) :
    ((w.setCell ⟨p, 0, none⟩ u).setCell ⟨p, 1, none⟩ v).cell? ⟨p, 0, none⟩ = some u ∧ ((w.setCell ⟨p, 0, none⟩ u).setCell ⟨p, 1, none⟩ v).cell? ⟨p, 1, none⟩ = some v := by
  refine ⟨(World.cell?_setCell_other _ ⟨p, 1, none⟩ ⟨p, 0, none⟩ _ (by simp)).trans (World.cell?_setCell_same _ _ _ h0), World.cell?_setCell_same (u := v0) _ _ _ ?_⟩
  exact (World.cell?_setCell_other _ ⟨p, 0, none⟩ ⟨p, 1, none⟩ _ (by simp)).trans h1
theorem yesI_inF (y : Bool) : inF (yesI y) = true := by cases y <;> rfl
theorem cast_bad (m : Int) (y : Bool) (t k s : Int) (w : World) (hb : splitBad (yesI y) k t = true) :
  Calls Try.prog 25 #[.int .i64 m, .bool y, .int .i64 t, .int .i64 k, .int .i64 s] w (CastPost w ((0, []), 1)) := by
  have hsp := fun w => split_bad (yesI y) k t s w hb
  cases y
  all_goals
    simp only [yesI, Bool.false_eq_true, if_false, if_true] at hsp
    go_enter Try.func25, Try.ntmps25
    go_wp2_with (first
        | (go_at_call 13; refine (hsp _).mono ?_; rintro e w1 ⟨rfl, rfl⟩))
    go_returns
    exact ⟨none, 0, 0, by simp, Rd.nil, (fun _ _ h => by cases h), (Below.refl w.heap.size w).alloc (Nat.le_refl _) _⟩
theorem cast_no (m : Int) (y : Bool) (t k : Nat) (s : Int) (w : World) (hm : memF m = false) (hb : splitBad (yesI y) k t = false) (hs : -9223372036854775808 ≤ s ∧ s ≤ 9223372036854775807) :
  Calls Try.prog 25 #[.int .i64 m, .bool y, .int .i64 t, .int .i64 k, .int .i64 s] w (CastPost w ((0, []), 1)) := by
  have hb' : 1 ≤ t ∧ t ≤ 20 ∧ 1 ≤ k ∧ k ≤ t := by simp [splitBad] at hb; omega
  have hsp := fun w => split_ok (yesI y) s k t w (yesI_inF y) hb'.1 hb'.2.1 hb'.2.2.1 hb'.2.2.2 hs.1 hs.2
  have hmm := fun w => isMember_any m w
  have Hll := Lib.hid (splitL_len (yesI y) k s t)
  generalize splitL (yesI y) k s t = L at *
  simp only [hm] at hmm
  clear hm hb
  cases y
  all_goals
    simp only [yesI, Bool.false_eq_true, if_false, if_true] at hsp
    go_enter Try.func25, Try.ntmps25
    go_wp2_with (first
      | (go_at_call 13
         refine (hsp _).mono ?_
         rintro e w1 ⟨v1, rfl, ho, hb1⟩
         have k0 : w1.cell? ⟨w.heap.size, 0, none⟩ = some (.int .i64 0) := (hb1.cell (by simp)).trans (by simp)
         have k1 : w1.cell? ⟨w.heap.size, 1, none⟩ = some (.slice none 0 0) := (hb1.cell (by simp)).trans (by simp)
         have f0 : w1.frozen? ⟨w.heap.size, 0, none⟩ = false := (hb1.frozen (by simp)).trans (by simp)
         have f1 : w1.frozen? ⟨w.heap.size, 1, none⟩ = false := (hb1.frozen (by simp)).trans (by simp)
         have hne : v1.ownBlock ≠ some w.heap.size := fun e => by have := (ho.lt _ e).1; simp at this; omega
         obtain ⟨A, c, rfl, -⟩ := ho.rd pSized (by have := Hll.out; omega)
         obtain ⟨z0, z1⟩ := two_set (.int .i64 0) (.slice none 0 0) k0 k1
         have hb2 := ((Below.refl w.heap.size w).alloc (Nat.le_refl _) (.cells #[.int .i64 0, .slice none 0 0] 47)).trans (hb1.mono (by simp)))
      | (go_at_call 45; refine (hmm _).mono ?_; rintro e w2 ⟨rfl, rfl⟩))
    have hb5 : Below w.heap.size w ((w1.setCell ⟨w.heap.size, 0, none⟩ (.int .i64 0)).setCell ⟨w.heap.size, 1, none⟩ (.slice none 0 0)) := (hb2.setCell (Nat.le_refl _) _).setCell (Nat.le_refl _) _
    generalize (w1.setCell ⟨w.heap.size, 0, none⟩ (.int .i64 0)).setCell ⟨w.heap.size, 1, none⟩ (.slice none 0 0) = w5 at *
    exact bodyPost_ret (v := .tuple #[.agg #[.int .i64 0, .slice none 0 0], .int .i64 1]) (by simp [results, Try.results25, go_sem, z0, z1]) rfl ⟨none, 0, 0, by simp, Rd.nil, (fun _ _ h => by cases h), hb5⟩
theorem cast_yes (m : Int) (y : Bool) (t k : Nat) (s : Int) (w : World) (hm : memF m = true) (hb : splitBad (yesI y) k t = false) (hs : -9223372036854775808 ≤ s ∧ s ≤ 9223372036854775807) :
  Calls Try.prog 25 #[.int .i64 m, .bool y, .int .i64 t, .int .i64 k, .int .i64 s] w (CastPost w ((m, splitL (yesI y) k s t), 0)) := by
  have hb' : 1 ≤ t ∧ t ≤ 20 ∧ 1 ≤ k ∧ k ≤ t := by simp [splitBad] at hb; omega
  have hsp := fun w => split_ok (yesI y) s k t w (yesI_inF y) hb'.1 hb'.2.1 hb'.2.2.1 hb'.2.2.2 hs.1 hs.2
  have hmm := fun w => isMember_any m w
  have Hll := Lib.hid (splitL_len (yesI y) k s t)
  generalize splitL (yesI y) k s t = L at *
  simp only [hm] at hmm
  clear hm hb
  cases y
  all_goals
    simp only [yesI, Bool.false_eq_true, if_false, if_true] at hsp
    go_enter Try.func25, Try.ntmps25
    go_wp2_with (first
      | (go_at_call 13
         refine (hsp _).mono ?_
         rintro e w1 ⟨v1, rfl, ho, hb1⟩
         have k0 : w1.cell? ⟨w.heap.size, 0, none⟩ = some (.int .i64 0) := (hb1.cell (by simp)).trans (by simp)
         have k1 : w1.cell? ⟨w.heap.size, 1, none⟩ = some (.slice none 0 0) := (hb1.cell (by simp)).trans (by simp)
         have f0 : w1.frozen? ⟨w.heap.size, 0, none⟩ = false := (hb1.frozen (by simp)).trans (by simp)
         have f1 : w1.frozen? ⟨w.heap.size, 1, none⟩ = false := (hb1.frozen (by simp)).trans (by simp)
         have hne : v1.ownBlock ≠ some w.heap.size := fun e => by have := (ho.lt _ e).1; simp at this; omega
         obtain ⟨A, c, rfl, -⟩ := ho.rd pSized (by have := Hll.out; omega)
         obtain ⟨z0, z1⟩ := two_set (.int .i64 m) (.slice A L.length c) k0 k1
         have hb2 := ((Below.refl w.heap.size w).alloc (Nat.le_refl _) (.cells #[.int .i64 0, .slice none 0 0] 47)).trans (hb1.mono (by simp)))
      | (go_at_call 45; refine (hmm _).mono ?_; rintro e w2 ⟨rfl, rfl⟩))
    have hb5 : Below w.heap.size w ((w1.setCell ⟨w.heap.size, 0, none⟩ (.int .i64 m)).setCell ⟨w.heap.size, 1, none⟩ (.slice A L.length c)) := (hb2.setCell (Nat.le_refl _) _).setCell (Nat.le_refl _) _
    have ho5 := (ho.kept (grown_set w1 w.heap.size 0 (.int .i64 m)) (Or.inr hne)).kept (grown_set _ w.heap.size 1 (.slice A L.length c)) (Or.inr hne)
    obtain ⟨A', c', hv, hr⟩ := ho5.rd pSized (by have := Hll.out; omega)
    injection hv with e1 e2 e3
    subst e1 e3
    generalize (w1.setCell ⟨w.heap.size, 0, none⟩ (.int .i64 m)).setCell ⟨w.heap.size, 1, none⟩ (.slice A L.length c) = w5 at *
    exact bodyPost_ret (v := .tuple #[.agg #[.int .i64 m, .slice A L.length c], .int .i64 0]) (by simp [results, Try.results25, go_sem, z0, z1]) rfl ⟨A, _, c, by simp, hr, (fun b off e => by subst e; have := (ho5.lt b rfl).1; simp at this; omega), hb5⟩
theorem cast_ok (m : Int) (y : Bool) (t k : Nat) (s : Int) (w : World) (hb : splitBad (yesI y) k t = false) (hs : -9223372036854775808 ≤ s ∧ s ≤ 9223372036854775807) :
  Calls Try.prog 25 #[.int .i64 m, .bool y, .int .i64 t, .int .i64 k, .int .i64 s] w (CastPost w (if memF m then ((m, splitL (yesI y) k s t), 0) else ((0, []), 1))) := by
  cases hm : memF m
  · exact cast_no m y t k s w hm hb hs
  · exact cast_yes m y t k s w hm hb hs
theorem cast_any (m : Int) (y : Bool) (t k s : Int) (w : World) (hs : -9223372036854775808 ≤ s ∧ s ≤ 9223372036854775807) :
  Calls Try.prog 25 #[.int .i64 m, .bool y, .int .i64 t, .int .i64 k, .int .i64 s] w (CastPost w (castF m y t k s)) := by
  cases hb : splitBad (yesI y) k t
  · have h1 : 1 ≤ t ∧ 1 ≤ k := by simp [splitBad] at hb; omega
    obtain ⟨k, rfl⟩ := Int.eq_ofNat_of_zero_le (show 0 ≤ k by omega)
    obtain ⟨t, rfl⟩ := Int.eq_ofNat_of_zero_le (show 0 ≤ t by omega)
    have h := cast_ok m y t k s w hb hs
    have e : castF m y t k s = (if memF m then ((m, splitL (yesI y) k s t), 0) else ((0, []), 1)) := by
      unfold castF
      rw [hb]
      cases memF m <;> simp
    rw [e]; exact h
  · have e : castF m y t k s = ((0, []), 1) := by unfold castF; rw [if_pos (Or.inl hb)]
    rw [e]; exact cast_bad m y t k s w hb

/-- what Open returns -/
def openF (l : List (Int × Int)) (k c : Int) : Int × Int := if (joinF l k).2 ≠ 0 then (0, (joinF l k).2) else if c < (joinF l k).1 then (0, 3) else ((joinF l k).1, 0)
theorem open_any (A : Option Addr) (n cap : Nat) (l : List (Int × Int)) (k c : Int) (w : World) (hl : RdP w w.heap.size A n cap l) :
  Calls Try.prog 29 #[.slice A n cap, .int .i64 k, .int .i64 c] w fun e w' => e = .returned (.tuple #[.int .i64 (openF l k c).1, .int .i64 (openF l k c).2]) ∧ Below w.heap.size w w' := by
  have hj := join_any A n cap l k w hl
  unfold openF
  generalize joinF l k = J at *
  obtain ⟨a, b⟩ := J
  have Hj := Lib.hid hj; clear hj
  by_cases h1 : b = 0
  · subst h1
    rw [if_neg (by simp)]
    by_cases h2 : c < a
    · rw [if_pos h2]
      go_enter Try.func29, Try.ntmps29
      go_wp2_with (go_at_call 15; refine Hj.out.mono ?_; rintro e w1 ⟨rfl, hb1⟩)
      go_ret2
      exact ⟨rfl, hb1⟩
    · rw [if_neg h2]
      have hd : decide (c < a) = false := by simpa using h2
      go_enter Try.func29, Try.ntmps29
      go_wp2_with (go_at_call 15; refine Hj.out.mono ?_; rintro e w1 ⟨rfl, hb1⟩)
      go_ret2
      exact ⟨rfl, hb1⟩
  · rw [if_pos h1]
    have e1 : (b != 0) = true := by simpa using h1
    go_enter Try.func29, Try.ntmps29
    go_wp2_with (go_at_call 15; refine Hj.out.mono ?_; rintro e w1 ⟨rfl, hb1⟩)
    go_ret2
    exact ⟨rfl, hb1⟩
end Go.Proofs.Ytfidjhhpcjmioaa
