/- Walks over trim, Right and compare of package big, and Compare and Or of package cmp; laws of bits. Conditions stand in each theorem. -/
import Derived.Test.YtkeajohkpmabcaaDoorN5
import Derived.Laws.BitsLemmas
import Derived.Laws.BitsAllLaws
namespace Go.Proofs.YtkeajohkpmabcaaDoor
open Go.RowKit
set_option linter.unusedVariables false

theorem and_mask (n : Int) : bits .and .i64 n 1048575 = n % 1048576 := by
  have h127 : (BitVec.ofInt 64 1048575).toNat = 2 ^ 20 - 1 := by decide
  have key : (BitVec.ofInt 64 n &&& BitVec.ofInt 64 1048575).toNat = (n % ((2 ^ 64 : Nat) : Int)).toNat % 2 ^ 20 := by
    rw [BitVec.toNat_and, BitVec.toNat_ofInt, h127, Nat.and_two_pow_sub_one_eq_mod]
  show IntKind.i64.wrap ((BitVec.ofInt 64 n &&& BitVec.ofInt 64 1048575).toNat : Nat) = n % 1048576
  rw [key, IntKind.wrap_i64]
  omega
theorem and_bit (n : Int) : bits .and .i64 n 1 = n % 2 := by
  have h127 : (BitVec.ofInt 64 1).toNat = 2 ^ 1 - 1 := by decide
  have key : (BitVec.ofInt 64 n &&& BitVec.ofInt 64 1).toNat = (n % ((2 ^ 64 : Nat) : Int)).toNat % 2 ^ 1 := by
    rw [BitVec.toNat_and, BitVec.toNat_ofInt, h127, Nat.and_two_pow_sub_one_eq_mod]
  show IntKind.i64.wrap ((BitVec.ofInt 64 n &&& BitVec.ofInt 64 1).toNat : Nat) = n % 2
  rw [key, IntKind.wrap_i64]
  omega
theorem wraps_i64 (n : Int) (h₀ : 0 ≤ n) (h₁ : n < 2 ^ 63) : IntKind.i64.wrap n = n := by rw [IntKind.wrap_i64]; omega
theorem or_join (r a : Int) (h1 : 0 ≤ r) (h2 : r < 1099511627776) (h3 : 0 ≤ a) (h4 : a < 1048576) : bits .or .i64 (r * 1048576) a = r * 1048576 + a :=
  bits_join .i64 63 (by decide) wraps_i64 20 (r * 1048576) a (by omega) (by omega) (by omega) h3 (by omega) (by omega)
theorem trimL_take {l : List Int} {k : Nat} (hz : ∀ j, k ≤ j → j < l.length → gi l j = 0) (hk : k ≤ l.length) : trimL l = trimL (l.take k) := by
  induction hn : l.length - k generalizing k with
  | zero => rw [List.take_of_length_le (by omega)]
  | succ n ih =>
    have h1 := ih (k := k + 1) (fun j h1 h2 => hz j (by omega) h2) (by omega) (by omega)
    have h2 : l.take (k + 1) = l.take k ++ [0] := by
      rw [List.take_succ_eq_append_getElem (by omega)]
      congr 2
      have := hz k (Nat.le_refl _) (by omega)
      rw [gi_eq (List.getElem?_eq_getElem (by omega))] at this
      exact this
    rw [h1, h2, trimL_snoc_zero]
theorem trimL_stop {l : List Int} {k : Nat} (hk : k ≤ l.length) (h : 0 < k → gi l (k - 1) ≠ 0) : trimL (l.take k) = l.take k := by
  by_cases h0 : k = 0
  · subst h0; rfl
  · have h2 : l.take k = l.take (k - 1) ++ [gi l (k - 1)] := by
      have e : k = (k - 1) + 1 := by omega
      have h3 := List.take_succ_eq_append_getElem (l := l) (i := k - 1) (by omega)
      rw [← e] at h3
      rw [h3]
      congr 2
      exact (gi_eq (List.getElem?_eq_getElem (by omega))).symm
    rw [h2, trimL_snoc (h (by omega))]
set_option maxRecDepth 100000 in
set_option maxHeartbeats 1000000 in
theorem trim_any (A : Option Addr) (n cap : Nat) (l : List Int) (w : World) (hl : RdI w w.heap.size A n cap l) :
    Calls Tryd.prog 36 #[.slice A n cap] w fun e w' => (∃ k, k ≤ n ∧ e = .returned (.slice A k cap) ∧ trimL l = l.take k) ∧ w = w' := by
  have hln := hl.len
  have hcap := hl.caps
  go_enter Tryd.func36, Tryd.ntmps36
  go_wp2
  go_loopg [3] n (fun gk a wr => ∃ k : Nat, k ≤ n ∧ k = gk ∧ a = .int .i64 k ∧ (∀ j, k ≤ j → j < n → gi l j = 0) ∧ w = wr)
  case atStart => exact ⟨n, Nat.le_refl _, rfl, rfl, (fun j h1 h2 => absurd h2 (by omega)), rfl⟩
  case round =>
    obtain ⟨k, hk, rfl, rfl, hz, rfl⟩ := hrel
    have Hz := Lib.hid hz
    clear hz
    rcases Nat.eq_zero_or_pos k with hk0 | hk0
    · subst hk0
      have hd : decide ((0 : Int) < ((0 : Nat) : Int)) = false := by simp
      have Hfin := Lib.hid (show trimL l = l.take 0 from by
        rw [trimL_take (k := 0) (fun j h1 h2 => Hz.out j h1 (by omega)) (by omega)]; rfl)
      go_wp2
      go_ret
      exact ⟨⟨0, by omega, rfl, Hfin.out⟩, rfl⟩
    · obtain ⟨m, rfl⟩ : ∃ m, k = m + 1 := ⟨k - 1, by omega⟩
      obtain ⟨b, off, x, rfl, hb, hx, c0⟩ := hl.atI (k := m) (by omega)
      have Hx := Lib.hid (gi_eq hx)
      have h1 : (m : Int) < (n : Int) := by omega
      have h2 : (0 : Int) ≤ (m : Int) := by omega
      have h3 : (0 : Int) < (m : Int) + 1 := by omega
      have h4 : ((m : Int) + 1) ≤ (cap : Int) := by omega
      clear hx
      by_cases hx0 : x = 0
      · have hd : (x == 0) = true := by simp [hx0]
        have Hn := Lib.hid (show ∀ j, m ≤ j → j < n → gi l j = 0 from fun j h1 h2 => by
          by_cases e : j = m
          · subst e; rw [Hx.out]; exact hx0
          · exact Hz.out j (by omega) h2)
        clear hx0
        go_wp2
        go_roundg m
        case rel => exact ⟨m, by omega, rfl, by go_num, Hn.out, rfl⟩
        case measure => omega
      · have hd : (x == 0) = false := by simp [hx0]
        have Hfin := Lib.hid (show trimL l = l.take (m + 1) from by
          rw [trimL_take (k := m + 1) (fun j h1 h2 => Hz.out j h1 (by omega)) (by omega)]
          exact trimL_stop (by omega) (fun _ => by rw [Nat.add_sub_cancel, Hx.out]; exact hx0))
        clear hx0
        go_wp2
        go_ret
        exact ⟨⟨m + 1, by omega, rfl, Hfin.out⟩, rfl⟩
/-- what Right says of a big integer -/
def rightB (s : Int) (l : List Int) : Bool := l.all (inB 0 1048575) && (if l.length = 0 then decide (s = 0) else ((decide (s = 1) || decide (s = -1)) && (decide (l.length ≤ 60) && decide (gi l (l.length - 1) ≠ 0))))
theorem ncmp_any (x y : Int) (w : World) : Calls Tryd.prog 44 #[.int .i64 x, .int .i64 y] w fun e w' => e = .returned (.int .i64 (cmpI x y)) ∧ w = w' := by
  have hnan : ∀ z, Calls Tryd.prog 61 #[.int .i64 z] w fun e w' => e = .returned (.bool false) ∧ w = w' := fun z => by
    have hz : (z != z) = false := by simp
    go_enter Tryd.func61, Tryd.ntmps61
    go_wp2
    go_ret
    exact ⟨rfl, rfl⟩
  have Hn := Lib.hid hnan
  clear hnan
  have hc : (decide (x < y) = true ∧ cmpI x y = -1) ∨ (decide (x < y) = false ∧ decide (y < x) = true ∧ cmpI x y = 1) ∨ (decide (x < y) = false ∧ decide (y < x) = false ∧ cmpI x y = 0) := by
    unfold cmpI
    by_cases h1 : x < y
    · exact Or.inl ⟨by simpa using h1, if_pos h1⟩
    · by_cases h2 : y < x
      · exact Or.inr (Or.inl ⟨by simpa using h1, by simpa using h2, by rw [if_neg h1, if_pos h2]⟩)
      · exact Or.inr (Or.inr ⟨by simpa using h1, by simpa using h2, by rw [if_neg h1, if_neg h2]⟩)
  rcases hc with ⟨h1, h2⟩ | ⟨h1, h2, h3⟩ | ⟨h1, h2, h3⟩
  all_goals
    first | rw [h3] | rw [h2]
    first | clear h3 | clear h2
    go_enter Tryd.func44, Tryd.ntmps44
    go_wp2_with fail
    refine (Hn.out _).mono ?_
    rintro e _ ⟨rfl, rfl⟩
    go_wp2_with fail
    refine (Hn.out _).mono ?_
    rintro e _ ⟨rfl, rfl⟩
    go_wp2
    go_ret
    exact ⟨rfl, rfl⟩
end Go.Proofs.YtkeajohkpmabcaaDoor
