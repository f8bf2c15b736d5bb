/- Walks over the reference of layer 7: Inverse, at. Conditions stand in each theorem. -/
import Derived.Test.YtfidjhhpcjmioaaW5
import Derived.StillTailTactics
namespace Go.Proofs.Ytfidjhhpcjmioaa
open Go.RowKit
set_option linter.unusedVariables false

theorem below_drewN {B : Nat} {a w : World} (h : Below B a w) (n : Nat) : Below B a (w.drewN n) := ⟨h.os, h.tape, h.output, h.size, h.block⟩

theorem inverse_any (n : Int) (w : World) (h1 : 0 ≤ n) (h2 : n < 2147483647) : Calls Try.prog 54 #[.int .i64 n] w fun e w' => e = .returned (.int .i64 (invF n)) ∧ w = w' := by
  go_enter Try.func54, Try.ntmps54
  go_wp2
  go_loopg [3, 4, 5, 6] (n.toNat) (fun gk a b x y wr => ∃ a' b' x' y' : Int, a = .int .i64 a' ∧ b = .int .i64 b' ∧ x = .int .i64 x' ∧ y = .int .i64 y' ∧ 0 ≤ a' ∧ a' ≤ 2147483647 ∧ 0 ≤ b' ∧ b' < 2147483647 ∧ 0 ≤ x' ∧ x' < 2147483647 ∧ 0 ≤ y' ∧ y' < 2147483647 ∧ gk = b'.toNat ∧ invF n = invL (b'.toNat + 1) a' b' x' y' ∧ w = wr)
  case atStart => exact ⟨_, _, _, _, rfl, rfl, rfl, rfl, by omega, by omega, h1, h2, by omega, by omega, by omega, by omega, rfl, rfl, rfl⟩
  case round =>
    obtain ⟨a, b, x, y, rfl, rfl, rfl, rfl, a1, a2, b1, b2, x1, x2, y1, y2, hgk, hinv, rfl⟩ := hrel
    have Hgk := Lib.hid hgk; clear hgk
    have Hinv := Lib.hid hinv; clear hinv
    by_cases hb : 0 < b
    · have q1 : 0 ≤ a / b := Int.ediv_nonneg a1 b1
      have q2 : a / b ≤ 2147483647 := Int.le_trans (Int.ediv_le_self b a1) a2
      have r1 : 0 ≤ a / b * b := Int.mul_nonneg q1 b1
      have r2 : a / b * b ≤ a := Int.ediv_mul_le a (by omega)
      have p1 : 0 ≤ a / b * y := Int.mul_nonneg q1 y1
      have p2 : a / b * y ≤ 2147483647 * 2147483647 := Int.mul_le_mul q2 (by omega) y1 (by omega)
      have m1 := Int.emod_nonneg a (show b ≠ 0 by omega)
      have m2 := Int.emod_lt_of_pos a hb
      have me : a - a / b * b = a % b := by have := Int.emod_def a b; rw [Int.mul_comm] at this; omega
      have s1 : 0 ≤ a - a / b * b := by omega
      have s2 : a - a / b * b < b := by omega
      have Hm := Lib.hid me; clear me m1 m2
      have t1 := (mod_bd (a / b * y)).1
      have t2 := (mod_bd (a / b * y)).2
      go_wp2_with (go_at_call 21; refine (mod_any _ _ (by omega) (by omega)).mono ?_; rintro e w' ⟨rfl, rfl⟩)
      go_roundg ((a - a / b * b).toNat)
      case rel =>
        refine ⟨b, a - a / b * b, y, (x - a / b * y) % 2147483647, rfl, ?_, rfl, rfl, b1, by omega, s1, by omega, y1, y2, (mod_bd _).1, (mod_bd _).2, rfl, ?_, rfl⟩
        · rfl
        · rw [Hinv.out, invL, if_pos hb]
          exact invL_more _ _ _ _ _ _ s1 (by omega) (by omega)
      case measure => rw [Hgk.out]; omega
    · have e0 : b = 0 := by omega
      go_wp2
      go_ret
      exact ⟨congrArg (fun z => Ending.returned (Value.int .i64 z)) (by rw [Hinv.out, invL, if_neg (by omega)]), rfl⟩

theorem at_any (A D : Option Addr) (n cap capd : Nat) (l : List (Int × Int)) (d : List Int) (t : Int) (w : World) (hl : RdP w w.heap.size A n cap l) (hd : RdI w w.heap.size D n capd d)
    (hX : ∀ s ∈ l, ptOk s) (hD : ∀ x ∈ d, 0 ≤ x ∧ x < 2147483647) (ht : 0 ≤ t) (ht' : t ≤ 1000) : 
  Calls Try.prog 52 #[.slice A n cap, .slice D n capd, .int .i64 t] w fun e w' => e = .returned (.int .i64 (nwt (fi d) (fx l) t n n)) ∧ ∃ q, w' = w.drewN q := by
  obtain ⟨hn1, hn2, hn3⟩ := hl.caps
  go_enter Try.func52, Try.ntmps52
  go_wp2
  go_loopg [7, 8] n (fun gk y i wr => ∃ i' y' : Int, -1 ≤ i' ∧ i' ≤ (n : Int) - 1 ∧ gk = (i' + 1).toNat ∧ i = .int .i64 i' ∧ y = .int .i64 y' ∧ 0 ≤ y' ∧ y' < 2147483647 ∧ y' = nwt (fi d) (fx l) t n ((n : Int) - 1 - i').toNat ∧ ∃ q, wr = w.drewN q)
  case atStart => exact ⟨_, _, by omega, by omega, by omega, rfl, rfl, by omega, by omega, by rw [Int.sub_self]; rfl, 0, rfl⟩
  case round =>
    obtain ⟨i, y, i1, i2, hgk, rfl, rfl, y1, y2, hy, q, rfl⟩ := hrel
    have Hgk := Lib.hid hgk; clear hgk
    have Hy := Lib.hid hy; clear hy
    by_cases hip : 0 ≤ i
    · obtain ⟨j, rfl⟩ := Int.eq_ofNat_of_zero_le hip
      have hj : j < n := by omega
      obtain ⟨b, off, x, xy, rfl, hbB, hx, c0, c1⟩ := hl.atP hj
      obtain ⟨b', off', z, rfl, hbB', hz, d0⟩ := hd.atI hj
      obtain ⟨x1, x2, _, _⟩ := hX _ (List.mem_of_getElem? hx)
      simp only at x1 x2
      obtain ⟨z1, z2⟩ := hD _ (List.mem_of_getElem? hz)
      have Hx := Lib.hid (fx_eq hx)
      have Hz := Lib.hid (fi_eq hz)
      clear hx hz c1
      have t1 := (mod_bd (t - x)).1
      have t2 := (mod_bd (t - x)).2
      obtain ⟨p1, p2⟩ := mul_bd y1 y2 t1 t2
      have hji : (j : Int) < (n : Int) := by omega
      have hj0 : (0 : Int) ≤ (j : Int) := by omega
      go_wp2_with fail
      go_quiet ((go_at_call 21; exact (mod_any _ _ (by omega) (by omega)).mono fun _ _ ⟨he, hm⟩ => ⟨he, _, hm.symm⟩))
      go_wp2
      go_roundg j
      case rel =>
        refine ⟨(j : Int) - 1, _, by omega, by omega, by omega, rfl, rfl, (mod_bd _).1, (mod_bd _).2, ?_, _, rfl⟩
        have e1 : ((n : Int) - 1 - ((j : Int) - 1)).toNat = ((n : Int) - 1 - j).toNat + 1 := by omega
        rw [e1, nwt, ← Hy.out]
        have e2 : n - 1 - ((n : Int) - 1 - j).toNat = j := by omega
        rw [e2, Hx.out, Hz.out]
      case measure => rw [Hgk.out]; omega
    · have e : i = -1 := by omega
      subst e
      have e1 : ((n : Int) - 1 - -1).toNat = n := by omega
      rw [e1] at Hy
      go_wp2
      go_ret
      exact ⟨congrArg (fun z => Ending.returned (Value.int .i64 z)) Hy.out, _, rfl⟩
end Go.Proofs.Ytfidjhhpcjmioaa
