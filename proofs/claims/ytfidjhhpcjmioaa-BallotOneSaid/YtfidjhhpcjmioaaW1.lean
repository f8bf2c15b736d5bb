/- Walks over the functions of package share and its reference that only compute: power, Mod, Inverse, value. Conditions stand in each theorem. -/
import Derived.Test.YtfidjhhpcjmioaaProg
import Derived.Test.YtfidjhhpcjmioaaMem
import Derived.Test.YtfidjhhpcjmioaaFld
import Derived.LoopTactic
import Derived.Deep.QuietTactic
import Derived.BigQuiet
import Derived.Laws.BitsAllLaws
import Derived.Laws.BitsLemmas
namespace Go.Proofs.Ytfidjhhpcjmioaa
open Go.RowKit
set_option linter.unusedVariables false

theorem ofInt_i64 (a : Nat) (ha : a < 9223372036854775808) : (BitVec.ofInt 64 (a : Int)).toNat = a := by
  rw [BitVec.ofInt_natCast, BitVec.toNat_ofNat]; exact Nat.mod_eq_of_lt (by omega)
theorem i64_and_nat (a b : Nat) (ha : a < 9223372036854775808) (hb : b < 9223372036854775808) : bits .and .i64 (a : Int) (b : Int) = ((a &&& b : Nat) : Int) := by
  have hx : a &&& b < 2 ^ 63 := Nat.and_lt_two_pow _ (by omega)
  show IntKind.i64.wrap ((BitVec.ofInt 64 (a : Int) &&& BitVec.ofInt 64 (b : Int)).toNat : Int) = _
  rw [BitVec.toNat_and, ofInt_i64 a ha, ofInt_i64 b hb, IntKind.wrap_i64]
  omega
theorem i64_and_one (a : Int) (h : 0 ≤ a) (ha : a < 9223372036854775808) : bits .and .i64 a 1 = a % 2 := by
  obtain ⟨n, rfl⟩ := Int.eq_ofNat_of_zero_le h
  have e := i64_and_nat n 1 (by omega) (by omega)
  rw [Nat.and_one_is_mod] at e
  simpa using e

theorem power_any (a n : Int) (w : World) (ha : 0 ≤ a) (ha' : a < 2147483647) (hn : 0 ≤ n) (hn' : n ≤ 9223372036854775807) : Calls Try.prog 50 #[.int .i64 a, .int .i64 n] w fun e w' => e = .returned (.int .i64 (pw a n)) ∧ w = w' := by
  unfold pw
  go_enter Try.func50, Try.ntmps50
  go_wp2
  go_loop [0, 1, 5] (fun x y o => ∃ x' y' o' : Int, x = .int .i64 x' ∧ y = .int .i64 y' ∧ o = .int .i64 o' ∧ 0 ≤ x' ∧ x' < 2147483647 ∧ 0 ≤ o' ∧ o' < 2147483647 ∧ 0 ≤ y' ∧ y' ≤ n ∧ o' * x' ^ y'.toNat % 2147483647 = a ^ n.toNat % 2147483647) (fun _ y _ => (intOf y).toNat)
  case atStart => exact ⟨a, n, 1, rfl, rfl, rfl, ha, ha', by omega, by omega, hn, by omega, by rw [Int.one_mul]⟩
  case round =>
    obtain ⟨x, y, o, rfl, rfl, rfl, h1, h2, h3, h4, h5, h6, H0⟩ := hrel
    have H := Lib.hid H0; clear H0
    have hm1 := (mul_bd h3 h4 h1 h2).1
    have hm2 := (mul_bd h3 h4 h1 h2).2
    have hm3 := (mul_bd h1 h2 h1 h2).1
    have hm4 := (mul_bd h1 h2 h1 h2).2
    have he := i64_and_one y h5 (by omega)
    by_cases hy : 0 < y
    · go_wp2
      · have h := (show (y % 2 == 1) = true by assumption)
        go_round
        case rel => exact ⟨_, _, _, rfl, rfl, rfl, (mod_bd _).1, (mod_bd _).2, (mod_bd _).1, (mod_bd _).2, by omega, by omega, by
            rw [← H.out]; simp at h; have e : (y / 2).toNat = (y.toNat / 2) := by omega
            rw [e]; exact pow_step_odd x o y _ (by omega)⟩
        case measure => simp [intOf]; omega
      · have h := (show (y % 2 == 1) = false by assumption)
        go_round
        case rel => exact ⟨_, _, _, rfl, rfl, rfl, (mod_bd _).1, (mod_bd _).2, h3, h4, by omega, by omega, by
            rw [← H.out]; simp at h; have e : (y / 2).toNat = (y.toNat / 2) := by omega
            rw [e]; exact pow_step_even x o y _ (by omega)⟩
        case measure => simp [intOf]; omega
    · go_wp2
      go_ret
      have e : y = 0 := by omega
      exact ⟨by rw [← H.out, e]; simp; omega, rfl⟩

theorem mod_any (n : Int) (w : World) (h1 : -9223372036854775808 ≤ n) (h2 : n ≤ 9223372036854775807): Calls Try.prog 21 #[.int .i64 n] w fun e w' => e = .returned (.int .i64 (n % 2147483647)) ∧ w = w' := by
  have b1 : -2147483647 < n.tmod 2147483647 := Int.lt_tmod_of_pos n (by omega)
  have b2 : n.tmod 2147483647 < 2147483647 := Int.tmod_lt_of_pos n (by omega)
  go_enter Try.func21, Try.ntmps21
  go_wp2
  go_ret
  exact ⟨congrArg (fun z => Ending.returned (Value.int .i64 z)) (tmod_mod n), rfl⟩

/-- points whose value can be calculated: places up to 1000, values of the field -/
def ptOk (s : Int × Int) : Prop := 0 ≤ s.1 ∧ s.1 ≤ 1000 ∧ 0 ≤ s.2 ∧ s.2 < 2147483647

theorem value_any (A : Option Addr) (n cap : Nat) (l : List (Int × Int)) (at_ : Int) (w : World) (hl : RdP w w.heap.size A n cap l) (ha : 0 ≤ at_) (ha' : at_ ≤ 1000) (hX : ∀ s ∈ l, ptOk s) : 
  Calls Try.prog 41 #[.slice A n cap, .int .i64 at_] w fun e w' => e = .returned (.int .i64 (lagV (fx l) (fy l) n at_)) ∧ Below w.heap.size w w' := by
  have hn := hl.caps
  obtain ⟨hn1, hn2, hn3⟩ := hn
  go_enter Try.func41, Try.ntmps41
  go_wp2
  go_loopw [5, 14] (fun s i wr => ∃ k : Nat, ∃ sm : Int, k ≤ n ∧ i = .int .i64 k ∧ s = .int .i64 sm ∧ 0 ≤ sm ∧ sm < 2147483647 ∧ sm = sumN (lagT (fx l) (fy l) n at_) k % 2147483647 ∧ Below w.heap.size w wr) (fun _ y _ => n - (intOf y).toNat)
  case atStart => exact ⟨0, 0, Nat.zero_le _, rfl, rfl, by omega, by omega, rfl, Below.refl _ _⟩
  case round =>
    obtain ⟨k, sm, hk, rfl, rfl, sm1, sm2, hsm, hb⟩ := hrel
    have Hsm := Lib.hid hsm; clear hsm
    by_cases hlt : k < n
    · obtain ⟨b, off, x, y, rfl, hbB, hxy, c0, c1⟩ := (hl.below (flat_lasts _) hb (Nat.le_refl _) (Nat.le_refl _)).atP hlt
      obtain ⟨x1, x2, y1, y2⟩ := hX _ (List.mem_of_getElem? hxy)
      simp only at x1 x2 y1 y2
      have Hx := Lib.hid (fx_eq hxy)
      have Hy := Lib.hid (fy_eq hxy)
      clear hxy
      obtain ⟨wo, rfl⟩ : ∃ wo : World, wo = wr := ⟨_, rfl⟩
      have hbo : b < wo.heap.size := by have := hb.size; omega
      go_wp2
      go_loopw [8, 9, 23] (fun u d j wi => ∃ j' : Nat, ∃ u' d' : Int, j' ≤ n ∧ j = .int .i64 j' ∧ u = .int .i64 u' ∧ d = .int .i64 d' ∧ 0 ≤ u' ∧ u' < 2147483647 ∧ 0 ≤ d' ∧ d' < 2147483647 ∧ 
        (u' = y * prodE (fun t => at_ - fx l t) k j' % 2147483647 ∧ d' = prodE (fun t => x - fx l t) k j' % 2147483647) ∧ Below (wo.heap.size + 1) (wo.alloc (Obj.cells #[Value.int IntKind.i64 x, Value.int IntKind.i64 y] 39)) wi) (fun _ _ y _ => n - (intOf y).toNat)
      case atStart => exact ⟨0, y, 1, Nat.zero_le _, rfl, rfl, rfl, y1, y2, by omega, by omega, ⟨by simp [prodE]; omega, by simp [prodE]⟩, Below.refl _ _⟩
      case round =>
        obtain ⟨j, u, d, hj, rfl, rfl, rfl, u1, u2, d1, d2, hud, hbi⟩ := hrel
        have Hud := Lib.hid hud; clear hud
        have hbw : Below w.heap.size w wr := (hb.alloc hb.size _).trans (hbi.mono (by have := hb.size; omega))
        by_cases hlj : j < n
        · obtain ⟨b', off', z, zy, hbe, hbB', hzy, e0, e1⟩ := (hl.below (flat_lasts _) hbw (Nat.le_refl _) (Nat.le_refl _)).atP hlj
          simp at hbe; obtain ⟨rfl, rfl⟩ := hbe
          obtain ⟨z1, z2, _, _⟩ := hX _ (List.mem_of_getElem? hzy)
          simp only at z1 z2
          have ca : wr.cell? ⟨wo.heap.size, 0, none⟩ = some (.int .i64 x) := (hbi.cell (by simp)).trans (by simp)
          have Hz := Lib.hid (fx_eq hzy)
          clear hzy
          have mb := mod_bd (at_ - z)
          have md := mod_bd (x - z)
          obtain ⟨p11, p12⟩ := mul_bd u1 u2 mb.1 mb.2
          obtain ⟨p21, p22⟩ := mul_bd d1 d2 md.1 md.2
          have hsz : wo.heap.size + 1 ≤ wr.heap.size := by have := hbi.size; simpa using this
          have ca' : ∀ o, (wr.alloc o).cell? ⟨wo.heap.size, 0, none⟩ = some (.int .i64 x) := fun o => (World.cell?_alloc_lt wr o _ (by simp; omega)).trans ca
          clear hbw c0 c1 hb mb md hX ca
          by_cases hjk : j = k
          · subst hjk
            go_wp2
            go_roundw
            case rel =>
              refine ⟨j + 1, _, _, by omega, by go_num, rfl, rfl, u1, u2, d1, d2, ⟨?_, ?_⟩, ?_⟩
              · rw [Hud.out.1, prodE_hit]
              · rw [Hud.out.2, prodE_hit]
              · exact hbi.alloc (by omega) _
            case measure => simp [intOf]; omega
          · have hne : ((j : Int) == (k : Int)) = false := by simp; omega
            go_wp2
            go_roundw
            case rel => 
              refine ⟨j + 1, _, _, by omega, by go_num, rfl, rfl, (mod_bd _).1, (mod_bd _).2, (mod_bd _).1, (mod_bd _).2, ⟨?_, ?_⟩, ?_⟩
              · rw [Hud.out.1, step_mul, prodE_miss _ _ _ hjk, Hz.out, Int.mul_assoc]
              · rw [Hud.out.2, step_mul, prodE_miss _ _ _ hjk, Hz.out]
              · exact hbi.alloc (by omega) _
            case measure => simp [intOf]; omega
        · have hjn : j = n := by omega
          subst hjn
          obtain ⟨pb1, pb2⟩ := pw_bd d 2147483645
          obtain ⟨p11, p12⟩ := mul_bd u1 u2 pb1 pb2
          go_wp2_with (go_at_call 50; refine (power_any _ _ _ (by omega) (by omega) (by omega) (by omega)).mono ?_; rintro e w' ⟨rfl, rfl⟩)
          go_roundw
          case rel => exact ⟨k + 1, _, by omega, by go_num, rfl, (mod_bd _).1, (mod_bd _).2, by
            rw [lag_step Hsm.out Hud.out.1 Hud.out.2, ← Hx.out, ← Hy.out]; rfl, hbw⟩
          case measure => simp [intOf]; omega
    · have hkn : k = n := by omega
      subst hkn
      go_wp2
      go_ret
      exact ⟨congrArg (fun z => Ending.returned (Value.int .i64 z)) Hsm.out, hb⟩
end Go.Proofs.Ytfidjhhpcjmioaa
