/- Walks over the reference of layer 7: poly. Conditions stand in each theorem. -/
import Derived.Test.YtfidjhhpcjmioaaR1
namespace Go.Proofs.Ytfidjhhpcjmioaa
open Go.RowKit
set_option linter.unusedVariables false

theorem fy_bd {l : List (Int × Int)} (hX : ∀ s ∈ l, ptOk s) (i : Nat) : 0 ≤ fy l i ∧ fy l i < 2147483647 := by
  unfold fy
  by_cases h : i < l.length
  · have := hX _ (List.getElem_mem h)
    simp [List.getD, h, ptOk] at this ⊢; omega
  · simp [List.getD, h]

theorem poly_any (A : Option Addr) (n cap : Nat) (l : List (Int × Int)) (w : World) (hl : RdP w w.heap.size A n cap l) (hX : ∀ s ∈ l, ptOk s) (hnn : n ≤ 1000000) :
  Calls Try.prog 51 #[.slice A n cap] w fun e w' => ∃ v, e = .returned v ∧ Own 1 iEnc w' w.heap.size 3 v (ofF n (dd (fx l) (fy l) (n - 1))) ∧ Below w.heap.size w w' := by
  obtain ⟨hn1, hn2, hn3⟩ := hl.caps
  obtain ⟨j0, hj0, hy0, hy1, hy2⟩ := info_parts int_info
  go_enter Try.func51, Try.ntmps51
  go_wp2_with (at_make; refine wpList_mk _ iSized 0 rfl _ _ 65 rfl w.heap.size 3 j0 (.int .i64 0) Try.underlying65 hj0 hy0 hy1 rfl _ _ _ _ n rfl rfl rfl rfl (by rw [hy2]; omega) (by unfold maxLen; omega) (Nat.le_refl _) ?_
               intro w1 hown1 hg1)
  rw [ofF_rep] at hown1
  have hb1 : Below w.heap.size w w1 := (Below.refl _ _).grown hg1 (Nat.le_refl _) (by simp)
  clear hg1
  go_loopg [4] n (fun gk i wr => ∃ k : Nat, k ≤ n ∧ gk = n - k ∧ i = .int .i64 k ∧ Own 1 iEnc wr w.heap.size 3 (.slice (some ⟨w.heap.size, 0, none⟩) n n) (ofF n (fun j => if j < k then fy l j else 0)) ∧ Below w.heap.size w wr)
  case atStart => exact ⟨0, by omega, rfl, rfl, by simpa using hown1, hb1⟩
  case round =>
    obtain ⟨k, hk, rfl, rfl, hown, hb⟩ := hrel
    by_cases hlt : k < n
    · obtain ⟨b, off, x, y, rfl, hbB, hx, c0, c1⟩ := (hl.below (flat_lasts _) hb (Nat.le_refl _) (Nat.le_refl _)).atP hlt
      have Hy := Lib.hid (fy_eq hx)
      obtain ⟨d0, d1⟩ := hown.cellI hlt
      obtain ⟨z, hz⟩ : ∃ z, z = (if k < k then fy l k else 0) := ⟨_, rfl⟩
      rw [← hz] at d0
      clear hz c0 hx
      go_wp2
      go_roundg (n - (k + 1))
      case rel =>
        refine ⟨k + 1, by omega, rfl, by go_num, ?_, hb.setCell (Nat.le_refl _) _⟩
        have h3 := hown.setI hlt y
        rw [ofF_congr (g := fun j => if j < k + 1 then fy l j else 0)] at h3
        · exact h3
        · intro j hj
          by_cases e : j = k
          · subst e; rw [if_pos rfl, if_pos (by omega), Hy.out]
          · rw [if_neg e]
            by_cases e2 : j < k
            · rw [if_pos e2, if_pos (by omega)]
            · rw [if_neg e2, if_neg (by omega)]
      case measure => omega
    · have e : k = n := by omega
      subst e
      rw [ofF_congr (g := dd (fx l) (fy l) 0) (fun i hi => by rw [if_pos hi]; rfl)] at hown
      go_wp2
      go_loopg [5] k (fun gk i wr => ∃ s : Nat, (s < k ∨ s = 0) ∧ gk = k - s ∧ i = .int .i64 ((s : Int) + 1) ∧ Own 1 iEnc wr w.heap.size 3 (.slice (some ⟨w.heap.size, 0, none⟩) k k) (ofF k (dd (fx l) (fy l) s)) ∧ Below w.heap.size w wr)
      case atStart => exact ⟨0, by omega, rfl, rfl, hown, hb⟩
      case round =>
        obtain ⟨s, hs, rfl, rfl, hown, hb⟩ := hrel
        by_cases hlt : s + 1 < k
        · have hdt : decide ((s : Int) + 1 < (k : Int)) = true := by simp; omega
          go_wp2
          clear hdt
          go_loopg [6] (k - 1) (fun gk i wr => ∃ i' : Int, (s : Int) ≤ i' ∧ i' ≤ (k : Int) - 1 ∧ gk = i'.toNat ∧ i = .int .i64 i' ∧ Own 1 iEnc wr w.heap.size 3 (.slice (some ⟨w.heap.size, 0, none⟩) k k) (ofF k (fun j => if i' < (j : Int) then dd (fx l) (fy l) (s + 1) j else dd (fx l) (fy l) s j)) ∧ Below w.heap.size w wr)
          case atStart => exact ⟨(k : Int) - 1, by omega, by omega, by omega, rfl, by
            rw [ofF_congr (g := dd (fx l) (fy l) s)]
            · exact hown
            · intro j hj; rw [if_neg (by omega)], hb⟩
          case round =>
            obtain ⟨i, i1, i2, hgk, rfl, hown, hb⟩ := hrel
            have Hgk := Lib.hid hgk; clear hgk
            by_cases hip : (s : Int) + 1 ≤ i
            · obtain ⟨j, rfl⟩ := Int.eq_ofNat_of_zero_le (show 0 ≤ i by omega)
              have hj : j < k := by omega
              obtain ⟨b, off, x, xy, rfl, hbB, hx, c0, c1⟩ := (hl.below (flat_lasts _) hb (Nat.le_refl _) (Nat.le_refl _)).atP hj
              obtain ⟨b', off', u, uy, hbe, hbB', hu, e0, e1⟩ := (hl.below (flat_lasts _) hb (Nat.le_refl _) (Nat.le_refl _)).atP (k := j - (s + 1)) (by omega)
              simp at hbe; obtain ⟨rfl, rfl⟩ := hbe
              obtain ⟨d0, d1⟩ := hown.cellI hj
              obtain ⟨f0, f1⟩ := hown.cellI (i := j - 1) (by omega)
              rw [if_neg (by omega)] at d0 f0
              have db := dd_bd (fx l) (fy l) (fy_bd hX) s j
              have fb := dd_bd (fx l) (fy l) (fy_bd hX) s (j - 1)
              obtain ⟨x1, x2, _, _⟩ := hX _ (List.mem_of_getElem? hx)
              obtain ⟨u1, u2, _, _⟩ := hX _ (List.mem_of_getElem? hu)
              simp only at x1 x2 u1 u2
              obtain ⟨p, hp⟩ : ∃ p, p = dd (fx l) (fy l) s j := ⟨_, rfl⟩
              obtain ⟨q, hq⟩ : ∃ q, q = dd (fx l) (fy l) s (j - 1) := ⟨_, rfl⟩
              rw [← hp] at d0 db
              rw [← hq] at f0 fb
              obtain ⟨db1, db2⟩ := db
              obtain ⟨fb1, fb2⟩ := fb
              have Hp := Lib.hid hp; have Hq := Lib.hid hq
              have Hx := Lib.hid (fx_eq hx)
              have Hu := Lib.hid (fx_eq hu)
              clear hp hq hx hu c1 e1 f1
              have t1 := (mod_bd (x - u)).1
              have t2 := (mod_bd (x - u)).2
              obtain ⟨v1, v2⟩ := invF_bd ((x - u) % 2147483647)
              obtain ⟨m1, m2⟩ := mul_bd (mod_bd (p - q)).1 (mod_bd (p - q)).2 v1 v2
              have hji : (j : Int) < (k : Int) := by omega
              have hj0 : (0 : Int) ≤ (j : Int) := by omega
              have hj1 : (1 : Int) ≤ (j : Int) := by omega
              have hjs : (s : Int) + 1 ≤ (j : Int) := by omega
              have w1 : IntKind.i64.wrap ((j : Int) - 1) = (j : Int) - 1 := IntWalk.i64_in _ (by omega)
              have w2 : (0 : Int) ≤ (j : Int) - 1 := by omega
              have w3 : ((j : Int) - 1).toNat = j - 1 := by omega
              have w4 : (j : Int) - 1 < (k : Int) := by omega
              have w5 : IntKind.i64.wrap (p - q) = p - q := IntWalk.i64_in _ (by omega)
              have w6 : IntKind.i64.wrap ((j : Int) - ((s : Int) + 1)) = (j : Int) - ((s : Int) + 1) := IntWalk.i64_in _ (by omega)
              have w7 : (0 : Int) ≤ (j : Int) - ((s : Int) + 1) := by omega
              have w8 : ((j : Int) - ((s : Int) + 1)).toNat = j - (s + 1) := by omega
              have w9 : (j : Int) - ((s : Int) + 1) < (k : Int) := by omega
              have w10 : IntKind.i64.wrap (x - u) = x - u := IntWalk.i64_in _ (by omega)
              have w11 : IntKind.i64.wrap ((p - q) % 2147483647 * invF ((x - u) % 2147483647)) = (p - q) % 2147483647 * invF ((x - u) % 2147483647) := IntWalk.i64_in _ (by omega)
              have w12 : ((p - q) % 2147483647 * invF ((x - u) % 2147483647)).tmod 2147483647 = (p - q) % 2147483647 * invF ((x - u) % 2147483647) % 2147483647 := Int.tmod_eq_emod_of_nonneg m1
              go_wp2_with fail
              go_still_tail 31, (by kernel_rfl)
              still_call ((mod_any _ _ (by omega) (by omega)).mono fun _ _ ⟨he, hm⟩ => ⟨he, hm.symm⟩)
              repeat still_step
              still_call ((mod_any _ _ (by omega) (by omega)).mono fun _ _ ⟨he, hm⟩ => ⟨he, hm.symm⟩)
              repeat still_step
              still_call ((inverse_any _ _ (by omega) (by omega)).mono fun _ _ ⟨he, hm⟩ => ⟨he, hm.symm⟩)
              repeat still_step
              refine wpStill_nil ?_
              change wpList _ _ _ _ _ wr.drew
              go_wp2
              go_roundg (j - 1)
              case rel =>
                refine ⟨(j : Int) - 1, by omega, by omega, by omega, rfl, ?_, (hb.setCell (Nat.le_refl _) _).drew⟩
                have h3 := hown.setI hj ((p - q) % 2147483647 * invF ((x - u) % 2147483647) % 2147483647)
                rw [ofF_congr (g := fun j_1 => if (j : Int) - 1 < (j_1 : Int) then dd (fx l) (fy l) (s + 1) j_1 else dd (fx l) (fy l) s j_1)] at h3
                · exact h3
                · intro m hm
                  by_cases e : m = j
                  · subst e
                    rw [if_pos rfl, if_pos (by omega), dd, if_neg (by omega), Hp.out, Hq.out, Hx.out, Hu.out]
                  · rw [if_neg e]
                    by_cases e2 : (j : Int) < (m : Int)
                    · rw [if_pos e2, if_pos (by omega)]
                    · rw [if_neg e2, if_neg (by omega)]
              case measure => rw [Hgk.out]; omega
            · have e : i = s := by omega
              subst e
              rw [ofF_congr (g := dd (fx l) (fy l) (s + 1)) (fun m hm => by
                by_cases e2 : (s : Int) < (m : Int)
                · rw [if_pos e2]
                · rw [if_neg e2, dd, if_pos (by omega)])] at hown
              go_wp2
              go_roundg (k - (s + 1))
              case rel => exact ⟨s + 1, .inl hlt, rfl, by go_num, hown, hb⟩
              case measure => omega
        · have e : k - 1 = s := by omega
          have hlt' : ¬ (s : Int) + 1 < (k : Int) := by omega
          go_wp2
          go_ret
          exact ⟨_, rfl, hown, hb⟩
end Go.Proofs.Ytfidjhhpcjmioaa
