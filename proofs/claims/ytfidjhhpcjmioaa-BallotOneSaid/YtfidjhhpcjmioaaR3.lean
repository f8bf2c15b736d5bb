/- Walks over the reference of layer 7: Wrong, Same. Conditions stand in each theorem. -/
import Derived.Test.YtfidjhhpcjmioaaR2
namespace Go.Proofs.Ytfidjhhpcjmioaa
open Go.RowKit
set_option linter.unusedVariables false

theorem wrong_arg (A : Option Addr) (n cap : Nat) (l : List (Int × Int)) (k : Int) (w : World) (hk : k < 1 ∨ 20 < k) :
  Calls Try.prog 42 #[.slice A n cap, .int .i64 k] w fun e w' => e = .returned (.int .i64 1) ∧ Below w.heap.size w w' := by
  rcases hk with hk | hk
  · go_enter Try.func42, Try.ntmps42
    go_wp2
    go_ret
    exact ⟨rfl, Below.refl _ _⟩
  · have h1 : 1 ≤ k := by omega
    go_enter Try.func42, Try.ntmps42
    go_wp2
    go_ret
    exact ⟨rfl, Below.refl _ _⟩

/-- whether the X of one of the first m shares is x -/
def seenAt (l : List (Int × Int)) (x : Int) (m : Nat) : Bool := decide (x ∈ seenX l m)
theorem seenAt_succ (l : List (Int × Int)) (x : Int) (m : Nat) : seenAt l x (m + 1) = (decide (x = fx l m) || seenAt l x m) := by
  simp [seenAt, seenX]
theorem seenAt_mono (l : List (Int × Int)) (x : Int) {m n : Nat} (h : m ≤ n) (hs : seenAt l x m = true) : seenAt l x n = true := by
  induction h with
  | refl => exact hs
  | step _ ih => rw [seenAt_succ, ih]; simp
theorem twiceX_mono (l : List (Int × Int)) {m n : Nat} (h : m ≤ n) (hs : twiceX l m = true) : twiceX l n = true := by
  induction h with
  | refl => exact hs
  | step _ ih => rw [twiceX, ih]; rfl
theorem nodup_sub_len {α : Type} [DecidableEq α] : ∀ (a b : List α), a.Nodup → (∀ x ∈ a, x ∈ b) → a.length ≤ b.length
  | [], _, _, _ => by simp
  | x :: a, b, hn, hs => by
    rw [List.nodup_cons] at hn
    have h1 : x ∈ b := hs x (by simp)
    have h2 := nodup_sub_len a (b.erase x) hn.2 fun y hy => (List.mem_erase_of_ne (fun e => hn.1 (by rw [← e]; exact hy))).2 (hs y (by simp [hy]))
    rw [List.length_erase_of_mem h1] at h2
    have : 0 < b.length := List.length_pos_of_mem h1
    simp; omega
/-- twenty-one right shares share an X -/
theorem twice_many (l : List (Int × Int)) (h : ∀ s ∈ l, shOk s = true) (hn : 21 ≤ l.length) : twiceX l 21 = true := by
  have hfx : ∀ i, i < 21 → 1 ≤ fx l i ∧ fx l i ≤ 20 := fun i hi => by
    have h1 := h _ (List.getElem_mem (show i < l.length by omega))
    simp [shOk] at h1
    have e : fx l i = l[i].1 := by simp [fx, List.getD, show i < l.length by omega]
    omega
  have key : ∀ m, m ≤ 21 → twiceX l m = false → (seenX l m).Nodup ∧ (seenX l m).length = m ∧ ∀ x ∈ seenX l m, 1 ≤ x ∧ x ≤ 20 := by
    intro m
    induction m with
    | zero => intro _ _; simp [seenX]
    | succ m ih =>
      intro hm ht
      simp only [twiceX, Bool.or_eq_false_iff, decide_eq_false_iff_not] at ht
      obtain ⟨h1, h2, h3⟩ := ih (by omega) ht.1
      refine ⟨?_, ?_, ?_⟩
      · rw [seenX, List.nodup_cons]; exact ⟨ht.2, h1⟩
      · rw [seenX, List.length_cons, h2]
      · intro x hx
        rw [seenX, List.mem_cons] at hx
        rcases hx with rfl | hx
        · exact hfx m (by omega)
        · exact h3 x hx
  rcases Bool.eq_false_or_eq_true (twiceX l 21) with h0 | h0
  · exact h0
  · exfalso
    obtain ⟨h1, h2, h3⟩ := key 21 (by omega) h0
    have hsub : ∀ x ∈ seenX l 21, x ∈ (List.range 20).map (fun (i : Nat) => (i : Int) + 1) := fun x hx => by
      have := h3 x hx
      rw [List.mem_map]
      exact ⟨(x - 1).toNat, List.mem_range.2 (by omega), by omega⟩
    have := nodup_sub_len _ _ h1 hsub
    simp at this
    omega

theorem wrong_yes (A : Option Addr) (n cap : Nat) (l : List (Int × Int)) (k : Int) (w : World) (hl : RdP w w.heap.size A n cap l) (hk : 1 ≤ k ∧ k ≤ 20) :
  Calls Try.prog 42 #[.slice A n cap, .int .i64 k] w fun e w' => e = .returned (.int .i64 (sharesF l)) ∧ Below w.heap.size w w' := by
  obtain ⟨hk1, hk2⟩ := hk
  obtain ⟨hn1, hn2, hn3⟩ := hl.caps
  have Hn := Lib.hid hl.len
  go_enter Try.func42, Try.ntmps42
  go_wp2
  go_loopg [5] n (fun gk i wr => ∃ k : Nat, k ≤ n ∧ gk = n - k ∧ i = .int .i64 k ∧ (∀ i (h : i < l.length), i < k → shOk l[i] = true) ∧ w = wr)
  case atStart => exact ⟨0, Nat.zero_le _, rfl, rfl, fun _ _ h => absurd h (by omega), rfl⟩
  case round =>
    obtain ⟨i, hi, rfl, rfl, ht, rfl⟩ := hrel
    have Ht := Lib.hid ht; clear ht
    by_cases hlt : i < n
    · obtain ⟨b, off, x, y, rfl, hbB, hxy, c0, c1⟩ := hl.atP hlt
      have hall : shOk (x, y) = false → l.all shOk = false := fun h => by
        rw [List.all_eq_false]; exact ⟨_, List.mem_of_getElem? hxy, by simp [h]⟩
      have Hok := Lib.hid (show shOk (x, y) = (decide (1 ≤ x) && decide (x ≤ 20) && inF y) from rfl)
      have Hxy := Lib.hid hxy; clear hxy
      have Hall := Lib.hid hall; clear hall
      have hfin : shOk (x, y) = false → sharesF l = 1 := fun h => by rw [sharesF, Hall.out h]; rfl
      have Hfin := Lib.hid hfin; clear hfin
      by_cases h1 : x < 1
      · go_wp2
        go_ret
        exact ⟨congrArg (fun z => Ending.returned (Value.int .i64 z)) (Hfin.out (by rw [Hok.out]; simp; omega)).symm, Below.refl _ _⟩
      by_cases h2 : 20 < x
      · have d2 : decide (20 < x) = true := by simpa using h2
        go_wp2
        go_ret
        exact ⟨congrArg (fun z => Ending.returned (Value.int .i64 z)) (Hfin.out (by rw [Hok.out]; simp; omega)).symm, Below.refl _ _⟩
      have d2 : decide (20 < x) = false := by simp; omega
      by_cases h3 : y < 0
      · have d3 : decide (y < 0) = true := by simpa using h3
        go_wp2
        go_ret
        exact ⟨congrArg (fun z => Ending.returned (Value.int .i64 z)) (Hfin.out (by rw [Hok.out]; simp [inF]; omega)).symm, Below.refl _ _⟩
      have d3 : decide (y < 0) = false := by simpa using h3
      by_cases h4 : 2147483647 ≤ y
      · have d4 : decide (2147483647 ≤ y) = true := by simpa using h4
        go_wp2
        go_ret
        exact ⟨congrArg (fun z => Ending.returned (Value.int .i64 z)) (Hfin.out (by rw [Hok.out]; simp [inF]; omega)).symm, Below.refl _ _⟩
      have d4 : decide (2147483647 ≤ y) = false := by simpa using h4
      go_wp2
      go_roundg (n - (i + 1))
      case rel =>
        refine ⟨i + 1, by omega, rfl, by go_num, ?_, rfl⟩
        intro j hj hji
        by_cases e : j = i
        · subst e
          have e2 : l[j] = (x, y) := by have := Hxy.out; rw [List.getElem?_eq_getElem hj] at this; exact Option.some.inj this
          rw [e2, Hok.out]; simp [inF]; omega
        · exact Ht.out j hj (by omega)
      case measure => omega
    · have hin : i = n := by omega
      subst hin
      have h1 : l.all shOk = true := by
        rw [List.all_eq_true]; intro s hs
        obtain ⟨j, hj, rfl⟩ := List.mem_iff_getElem.1 hs
        exact Ht.out j hj (by rw [← Hn.out]; exact hj)
      have Hfin := Lib.hid (show sharesF l = if twiceX l i then 5 else 0 by rw [sharesF, h1, Hn.out]; rfl)
      have Hmany := Lib.hid (show 21 ≤ i → twiceX l 21 = true from fun h => twice_many l (List.all_eq_true.1 h1) (by rw [Hn.out]; exact h))
      clear h1
      go_wp2
      go_loopg [6] i (fun gk a wr => ∃ j : Nat, j ≤ i ∧ gk = i - j ∧ a = .int .i64 j ∧ (twiceX l j = false) ∧ ∃ q, wr = w.drewN q)
      case atStart => exact ⟨0, Nat.zero_le _, rfl, rfl, rfl, 0, rfl⟩
      case round =>
        obtain ⟨j, hj, rfl, rfl, ht, q0, rfl⟩ := hrel
        have Hte := Lib.hid ht; clear ht
        by_cases hlj : j < i
        · by_cases hj2 : j ≤ 20
          · have dj : decide (j ≤ 20) = true := by simpa using hj2
            have dj' : decide ((j : Int) ≤ 20) = true := by simp; omega
            obtain ⟨b, off, x, y, rfl, hbB, hxy, c0, c1⟩ := hl.atP hlj
            have Hx := Lib.hid (fx_eq hxy); clear hxy
            go_wp2
            go_loopg [7] j (fun gk a wr => ∃ m : Nat, m ≤ j ∧ gk = j - m ∧ a = .int .i64 m ∧ (seenAt l x m = false) ∧ ∃ q, wr = w.drewN q)
            case atStart => exact ⟨0, Nat.zero_le _, rfl, rfl, rfl, q0, rfl⟩
            case round =>
              obtain ⟨m, hm, rfl, rfl, hs, q, rfl⟩ := hrel
              have Hs := Lib.hid hs; clear hs
              by_cases hlm : m < j
              · obtain ⟨b', off', x', y', hbe, hbB', hxy', e0, e1⟩ := hl.atP (k := m) (by omega)
                simp at hbe; obtain ⟨rfl, rfl⟩ := hbe
                have Hx' := Lib.hid (fx_eq hxy'); clear hxy'
                have hji : (j : Int) < (i : Int) := by omega
                have hj0 : (0 : Int) ≤ (j : Int) := by omega
                have hmi : (m : Int) < (i : Int) := by omega
                have hm0 : (0 : Int) ≤ (m : Int) := by omega
                by_cases hxx : x = x'
                · have hb1 : (x == x') = true := by simpa using hxx
                  have HF := Lib.hid (show sharesF l = 5 by
                    have h2 : seenAt l x j = true := seenAt_mono l x hlm (by rw [seenAt_succ, hxx, Hx'.out]; simp)
                    have h3 : twiceX l (j + 1) = true := by rw [twiceX, Hx.out]; simp only [seenAt] at h2; rw [h2]; simp
                    rw [Hfin.out, twiceX_mono l (show j + 1 ≤ i by omega) h3]; rfl)
                  clear hxx
                  go_wp2_with fail
                  go_quiet (fail)
                  go_wp2
                  go_ret
                  exact ⟨congrArg (fun z => Ending.returned (Value.int .i64 z)) HF.out.symm, below_drewN (below_drewN (Below.refl _ _) _) _⟩
                · have hb1 : (x == x') = false := by simpa using hxx
                  have Hxx := Lib.hid hxx; clear hxx
                  go_wp2_with fail
                  go_quiet (fail)
                  go_wp2
                  go_roundg (j - (m + 1))
                  case rel => exact ⟨m + 1, by omega, rfl, by go_num, by rw [seenAt_succ, Hs.out, Hx'.out]; simp [Hxx.out], _, rfl⟩
                  case measure => omega
              · have e : m = j := by omega
                subst e
                have Ht2 := Lib.hid (show twiceX l (m + 1) = false by rw [twiceX, Hte.out, Hx.out]; exact Hs.out)
                go_wp2
                go_roundg (i - (m + 1))
                case rel => exact ⟨m + 1, by omega, rfl, by go_num, Ht2.out, _, rfl⟩
                case measure => omega
          · have H21 := Hmany.out (by omega)
            have := twiceX_mono l (show 21 ≤ j by omega) H21
            rw [Hte.out] at this
            cases this
        · have e : j = i := by omega
          subst e
          have HF := Lib.hid (show sharesF l = 0 by rw [Hfin.out, Hte.out]; rfl)
          go_wp2
          go_ret
          exact ⟨congrArg (fun z => Ending.returned (Value.int .i64 z)) HF.out.symm, below_drewN (Below.refl _ _) _⟩
theorem wrong_any (A : Option Addr) (n cap : Nat) (l : List (Int × Int)) (k : Int) (w : World) (hl : RdP w w.heap.size A n cap l) :
  Calls Try.prog 42 #[.slice A n cap, .int .i64 k] w fun e w' => e = .returned (.int .i64 (validF l k)) ∧ Below w.heap.size w w' := by
  by_cases h : k < 1 ∨ 20 < k
  · simpa [validF, h] using wrong_arg A n cap l k w h
  · simpa [validF, h] using wrong_yes A n cap l k w hl (by omega)
end Go.Proofs.Ytfidjhhpcjmioaa
