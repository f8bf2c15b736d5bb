/- Walks: right, valid of package share. Conditions stand in each theorem. -/
import Derived.Test.YtfidjhhpcjmioaaW1
import Derived.Test.YtfidjhhpcjmioaaMap
namespace Go.Proofs.Ytfidjhhpcjmioaa
open Go.RowKit
set_option linter.unusedVariables false

theorem right_yes (n : Int) (w : World) (h : inF n = true) : Calls Try.prog 38 #[.int .i64 n] w fun e w' => e = .returned (.bool true) ∧ w = w' := by
  simp [inF] at h
  obtain ⟨h1, h2⟩ := h
  go_enter Try.func38, Try.ntmps38
  go_wp2
  go_ret
  exact ⟨rfl, rfl⟩
theorem right_no (n : Int) (w : World) (h : inF n = false) : Calls Try.prog 38 #[.int .i64 n] w fun e w' => e = .returned (.bool false) ∧ w = w' := by
  have h' : n < 0 ∨ 2147483647 ≤ n := by
    simp [inF] at h; omega
  rcases h' with h' | h' 
  · go_enter Try.func38, Try.ntmps38
    go_wp2
    go_ret
    exact ⟨rfl, rfl⟩
  · have h0 : 0 ≤ n := by omega
    have hd : decide (n < 2147483647) = false := by simp; omega
    go_enter Try.func38, Try.ntmps38
    go_wp2
    go_ret
    exact ⟨rfl, rfl⟩
theorem right_any (n : Int) (w : World) : Calls Try.prog 38 #[.int .i64 n] w fun e w' => e = .returned (.bool (inF n)) ∧ w = w' := by
  cases h : inF n
  · exact right_no n w h
  · exact right_yes n w h

/-- a right share -/
def shOk (s : Int × Int) : Bool := decide (1 ≤ s.1) && decide (s.1 ≤ 20) && inF s.2

theorem zero_bool (w : World) : (zeroValue 4).run Try.prog w = .ok (.bool false) w := by kernel_rfl

/-- the X of the first k shares, the last first -/
def seenX (l : List (Int × Int)) : Nat → List Int
  | 0 => []
  | k + 1 => fx l k :: seenX l k
/-- whether two of the first k shares have one X -/
def twiceX (l : List (Int × Int)) : Nat → Bool
  | 0 => false
  | k + 1 => twiceX l k || decide (fx l k ∈ seenX l k)
/-- the error of shares alone -/
def sharesF (l : List (Int × Int)) : Int := if l.all shOk then (if twiceX l l.length then 5 else 0) else 1
/-- the error of shares -/
def validF (l : List (Int × Int)) (k : Int) : Int := if k < 1 ∨ 20 < k then 1 else sharesF l

theorem valid_arg (A : Option Addr) (n cap : Nat) (l : List (Int × Int)) (k : Int) (w : World) (hk : k < 1 ∨ 20 < k) :
  Calls Try.prog 39 #[.slice A n cap, .int .i64 k] w fun e w' => e = .returned (.int .i64 1) ∧ Below w.heap.size w w' := by
  rcases hk with hk | hk
  · go_enter Try.func39, Try.ntmps39
    go_wp2
    go_ret
    exact ⟨rfl, Below.refl _ _⟩
  · have h1 : 1 ≤ k := by omega
    go_enter Try.func39, Try.ntmps39
    go_wp2
    go_ret
    exact ⟨rfl, Below.refl _ _⟩

theorem valid_yes (A : Option Addr) (n cap : Nat) (l : List (Int × Int)) (k : Int) (w : World) (hl : RdP w w.heap.size A n cap l) (hk : 1 ≤ k ∧ k ≤ 20) :
  Calls Try.prog 39 #[.slice A n cap, .int .i64 k] w fun e w' => e = .returned (.int .i64 (sharesF l)) ∧ Below w.heap.size w w' := by
  obtain ⟨hk1, hk2⟩ := hk
  have hn : n ≤ 140737488351232 := by have h1 := hl.caps; omega
  have Hn := Lib.hid hl.len
  have hmm := @run_makeMap Try.prog
  go_enter Try.func39, Try.ntmps39
  go_wp2
  clear hmm
  go_loopw [6, 18] (fun tw i wr => ∃ k : Nat, ∃ t : Bool, k ≤ n ∧ i = .int .i64 k ∧ tw = .bool t ∧ (t = twiceX l k ∧ ∀ i (h : i < l.length), i < k → shOk l[i] = true) ∧ SeenMap Try.prog 3 4 wr w.heap.size k (seenX l k) ∧ Below w.heap.size w wr) (fun _ y _ => n - (intOf y).toNat)
  case atStart => exact ⟨0, false, Nat.zero_le _, rfl, rfl, ⟨rfl, fun _ _ h => absurd h (by omega)⟩, SeenMap.made _ _ _ _, (Below.refl _ _).alloc (Nat.le_refl _) _⟩
  case round =>
    obtain ⟨i, t, hi, rfl, rfl, ht, hM, hb⟩ := hrel
    have Ht := Lib.hid ht; clear ht
    by_cases hlt : i < n
    · obtain ⟨b, off, x, y, rfl, hbB, hxy, c0, c1⟩ := (hl.below (flat_lasts _) hb (Nat.le_refl _) (Nat.le_refl _)).atP hlt
      have hall : shOk (x, y) = false → l.all shOk = false := fun h => by
        rw [List.all_eq_false]; exact ⟨_, List.mem_of_getElem? hxy, by simp [h]⟩
      have Hok := Lib.hid (show shOk (x, y) = (decide (1 ≤ x) && decide (x ≤ 20) && inF y) from rfl)
      have Hx := Lib.hid (fx_eq hxy)
      have Hxy := Lib.hid hxy; clear hxy
      have Hall := Lib.hid hall; clear hall
      have hbig : ∀ o, wr.heap.size < (wr.alloc o).heap.size := fun o => by simp
      by_cases h1 : x < 1
      · go_wp2
        go_ret
        exact ⟨congrArg (fun z => Ending.returned (Value.int .i64 z)) (by rw [sharesF, Hall.out (by rw [Hok.out]; simp; omega)]; rfl), hb.alloc hb.size _⟩
      by_cases h2 : 20 < x
      · go_wp2
        go_ret
        exact ⟨congrArg (fun z => Ending.returned (Value.int .i64 z)) (by rw [sharesF, Hall.out (by rw [Hok.out]; simp; omega)]; rfl), hb.alloc hb.size _⟩
      have d2 : decide (20 < x) = false := by simp; omega
      cases hF : inF y
      · have HF := Lib.hid hF; clear hF
        go_wp2_with (go_at_call 38; refine (right_no _ _ HF.out).mono ?_; rintro e w' ⟨rfl, rfl⟩)
        go_ret
        exact ⟨congrArg (fun z => Ending.returned (Value.int .i64 z)) (by rw [sharesF, Hall.out (by rw [Hok.out, HF.out]; simp)]; rfl), hb.alloc hb.size _⟩
      · have HF := Lib.hid hF; clear hF
        have hwf : (Lit.int .i64 x).wf = true := WalkArith.wf_i64 (by omega)
        have hlk : ∀ o, (Instr.lookup 73 (.map (some w.heap.size)) (.int .i64 x) false).run Try.prog (wr.alloc o) = .ok (.bool (decide (x ∈ seenX l i))) (wr.alloc o) := fun o => (hM.alloc o).look Try.underlying73 Try.underlying3 Try.underlying4 zero_bool x hwf
        obtain ⟨d, hd⟩ : ∃ d, d = decide (x ∈ seenX l i) := ⟨_, rfl⟩
        rw [← hd] at hlk
        have Hd := Lib.hid hd; clear hd
        have hB2 : wr.heap.size < (wr.alloc (Obj.cells #[Value.int IntKind.i64 x, Value.int IntKind.i64 y] 39)).heap.size := by simp
        have hBw : w.heap.size ≤ wr.heap.size := hb.size
        have hil2 : i < maxLen := by simp only [maxLen]; omega
        cases t
        all_goals
          go_wp2_with (first
            | (go_at_call 38; refine (right_yes _ _ HF.out).mono ?_; rintro e w' ⟨rfl, rfl⟩)
            | (at_mapUpdate; refine wpList_mapUpdate_own _ rfl _ _ _ 73 rfl 3 4 (Go.Maps.int_keyed Try.underlying3) Try.underlying73 _ w.heap.size i _ rfl (hM.alloc _) hil2 _ _ (.int .i64 x) rfl rfl (Go.Maps.keyOf_int_mk Try.underlying3 hwf) (.lit (.bool true)) [] (plainElem_bool Try.underlying4 true) ?_; intro w1 hown1 hgrow1))
          have hB3 := hgrow1.size
          go_roundw
          case rel =>
            refine ⟨i + 1, _, by omega, by go_num, rfl, ⟨?_, ?_⟩, ?_, ?_⟩
            · rw [twiceX, ← Ht.out.1, Hx.out]; first | rfl | (rw [← Hd.out]; simp)
            · intro j hj hji
              by_cases e : j = i
              · subst e
                have e2 : l[j] = (x, y) := by have := Hxy.out; rw [List.getElem?_eq_getElem hj] at this; exact Option.some.inj this
                rw [e2, Hok.out, HF.out]; simp; omega
              · exact Ht.out.2 j hj (by omega)
            · rw [seenX, Hx.out]; exact hown1
            · exact (hb.alloc hb.size _).grown hgrow1 (by omega) (by intro k hk; cases hk; omega)
          case measure => simp [intOf]; omega
    · have hin : i = n := by omega
      subst hin
      have hS : sharesF l = (if t then 5 else 0) := by
        have h1 : l.all shOk = true := by
          rw [List.all_eq_true]; intro s hs
          obtain ⟨j, hj, rfl⟩ := List.mem_iff_getElem.1 hs
          exact Ht.out.2 j hj (by rw [← Hn.out]; exact hj)
        have h2 := Ht.out.1
        rw [← Hn.out] at h2
        simp [sharesF, h1, h2]
      have HS := Lib.hid hS; clear hS
      cases t
      all_goals
        go_wp2
        go_ret
        exact ⟨congrArg (fun z => Ending.returned (Value.int .i64 z)) (by rw [HS.out]; rfl), hb⟩

theorem valid_any (A : Option Addr) (n cap : Nat) (l : List (Int × Int)) (k : Int) (w : World) (hl : RdP w w.heap.size A n cap l) :
  Calls Try.prog 39 #[.slice A n cap, .int .i64 k] w fun e w' => e = .returned (.int .i64 (validF l k)) ∧ Below w.heap.size w w' := by
  by_cases h : k < 1 ∨ 20 < k
  · simpa [validF, h] using valid_arg A n cap l k w h
  · simpa [validF, h] using valid_yes A n cap l k w hl (by omega)
end Go.Proofs.Ytfidjhhpcjmioaa
