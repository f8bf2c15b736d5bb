/- Walks over assigns, cost and Cost of package idle. Conditions stand in each theorem. -/
import Derived.Test.YtmcamadcoglodaaQ3
namespace Go.Proofs.Ytmcamadcoglodaa
open Go.RowKit
set_option linter.unusedVariables false

theorem okA_split {n0 : Nat} {cl : List (List Int)} {to : List Int} {i : Nat} {x : Int} (hx : to[i]? = some x) (hw : wid cl = n0) : okA cl to i = (inB 0 ((n0 : Int) - 1) x && (to.take i).all fun z => decide (z ≠ x)) := by
  have hi := (List.getElem?_eq_some_iff.1 hx).1
  unfold okA
  rw [hw, gi_eq hx]
  congr 1
  rw [Bool.eq_iff_iff, List.all_eq_true, List.all_eq_true]
  refine ⟨fun h z hz => ?_, fun h k hk => ?_⟩
  · obtain ⟨j, hj, rfl⟩ := List.mem_iff_getElem.1 hz
    rw [List.length_take] at hj
    have h2 := h j (List.mem_range.2 (by omega))
    rw [gi_eq (List.getElem?_eq_getElem (show j < to.length by omega))] at h2
    rw [List.getElem_take]
    exact h2
  · have hk := List.mem_range.1 hk
    rw [gi_eq (List.getElem?_eq_getElem (show k < to.length by omega))]
    refine h _ ?_
    rw [List.mem_iff_getElem]
    exact ⟨k, by rw [List.length_take]; omega, by rw [List.getElem_take]⟩
set_option maxRecDepth 100000 in
set_option maxHeartbeats 1000000 in
theorem assigns_any (A A2 : Option Addr) (n cap n2 cap2 : Nat) (cl : List (List Int)) (to : List Int) (w : World) (hl : RdII w w.heap.size A n cap cl) (ht : RdI w w.heap.size A2 n2 cap2 to) :
    Calls Try.prog 39 #[.slice A n cap, .slice A2 n2 cap2] w fun e w' => e = .returned (.bool (assC cl to)) ∧ w = w' := by
  have hcaps := hl.caps
  have hlen := hl.len
  have hcaps2 := ht.caps
  have hlent := ht.len
  have HF : RowKit.Hid (¬ (n2 = n ∧ ∀ i, i < n2 → okA cl to i = true) → assC cl to = false) := Lib.hid fun h => by
    cases hr : assC cl to
    · rfl
    · rw [assC_iff, hlen, hlent] at hr; exact absurd hr h
  have HT : RowKit.Hid ((n2 = n ∧ ∀ i, i < n2 → okA cl to i = true) → assC cl to = true) := Lib.hid fun h => assC_iff.2 (by rw [hlen, hlent]; exact h)
  generalize assC cl to = RR at *
  by_cases hn : n2 = n
  case neg =>
    have hF := HF.out (fun h => hn h.1)
    have hne : ((n2 : Int) != (n : Int)) = true := by simp; omega
    rw [hF]
    clear hn HF HT hF hlen hlent
    go_enter Try.func39, Try.ntmps39
    go_wp2
    go_ret
    exact ⟨rfl, rfl⟩
  subst hn
  have hnn : ((n2 : Int) != (n2 : Int)) = false := by simp
  have HT2 : RowKit.Hid ((∀ i, i < n2 → okA cl to i = true) → RR = true) := Lib.hid fun h => HT.out ⟨rfl, h⟩
  have HF2 : RowKit.Hid (∀ i, i < n2 → okA cl to i = false → RR = false) := Lib.hid fun i hi h => HF.out fun h2 => by
    have := h2.2 i hi
    rw [h] at this; cases this
  have Hcon := Lib.hid (fun A n cap l y w h => hasN_any A n cap l y w h)
  clear hlen hlent HT HF
  go_enter Try.func39, Try.ntmps39
  go_wp2
  go_loopg [14] n2 (fun gk i wr => ∃ i' : Nat, i' ≤ n2 ∧ gk = n2 - i' ∧ i = .int .i64 i' ∧ (∀ a, a < i' → okA cl to a = true) ∧ w = wr)
  case atStart => exact ⟨0, Nat.zero_le _, rfl, rfl, (fun a h => absurd h (by omega)), rfl⟩
  case round =>
    obtain ⟨i, hi, rfl, rfl, hall, rfl⟩ := hrel
    have Hall := Lib.hid hall
    clear hall
    by_cases hlt : i < n2
    · obtain ⟨b, off, A0, n0, cap0, x0, rfl, hbB, hx0, c0, r0⟩ := hl.atII (k := 0) (by omega)
      have hw0 : wid cl = n0 := by rw [wid, clAt_eq hx0]; exact r0.len
      have hcap0 := r0.caps
      have hn0 : (0 : Int) < (n2 : Int) := by omega
      rw [Nat.add_zero] at c0
      obtain ⟨bt, ot, x, rfl, hbt, hx, e0⟩ := ht.atI hlt
      have hos := okA_split (cl := cl) hx hw0
      have rt := ht.take (show i ≤ n2 by omega)
      have hii : (i : Int) < (n2 : Int) := by omega
      have hi0 : (0 : Int) ≤ (i : Int) := by omega
      have hic : (i : Int) ≤ (cap2 : Int) := by omega
      have Hcx := Lib.hid (Hcon.out _ _ _ _ x _ rt)
      have Hos := Lib.hid hos
      clear hx0 hw0 hx hos rt
      by_cases hib : 0 ≤ x ∧ x < (n0 : Int)
      case neg =>
        have HFF := Lib.hid (HF2.out i hlt (by
          rw [Hos.out]
          have : inB 0 ((n0 : Int) - 1) x = false := by
            cases h : inB 0 ((n0 : Int) - 1) x
            · rfl
            · have := inB_iff.1 h; omega
          rw [this, Bool.false_and]))
        have hd : decide (x < 0) = true ∨ (decide (x < 0) = false ∧ decide ((n0 : Int) ≤ x) = true) := by
          simp only [decide_eq_true_eq, decide_eq_false_iff_not]; omega
        clear hib
        rcases hd with hd | ⟨hd1, hd2⟩
        all_goals
          go_wp2
          go_ret
          exact ⟨by rw [HFF.out]; rfl, rfl⟩
      obtain ⟨x1, x2⟩ := hib
      have hd1 : decide (x < 0) = false := by simp; omega
      have hd2 : decide ((n0 : Int) ≤ x) = false := by simp; omega
      have hib : inB 0 ((n0 : Int) - 1) x = true := inB_iff.2 (by omega)
      have Hos2 : RowKit.Hid (okA cl to i = (to.take i).all fun z => decide (z ≠ x)) := Lib.hid (by rw [Hos.out, hib, Bool.true_and])
      obtain ⟨bb, hbb⟩ : ∃ q, ((to.take i).all fun z => decide (z ≠ x)) = q := ⟨_, rfl⟩
      rw [hbb] at Hos2 Hcx
      clear hib hbb Hos
      cases bb
      · have HFF := Lib.hid (HF2.out i hlt Hos2.out)
        go_wp2_with (go_at_call 30; refine Hcx.out.mono ?_; rintro e w1 ⟨rfl, rfl⟩)
        go_ret
        exact ⟨by rw [HFF.out]; rfl, rfl⟩
      · go_wp2_with (go_at_call 30; refine Hcx.out.mono ?_; rintro e w1 ⟨rfl, rfl⟩)
        go_roundg (n2 - (i + 1))
        case rel => exact ⟨i + 1, by omega, rfl, by go_num, (fun a ha => by
          by_cases e : a = i
          · subst e; exact Hos2.out
          · exact Hall.out a (by omega)), rfl⟩
        case measure => omega
    · have ee : i = n2 := by omega
      subst ee
      have HTT := Lib.hid (HT2.out Hall.out)
      go_wp2
      go_ret
      exact ⟨by rw [HTT.out]; rfl, rfl⟩
end Go.Proofs.Ytmcamadcoglodaa
