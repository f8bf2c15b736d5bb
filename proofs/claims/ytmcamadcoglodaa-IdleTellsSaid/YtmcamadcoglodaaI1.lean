/- Walks over in, Right, Few and Ints of the reference of layer 24. Conditions stand in each theorem. -/
import Derived.Test.YtmcamadcoglodaaIa
namespace Go.Proofs.Ytmcamadcoglodaa
open Go.RowKit
set_option linter.unusedVariables false

theorem rin_any (x lo hi : Int) (w : World) : Calls Try.prog 33 #[.int .i64 x, .int .i64 lo, .int .i64 hi] w fun e w' => e = .returned (.bool (inB lo hi x)) ∧ w = w' := by
  by_cases h : lo ≤ x
  · have hd : decide (lo ≤ x) = true := by simpa using h
    have e : inB lo hi x = decide (x ≤ hi) := by rw [inB, hd, Bool.true_and]
    rw [e]
    clear e h
    go_enter Try.func33, Try.ntmps33
    go_wp2
    go_ret
    exact ⟨rfl, rfl⟩
  · have hd : decide (lo ≤ x) = false := by simpa using h
    have e : inB lo hi x = false := by rw [inB, hd, Bool.false_and]
    rw [e]
    clear e h
    go_enter Try.func33, Try.ntmps33
    go_wp2
    go_ret
    exact ⟨rfl, rfl⟩
theorem inB_iff {lo hi x : Int} : inB lo hi x = true ↔ lo ≤ x ∧ x ≤ hi := by
  unfold inB; rw [Bool.and_eq_true, decide_eq_true_eq, decide_eq_true_eq]
theorem all_gi {l : List Int} {p : Int → Bool} : (∀ k, k < l.length → p (gi l k) = true) ↔ l.all p = true := by
  rw [List.all_eq_true]
  refine ⟨fun h x hx => ?_, fun h k hk => ?_⟩
  · obtain ⟨k, hk⟩ := List.mem_iff_getElem?.1 hx
    have := h k (List.getElem?_eq_some_iff.1 hk).1
    rw [gi_eq hk] at this
    exact this
  · have h2 := List.getElem?_eq_getElem hk
    rw [gi_eq h2]
    exact h _ (List.getElem_mem hk)
theorem rowC_iff {cl : List (List Int)} {i : Nat} : rowC cl i = true ↔ (clAt cl i).length = wid cl ∧ ∀ k, k < wid cl → inB 0 1000000000 (tb cl i k) = true := by
  unfold rowC tb
  rw [Bool.and_eq_true, decide_eq_true_eq, ← all_gi]
  refine ⟨fun ⟨h1, h2⟩ => ⟨h1, fun k hk => h2 k (by omega)⟩, fun ⟨h1, h2⟩ => ⟨h1, fun k hk => h2 k (by omega)⟩⟩
/-- what a right table is -/
theorem rightC_iff {cl : List (List Int)} : rightC cl = true ↔ (1 ≤ cl.length ∧ cl.length ≤ 20) ∧ (cl.length ≤ wid cl ∧ wid cl ≤ 40) ∧ ∀ i, i < cl.length → rowC cl i = true := by
  unfold rightC
  rw [Bool.and_eq_true, Bool.and_eq_true, decide_eq_true_eq, decide_eq_true_eq, List.all_eq_true]
  refine ⟨fun ⟨h1, h2, h3⟩ => ⟨h1, h2, fun i hi => h3 i (List.mem_range.2 hi)⟩, fun ⟨h1, h2, h3⟩ => ⟨h1, h2, fun i hi => h3 i (List.mem_range.1 hi)⟩⟩
set_option maxRecDepth 100000 in
set_option maxHeartbeats 1000000 in
theorem rright_any (A : Option Addr) (n cap : Nat) (cl : List (List Int)) (w : World) (hl : RdII w w.heap.size A n cap cl) :
    Calls Try.prog 10 #[.slice A n cap] w fun e w' => e = .returned (.bool (rightC cl)) ∧ w = w' := by
  have hcaps := hl.caps
  have hlen := hl.len
  have HF : RowKit.Hid (¬ ((1 ≤ n ∧ n ≤ 20) ∧ (n ≤ wid cl ∧ wid cl ≤ 40) ∧ ∀ i, i < n → rowC cl i = true) → rightC cl = false) := Lib.hid fun h => by
    cases hr : rightC cl
    · rfl
    · rw [rightC_iff, hlen] at hr; exact absurd hr h
  have HT : RowKit.Hid (((1 ≤ n ∧ n ≤ 20) ∧ (n ≤ wid cl ∧ wid cl ≤ 40) ∧ ∀ i, i < n → rowC cl i = true) → rightC cl = true) := Lib.hid fun h => rightC_iff.2 (by rw [hlen]; exact h)
  generalize rightC cl = RR at *
  by_cases hn : 1 ≤ n ∧ n ≤ 20
  case neg =>
    have hF := HF.out (fun h => hn h.1)
    have Hi : RowKit.Hid (inB 1 20 (n : Int) = false) := Lib.hid (by
      cases h : inB 1 20 (n : Int)
      · rfl
      · have := inB_iff.1 h; omega)
    rw [hF]
    clear hn HF HT hF
    go_enter Try.func10, Try.ntmps10
    go_wp2_with (go_at_call 33; refine (rin_any _ _ _ _).mono ?_; rw [Hi.out]; rintro e _ ⟨rfl, rfl⟩)
    go_ret
    exact ⟨rfl, rfl⟩
  obtain ⟨n1, n20⟩ := hn
  obtain ⟨b, off, A0, n0, cap0, x0, rfl, hbB, hx0, c0, r0⟩ := hl.atII (k := 0) (by omega)
  have hw0 : wid cl = n0 := by rw [wid, clAt_eq hx0]; exact r0.len
  have hcap0 := r0.caps
  have Hi : RowKit.Hid (inB 1 20 (n : Int) = true) := Lib.hid (inB_iff.2 (by omega))
  have hn0 : (0 : Int) < (n : Int) := by omega
  rw [hw0] at HF HT
  rw [Nat.add_zero] at c0
  by_cases hn2 : n ≤ n0 ∧ n0 ≤ 40
  case neg =>
    have hF := HF.out (fun h => hn2 h.2.1)
    have Hi2 : RowKit.Hid (inB (n : Int) 40 (n0 : Int) = false) := Lib.hid (by
      cases h : inB (n : Int) 40 (n0 : Int)
      · rfl
      · have := inB_iff.1 h; omega)
    rw [hF]
    clear hn2 HF HT hF hx0 hw0
    go_enter Try.func10, Try.ntmps10
    go_wp2_with (go_at_call 33; refine (rin_any _ _ _ _).mono ?_; first | rw [Hi.out] | rw [Hi2.out]
                 rintro e _ ⟨rfl, rfl⟩)
    go_ret
    exact ⟨rfl, rfl⟩
  obtain ⟨n2, n40⟩ := hn2
  have Hi2 : RowKit.Hid (inB (n : Int) 40 (n0 : Int) = true) := Lib.hid (inB_iff.2 (by omega))
  have Hw0 := Lib.hid hw0
  clear hx0 hw0
  go_enter Try.func10, Try.ntmps10
  go_wp2_with (go_at_call 33; refine (rin_any _ _ _ _).mono ?_; first | rw [Hi.out] | rw [Hi2.out]
               rintro e _ ⟨rfl, rfl⟩)
  go_loopg [5] n (fun gk i wr => ∃ i' : Nat, i' ≤ n ∧ gk = n - i' ∧ i = .int .i64 i' ∧ (∀ a, a < i' → rowC cl a = true) ∧ w = wr)
  case atStart => exact ⟨0, Nat.zero_le _, rfl, rfl, (fun a h => absurd h (by omega)), rfl⟩
  case round =>
    obtain ⟨i, hi, rfl, rfl, hall, rfl⟩ := hrel
    have Hall := Lib.hid hall
    clear hall
    by_cases hlt : i < n
    · obtain ⟨b', off', Ai, ni, capi, xi, hA, hbi, hxi, d0, ri⟩ := hl.atII hlt
      injection hA with hA; injection hA with hA1 hA2
      subst hA1 hA2
      have hci := clAt_eq hxi
      have hli := ri.len
      have hcapi := ri.caps
      have hii : (i : Int) < (n : Int) := by omega
      have hi0 : (0 : Int) ≤ (i : Int) := by omega
      by_cases hne : ni = n0
      case neg =>
        have hF := HF.out (fun h => by
          have := (rowC_iff.1 (h.2.2 i hlt)).1
          rw [hci, Hw0.out] at this; omega)
        have hd : ((ni : Int) != (n0 : Int)) = true := by simp; omega
        have HFF := Lib.hid hF
        clear hF hne hci hxi
        go_wp2
        go_ret
        exact ⟨by rw [HFF.out]; rfl, rfl⟩
      subst hne
      have hd : ((ni : Int) != (ni : Int)) = false := by simp
      have Hci := Lib.hid hci
      have Hli := Lib.hid hli
      clear hci hli hxi
      go_wp2
      go_loopg [6] ni (fun gk k wr2 => ∃ k' : Nat, k' ≤ ni ∧ gk = ni - k' ∧ k = .int .i64 k' ∧ (∀ a, a < k' → inB 0 1000000000 (tb cl i a) = true) ∧ w = wr2)
      case atStart => exact ⟨0, Nat.zero_le _, rfl, rfl, (fun a h => absurd h (by omega)), rfl⟩
      case round =>
        obtain ⟨k, hk, rfl, rfl, hall2, rfl⟩ := hrel
        have Hall2 := Lib.hid hall2
        clear hall2
        by_cases hlt2 : k < ni
        · obtain ⟨bi, oi, y, rfl, hbi2, hy, e0⟩ := ri.atI hlt2
          have hty : tb cl i k = y := by rw [tb, Hci.out]; exact gi_eq hy
          have Hty := Lib.hid hty
          have hki : (k : Int) < (ni : Int) := by omega
          have hk0 : (0 : Int) ≤ (k : Int) := by omega
          clear hty hy
          cases hin : inB 0 1000000000 y
          · have Hin := Lib.hid hin
            have hF := HF.out (fun h => by
              have h2 := (rowC_iff.1 (h.2.2 i hlt)).2 k (by rw [Hw0.out]; exact hlt2)
              rw [Hty.out, Hin.out] at h2; cases h2)
            have HFF := Lib.hid hF
            clear hF hin
            go_wp2_with (go_at_call 33; refine (rin_any _ _ _ _).mono ?_; rw [Hin.out]; rintro e _ ⟨rfl, rfl⟩)
            go_ret
            exact ⟨by rw [HFF.out]; rfl, rfl⟩
          · have Hin := Lib.hid hin
            clear hin
            go_wp2_with (go_at_call 33; refine (rin_any _ _ _ _).mono ?_; rw [Hin.out]; rintro e _ ⟨rfl, rfl⟩)
            go_roundg (ni - (k + 1))
            case rel => exact ⟨k + 1, by omega, rfl, by go_num, (fun a ha => by
              by_cases e : a = k
              · subst e; rw [Hty.out]; exact Hin.out
              · exact Hall2.out a (by omega)), rfl⟩
            case measure => omega
        · have ee : k = ni := by omega
          subst ee
          have Hrow : RowKit.Hid (rowC cl i = true) := Lib.hid (rowC_iff.2 ⟨by rw [Hci.out, Hli.out, Hw0.out], fun a ha => Hall2.out a (by rw [Hw0.out] at ha; exact ha)⟩)
          go_wp2
          go_roundg (n - (i + 1))
          case rel => exact ⟨i + 1, by omega, rfl, by go_num, (fun a ha => by
            by_cases e : a = i
            · subst e; exact Hrow.out
            · exact Hall.out a (by omega)), rfl⟩
          case measure => omega
    · have ee : i = n := by omega
      subst ee
      have hT := HT.out ⟨⟨n1, n20⟩, ⟨n2, n40⟩, Hall.out⟩
      have HTT := Lib.hid hT
      clear hT
      go_wp2
      go_ret
      exact ⟨by rw [HTT.out]; rfl, rfl⟩
end Go.Proofs.Ytmcamadcoglodaa
