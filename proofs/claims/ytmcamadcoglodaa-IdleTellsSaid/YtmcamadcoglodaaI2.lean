/- Walks over Ints, Few, Assigns and Cost of the reference of layer 24. Conditions stand in each theorem. -/
import Derived.Test.YtmcamadcoglodaaI1
namespace Go.Proofs.Ytmcamadcoglodaa
open Go.RowKit
set_option linter.unusedVariables false

def SameP (w : World) (b : Bool) (e : Ending) (w' : World) : Prop := e = .returned (.bool b) ∧ ∃ q, w' = w.drewN q
theorem ints_any (A B : Option Addr) (n m cap capb : Nat) (a b : List Int) (w : World) (ha : RdI w w.heap.size A n cap a) (hb : RdI w w.heap.size B m capb b) :
  Calls Try.prog 13 #[.slice A n cap, .slice B m capb] w (SameP w (decide (a = b))) := by
  have h1 := ha.caps
  have h2 := hb.caps
  have la := ha.len
  have lb := hb.len
  by_cases hnm : n = m
  · subst hnm
    have hnn : ((n : Int) != (n : Int)) = false := by simp
    have La := Lib.hid la; have Lb := Lib.hid lb; clear la lb
    go_enter Try.func13, Try.ntmps13
    go_wp2
    go_loopg [5] n (fun gk i wr => ∃ k : Nat, k ≤ n ∧ gk = n - k ∧ i = .int .i64 k ∧ (∀ j, j < k → a[j]? = b[j]?) ∧ ∃ q, wr = w.drewN q)
    case atStart => exact ⟨0, Nat.zero_le _, rfl, rfl, (fun j h => absurd h (by omega)), dr_zero w⟩
    case round =>
      obtain ⟨k, hk, rfl, rfl, hall, hq⟩ := hrel
      have Hall := Lib.hid hall; have Hq := Lib.hid hq; clear hall hq
      by_cases hlt : k < n
      · obtain ⟨ba, oa, x, rfl, hba, hx, c0⟩ := ha.atI hlt
        obtain ⟨bb, ob, y, rfl, hbb, hy, d0⟩ := hb.atI hlt
        have hki : (k : Int) < (n : Int) := by omega
        have hk0 : (0 : Int) ≤ (k : Int) := by omega
        have c0' := (dr_cell Hq.out ⟨ba, oa + k, none⟩).trans c0
        have d0' := (dr_cell Hq.out ⟨bb, ob + k, none⟩).trans d0
        have Hx := Lib.hid hx; have Hy := Lib.hid hy
        clear hx hy
        by_cases hxy : x = y
        · subst hxy
          have hne : (x != x) = false := by simp
          go_wp2_with fail
          go_quiet (fail)
          go_wp2
          go_roundg (n - (k + 1))
          case rel => exact ⟨k + 1, by omega, rfl, by go_num, (fun j hj => by
            by_cases e : j = k
            · subst e; rw [Hx.out, Hy.out]
            · exact Hall.out j (by omega)), dr_more Hq.out _⟩
          case measure => omega
        · have hne : (x != y) = true := by simpa using hxy
          have hF : decide (a = b) = false := by
            rw [decide_eq_false_iff_not]; intro h
            have := Hx.out; rw [h, Hy.out] at this
            exact hxy (Option.some.inj this).symm
          have HF := Lib.hid hF; clear hF
          go_wp2_with fail
          go_quiet (fail)
          go_wp2
          go_ret
          exact ⟨by rw [HF.out]; rfl, dr_more Hq.out _⟩
      · have e : k = n := by omega
        subst e
        have hT : decide (a = b) = true := by
          rw [decide_eq_true_iff]
          apply List.ext_getElem?
          intro j
          by_cases hj : j < k
          · exact Hall.out j hj
          · rw [List.getElem?_eq_none (by rw [La.out]; omega), List.getElem?_eq_none (by rw [Lb.out]; omega)]
        have HT := Lib.hid hT; clear hT
        go_wp2
        go_ret
        exact ⟨by rw [HT.out]; rfl, Hq.out⟩
  · have hnn : ((n : Int) != (m : Int)) = true := by simp; omega
    have hF : decide (a = b) = false := by
      rw [decide_eq_false_iff_not]; intro h
      rw [h, lb] at la; omega
    rw [hF]
    clear hF la lb
    go_enter Try.func13, Try.ntmps13
    go_wp2
    go_ret
    exact ⟨rfl, dr_zero w⟩



theorem fewC_iff {cl : List (List Int)} : fewC cl = true ↔ cl.length ≤ 4 ∧ ∀ i, i < cl.length → (clAt cl i).length ≤ 6 := by
  unfold fewC
  rw [Bool.and_eq_true, decide_eq_true_eq, List.all_eq_true]
  refine ⟨fun ⟨h1, h2⟩ => ⟨h2, fun i hi => ?_⟩, fun ⟨h1, h2⟩ => ⟨fun x hx => ?_, h1⟩⟩
  · have h3 := h1 cl[i] (by
      rw [List.take_of_length_le (by omega)]; exact List.getElem_mem hi)
    rw [clAt_eq (List.getElem?_eq_getElem hi)]
    simpa using h3
  · rw [List.take_of_length_le (by omega)] at hx
    obtain ⟨k, hk⟩ := List.mem_iff_getElem?.1 hx
    have := h2 k (List.getElem?_eq_some_iff.1 hk).1
    rw [clAt_eq hk] at this
    simpa using this
set_option maxRecDepth 100000 in
set_option maxHeartbeats 1000000 in
theorem few_any (A : Option Addr) (n cap : Nat) (cl : List (List Int)) (w : World) (hl : RdII w w.heap.size A n cap cl) :
    Calls Try.prog 8 #[.slice A n cap] w fun e w' => e = .returned (.bool (fewC cl)) ∧ w = w' := by
  have hcaps := hl.caps
  have hlen := hl.len
  have HF : RowKit.Hid (∀ i, i < n → i ≤ 4 → 6 < (clAt cl i).length → fewC cl = false) := Lib.hid fun i h1 h2 h3 => by
    cases hr : fewC cl
    · rfl
    · have := (fewC_iff.1 hr).2 i (by omega); omega
  have HT : RowKit.Hid ((∀ i, i < n → i ≤ 4 → (clAt cl i).length ≤ 6) → fewC cl = decide (n ≤ 4)) := Lib.hid fun h => by
    by_cases e : n ≤ 4
    · rw [decide_eq_true e]; exact fewC_iff.2 ⟨by omega, fun i hi => h i (by omega) (by omega)⟩
    · rw [decide_eq_false e]
      cases hr : fewC cl
      · rfl
      · have := (fewC_iff.1 hr).1; omega
  generalize fewC cl = RR at *
  go_enter Try.func8, Try.ntmps8
  go_wp2
  go_loopg [3] n (fun gk i wr => ∃ i' : Nat, i' ≤ n ∧ i' ≤ 5 ∧ gk = n - i' ∧ i = .int .i64 i' ∧ (∀ a, a < i' → (clAt cl a).length ≤ 6) ∧ w = wr)
  case atStart => exact ⟨0, Nat.zero_le _, by omega, rfl, rfl, (fun a h => absurd h (by omega)), rfl⟩
  case round =>
    obtain ⟨i, hi, hi5, rfl, rfl, hall, rfl⟩ := hrel
    have Hall := Lib.hid hall
    clear hall
    by_cases hlt : i < n ∧ i ≤ 4
    · obtain ⟨b', off', Ai, ni, capi, xi, rfl, hbi, hxi, d0, ri⟩ := hl.atII hlt.1
      have hci := clAt_eq hxi
      have hli := ri.len
      have hcapi := ri.caps
      obtain ⟨hlt1, hlt2⟩ := hlt
      have hii : (i : Int) < (n : Int) := by omega
      have hi0 : (0 : Int) ≤ (i : Int) := by omega
      have hd1 : decide ((i : Int) < (n : Int)) = true := by simpa using hlt1
      have hd2 : decide ((i : Int) ≤ 4) = true := by simp; omega
      have Hci : RowKit.Hid ((clAt cl i).length = ni) := Lib.hid (by rw [hci]; exact hli)
      clear hci hxi hli
      by_cases hgt : 6 < ni
      · have hd : decide ((6 : Int) < (ni : Int)) = true := by simp; omega
        have HFF := Lib.hid (HF.out i hlt1 hlt2 (by rw [Hci.out]; exact hgt))
        clear hgt
        go_wp2
        go_ret
        exact ⟨by rw [HFF.out]; rfl, rfl⟩
      · have hd : decide ((6 : Int) < (ni : Int)) = false := by simp; omega
        go_wp2
        go_roundg (n - (i + 1))
        case rel => exact ⟨i + 1, by omega, by omega, rfl, by go_num, (fun a ha => by
          by_cases e : a = i
          · subst e; rw [Hci.out]; omega
          · exact Hall.out a (by omega)), rfl⟩
        case measure => omega
    · have hT := HT.out (fun a h1 h2 => Hall.out a (by omega))
      have HTT := Lib.hid hT
      have hq : decide ((n : Int) ≤ 4) = decide (n ≤ 4) := by
        rw [decide_eq_decide]; omega
      have Hq := Lib.hid hq
      have hd : ¬ i < n ∨ (i < n ∧ ¬ i ≤ 4) := by omega
      clear hT hlt hq
      rcases hd with hd | ⟨hd1, hd2⟩
      · have hii : ¬ (i : Int) < (n : Int) := by omega
        go_wp2
        go_ret
        exact ⟨by rw [HTT.out, ← Hq.out]; rfl, rfl⟩
      · have hii : (i : Int) < (n : Int) := by omega
        have hi4 : ¬ (i : Int) ≤ 4 := by omega
        have hd3 : decide ((i : Int) < (n : Int)) = true := by simp; omega
        have hd4 : decide ((i : Int) ≤ 4) = false := by simp; omega
        go_wp2
        go_ret
        exact ⟨by rw [HTT.out, ← Hq.out]; rfl, rfl⟩
end Go.Proofs.Ytmcamadcoglodaa
