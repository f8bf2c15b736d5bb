/- Walks over Assigns and Cost of the reference of layer 24. Conditions stand in each theorem. -/
import Derived.Test.YtmcamadcoglodaaI2
namespace Go.Proofs.Ytmcamadcoglodaa
open Go.RowKit
set_option linter.unusedVariables false

/-- what Assigns says -/
def okA (cl : List (List Int)) (to : List Int) (i : Nat) : Bool := inB 0 ((wid cl : Int) - 1) (gi to i) && (List.range i).all fun k => decide (gi to k ≠ gi to i)
def assC (cl : List (List Int)) (to : List Int) : Bool := decide (to.length = cl.length) && (List.range to.length).all (okA cl to)
theorem okA_iff {cl : List (List Int)} {to : List Int} {i : Nat} : okA cl to i = true ↔ inB 0 ((wid cl : Int) - 1) (gi to i) = true ∧ ∀ k, k < i → gi to k ≠ gi to i := by
  unfold okA
  rw [Bool.and_eq_true, List.all_eq_true]
  refine ⟨fun ⟨h1, h2⟩ => ⟨h1, fun k hk => by simpa using h2 k (List.mem_range.2 hk)⟩, fun ⟨h1, h2⟩ => ⟨h1, fun k hk => by simpa using h2 k (List.mem_range.1 hk)⟩⟩
theorem assC_iff {cl : List (List Int)} {to : List Int} : assC cl to = true ↔ to.length = cl.length ∧ ∀ i, i < to.length → okA cl to i = true := by
  unfold assC
  rw [Bool.and_eq_true, decide_eq_true_eq, List.all_eq_true]
  refine ⟨fun ⟨h1, h2⟩ => ⟨h1, fun i hi => h2 i (List.mem_range.2 hi)⟩, fun ⟨h1, h2⟩ => ⟨h1, fun i hi => h2 i (List.mem_range.1 hi)⟩⟩
set_option maxRecDepth 100000 in
set_option maxHeartbeats 2000000 in
theorem rassigns_any (A A2 : Option Addr) (n cap n2 cap2 : Nat) (cl : List (List Int)) (to : List Int) (w : World) (hl : RdII w w.heap.size A n cap cl) (ht : RdI w w.heap.size A2 n2 cap2 to) :
    Calls Try.prog 23 #[.slice A n cap, .slice A2 n2 cap2] w (SameP w (assC cl to)) := by
  have hcaps := hl.caps
  have hlen := hl.len
  have hcaps2 := ht.caps
  have hlent := ht.len
  have HF : RowKit.Hid (¬ (n2 = n ∧ ∀ i, i < n2 → okA cl to i = true) → assC cl to = false) := Lib.hid fun h => by
    cases hr : assC cl to
    · rfl
    · rw [assC_iff, hlen, hlent] at hr; exact absurd hr h
  have HT : RowKit.Hid ((n2 = n ∧ ∀ i, i < n2 → okA cl to i = true) → assC cl to = true) := Lib.hid fun h => assC_iff.2 (by rw [hlen, hlent]; exact h)
  generalize assC cl to = RR at *
  by_cases hn : n2 = n
  case neg =>
    have hF := HF.out (fun h => hn h.1)
    have hne : ((n2 : Int) != (n : Int)) = true := by simp; omega
    rw [hF]
    clear hn HF HT hF hlen hlent
    go_enter Try.func23, Try.ntmps23
    go_wp2
    go_ret
    exact ⟨rfl, dr_zero w⟩
  subst hn
  have hnn : ((n2 : Int) != (n2 : Int)) = false := by simp
  have HT2 : RowKit.Hid ((∀ i, i < n2 → okA cl to i = true) → RR = true) := Lib.hid fun h => HT.out ⟨rfl, h⟩
  have HF2 : RowKit.Hid (¬ (∀ i, i < n2 → okA cl to i = true) → RR = false) := Lib.hid fun h => HF.out fun h2 => h h2.2
  clear hlen hlent HT HF
  go_enter Try.func23, Try.ntmps23
  go_wp2
  go_loopg [5] n2 (fun gk i wr => ∃ i' : Nat, i' ≤ n2 ∧ gk = n2 - i' ∧ i = .int .i64 i' ∧ (∀ a, a < i' → okA cl to a = true) ∧ ∃ q, wr = w.drewN q)
  case atStart => exact ⟨0, Nat.zero_le _, rfl, rfl, (fun a h => absurd h (by omega)), dr_zero w⟩
  case round =>
    obtain ⟨i, hi, rfl, rfl, hall, hq⟩ := hrel
    have Hall := Lib.hid hall; have Hq := Lib.hid hq
    clear hall hq
    by_cases hlt : i < n2
    · obtain ⟨b, off, A0, n0, cap0, x0, rfl, hbB, hx0, c0, r0⟩ := hl.atII (k := 0) (by omega)
      have hw0 : wid cl = n0 := by rw [wid, clAt_eq hx0]; exact r0.len
      have hcap0 := r0.caps
      have hn0 : (0 : Int) < (n2 : Int) := by omega
      rw [Nat.add_zero] at c0
      obtain ⟨bt, ot, x, rfl, hbt, hx, e0⟩ := ht.atI hlt
      have hgx := gi_eq hx
      have c0' := (dr_cell Hq.out ⟨b, off, none⟩).trans c0
      have e0' := (dr_cell Hq.out ⟨bt, ot + i, none⟩).trans e0
      have hii : (i : Int) < (n2 : Int) := by omega
      have hi0 : (0 : Int) ≤ (i : Int) := by omega
      have hwn : IntKind.i64.wrap ((n0 : Int) - 1) = (n0 : Int) - 1 := IntWalk.i64_in _ (by omega)
      have hin : ∀ r, Calls Try.prog 33 #[.int .i64 x, .int .i64 0, .int .i64 ((n0 : Int) - 1)] (wr.drewN r) fun e w'' => e = .returned (.bool (inB 0 ((n0 : Int) - 1) x)) ∧ ∃ s, w'' = wr.drewN s := fun r =>
        (rin_any x 0 ((n0 : Int) - 1) (wr.drewN r)).mono fun e w'' ⟨he, hs⟩ => ⟨he, r, hs.symm⟩
      have Hw0 := Lib.hid hw0; have Hgx := Lib.hid hgx
      clear hx0 hw0 hgx hx
      cases hib : inB 0 ((n0 : Int) - 1) x
      · rw [hib] at hin
        have Hin := Lib.hid hin; have Hib := Lib.hid hib
        have HFF := Lib.hid (HF2.out (fun h => by
          have := (okA_iff.1 (h i hlt)).1
          rw [Hw0.out, Hgx.out, Hib.out] at this; cases this))
        clear hin hib
        go_wp2_with fail
        go_quiet ((go_at_call 33; exact Hin.out _))
        go_wp2
        go_ret
        exact ⟨by rw [HFF.out]; rfl, dr_more Hq.out _⟩
      · rw [hib] at hin
        have Hin := Lib.hid hin; have Hib := Lib.hid hib
        clear hin hib
        go_wp2_with fail
        go_quiet ((go_at_call 33; exact Hin.out _))
        rename_i nq
        have hq2 := dr_more Hq.out nq
        have Hq2 := Lib.hid hq2
        clear hq2 c0' e0'
        go_wp2
        go_loopg [6] i (fun gk k wr2 => ∃ k' : Nat, k' ≤ i ∧ gk = i - k' ∧ k = .int .i64 k' ∧ (∀ a, a < k' → gi to a ≠ gi to i) ∧ ∃ q, wr2 = w.drewN q)
        case atStart => exact ⟨0, Nat.zero_le _, rfl, rfl, (fun a h => absurd h (by omega)), Hq2.out⟩
        case round =>
          obtain ⟨k, hk, rfl, rfl, hall2, hq3⟩ := hrel
          have Hall2 := Lib.hid hall2; have Hq3 := Lib.hid hq3
          clear hall2 hq3
          by_cases hlt2 : k < i
          · obtain ⟨bt2, ot2, y, hA, hbt2, hy, f0⟩ := ht.atI (k := k) (by omega)
            injection hA with hA; injection hA with hA1 hA2
            subst hA1 hA2
            have Hgy := Lib.hid (gi_eq hy)
            have f0' := (dr_cell Hq3.out ⟨bt, ot + k, none⟩).trans f0
            have e0' := (dr_cell Hq3.out ⟨bt, ot + i, none⟩).trans e0
            have hki : (k : Int) < (i : Int) := by omega
            have hk0 : (0 : Int) ≤ (k : Int) := by omega
            have hkn : (k : Int) < (n2 : Int) := by omega
            clear hy
            by_cases hyx : y = x
            · have hb : (y == x) = true := by simp [hyx]
              have HFF := Lib.hid (HF2.out (fun h => by
                have := (okA_iff.1 (h i hlt)).2 k hlt2
                rw [Hgx.out, Hgy.out] at this; exact this hyx))
              subst hyx
              go_wp2_with fail
              go_quiet (fail)
              go_wp2
              go_ret
              exact ⟨by rw [HFF.out]; rfl, dr_more Hq3.out _⟩
            · have hb : (y == x) = false := by simpa using hyx
              have Hyx := Lib.hid hyx
              clear hyx
              go_wp2_with fail
              go_quiet (fail)
              go_wp2
              go_roundg (i - (k + 1))
              case rel => exact ⟨k + 1, by omega, rfl, by go_num, (fun a ha => by
                by_cases e : a = k
                · subst e; rw [Hgx.out, Hgy.out]; exact Hyx.out
                · exact Hall2.out a (by omega)), dr_more Hq3.out _⟩
              case measure => omega
          · have ee : k = i := by omega
            subst ee
            have Hok : RowKit.Hid (okA cl to k = true) := Lib.hid (okA_iff.2 ⟨by rw [Hw0.out, Hgx.out]; exact Hib.out, Hall2.out⟩)
            go_wp2
            go_roundg (n2 - (k + 1))
            case rel => exact ⟨k + 1, by omega, rfl, by go_num, (fun a ha => by
              by_cases e : a = k
              · subst e; exact Hok.out
              · exact Hall.out a (by omega)), Hq3.out⟩
            case measure => omega
    · have ee : i = n2 := by omega
      subst ee
      have HTT := Lib.hid (HT2.out Hall.out)
      go_wp2
      go_ret
      exact ⟨by rw [HTT.out]; rfl, Hq.out⟩
end Go.Proofs.Ytmcamadcoglodaa
