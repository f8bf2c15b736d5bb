/- Walk over Bounds of the reference of layer 24. Conditions stand in the theorem. -/
import Derived.Test.YtmcamadcoglodaaI4
namespace Go.Proofs.Ytmcamadcoglodaa
open Go.RowKit
set_option linter.unusedVariables false

def leC (lo hi : List (List Int)) : Bool := (List.range lo.length).all fun i => (List.range (wid lo)).all fun k => decide (tb lo i k ≤ tb hi i k)
def bndC (lo hi : List (List Int)) : Bool := rightC lo && (rightC hi && (decide (lo.length = hi.length ∧ wid lo = wid hi) && leC lo hi))
theorem leC_iff {lo hi : List (List Int)} : leC lo hi = true ↔ ∀ i, i < lo.length → ∀ k, k < wid lo → tb lo i k ≤ tb hi i k := by
  unfold leC
  rw [List.all_eq_true]
  refine ⟨fun h i hi k hk => ?_, fun h i hi => List.all_eq_true.2 fun k hk => decide_eq_true (h i (List.mem_range.1 hi) k (List.mem_range.1 hk))⟩
  have := List.all_eq_true.1 (h i (List.mem_range.2 hi)) k (List.mem_range.2 hk)
  simpa using this
set_option maxRecDepth 100000 in
set_option maxHeartbeats 2000000 in
theorem rbounds_any (A A2 : Option Addr) (n cap n2 cap2 : Nat) (lo hi : List (List Int)) (w : World) (hl : RdII w w.heap.size A n cap lo) (ht : RdII w w.heap.size A2 n2 cap2 hi) :
    Calls Try.prog 22 #[.slice A n cap, .slice A2 n2 cap2] w (SameP w (bndC lo hi)) := by
  have hcaps := hl.caps
  have hlen := hl.len
  have hcaps2 := ht.caps
  have hlen2 := ht.len
  have Hr1 := Lib.hid (fun q => (rright_any A n cap lo (w.drewN q) (Rd.drewN ii_lasts hl q)).mono fun e w'' ⟨he, h⟩ => (⟨he, q, h.symm⟩ : e = Ending.returned (.bool (rightC lo)) ∧ ∃ s, w'' = w.drewN s))
  have Hr2 := Lib.hid (fun q => (rright_any A2 n2 cap2 hi (w.drewN q) (Rd.drewN ii_lasts ht q)).mono fun e w'' ⟨he, h⟩ => (⟨he, q, h.symm⟩ : e = Ending.returned (.bool (rightC hi)) ∧ ∃ s, w'' = w.drewN s))
  cases h1 : rightC lo
  · have hF : bndC lo hi = false := by rw [bndC, h1]; rfl
    rw [hF]
    rw [h1] at Hr1
    clear hF h1 hlen hlen2
    go_enter Try.func22, Try.ntmps22
    go_wp2_with fail
    go_quiet ((go_at_call 10; exact Hr1.out _))
    go_wp2
    go_ret
    exact ⟨rfl, _, rfl⟩
  cases h2 : rightC hi
  · have hF : bndC lo hi = false := by rw [bndC, h1, h2]; rfl
    rw [hF]
    rw [h1] at Hr1
    rw [h2] at Hr2
    clear hF h1 h2 hlen hlen2
    go_enter Try.func22, Try.ntmps22
    go_wp2_with fail
    go_quiet ((go_at_call 10; first | with_reducible exact Hr1.out _ | with_reducible exact Hr2.out _))
    go_wp2
    go_ret
    exact ⟨rfl, _, rfl⟩
  have hB : bndC lo hi = (decide (lo.length = hi.length ∧ wid lo = wid hi) && leC lo hi) := by rw [bndC, h1, h2, Bool.true_and, Bool.true_and]
  obtain ⟨⟨n1, n20⟩, ⟨w1, w40⟩, hrow⟩ := rightC_iff.1 h1
  obtain ⟨⟨m1, m20⟩, ⟨v1, v40⟩, hrow2⟩ := rightC_iff.1 h2
  rw [hlen] at n1 n20 w1
  rw [hlen2] at m1 m20 v1
  rw [h1] at Hr1
  rw [h2] at Hr2
  rw [hB]
  obtain ⟨b, off, A0, n0, cap0, x0, rfl, hbB, hx0, c0, r0⟩ := hl.atII (k := 0) (by omega)
  obtain ⟨b', off', A0', n0', cap0', x0', rfl, hbB', hx0', c0', r0'⟩ := ht.atII (k := 0) (by omega)
  have hw0 : wid lo = n0 := by rw [wid, clAt_eq hx0]; exact r0.len
  have hw0' : wid hi = n0' := by rw [wid, clAt_eq hx0']; exact r0'.len
  have hcap0 := r0.caps
  have hcap0' := r0'.caps
  have hn0 : (0 : Int) < (n : Int) := by omega
  have hn00 : 0 < n := by omega
  have hm0 : (0 : Int) < (n2 : Int) := by omega
  have hm00 : 0 < n2 := by omega
  rw [Nat.add_zero] at c0 c0'
  by_cases hnn : n = n2
  case neg =>
    have hF : (decide (lo.length = hi.length ∧ wid lo = wid hi) && leC lo hi) = false := by rw [decide_eq_false (by omega), Bool.false_and]
    have hne : ((n : Int) != (n2 : Int)) = true := by simp; omega
    rw [hF]
    clear hF h1 h2 hB hx0 hx0' hw0 hw0' hrow hrow2 hlen hlen2 hnn
    go_enter Try.func22, Try.ntmps22
    go_wp2_with fail
    go_quiet ((go_at_call 10; first | with_reducible exact Hr1.out _ | with_reducible exact Hr2.out _))
    go_wp2
    go_ret
    exact ⟨rfl, _, rfl⟩
  subst hnn
  have hnn : ((n : Int) != (n : Int)) = false := by simp
  by_cases hww : n0 = n0'
  case neg =>
    have hF : (decide (lo.length = hi.length ∧ wid lo = wid hi) && leC lo hi) = false := by rw [decide_eq_false (by omega), Bool.false_and]
    have hne : ((n0 : Int) != (n0' : Int)) = true := by simp; omega
    rw [hF]
    clear hF h1 h2 hB hx0 hx0' hw0 hw0' hrow hrow2 hlen hlen2 hww
    go_enter Try.func22, Try.ntmps22
    go_wp2_with fail
    go_quiet ((go_at_call 10; first | with_reducible exact Hr1.out _ | with_reducible exact Hr2.out _))
    go_wp2
    go_ret
    exact ⟨rfl, _, rfl⟩
  subst hww
  have hww : ((n0 : Int) != (n0 : Int)) = false := by simp
  have hT : (decide (lo.length = hi.length ∧ wid lo = wid hi) && leC lo hi) = leC lo hi := by rw [decide_eq_true (by omega), Bool.true_and]
  rw [hT]
  have HF : RowKit.Hid (∀ i k, i < n → k < n0 → ¬ tb lo i k ≤ tb hi i k → leC lo hi = false) := Lib.hid fun i k h3 h4 h5 => by
    cases hr : leC lo hi
    · rfl
    · exact absurd (leC_iff.1 hr i (by omega) k (by omega)) h5
  have HT : RowKit.Hid ((∀ i, i < n → ∀ k, k < n0 → tb lo i k ≤ tb hi i k) → leC lo hi = true) := Lib.hid fun h => leC_iff.2 (by rw [hlen, hw0]; exact h)
  have Hrl : RowKit.Hid (∀ i, i < n → (clAt lo i).length = n0 ∧ (clAt hi i).length = n0) := Lib.hid fun i h => ⟨by rw [(rowC_iff.1 (hrow i (by omega))).1, hw0], by rw [(rowC_iff.1 (hrow2 i (by omega))).1, hw0']⟩
  generalize leC lo hi = RR at *
  clear hT h1 h2 hB hx0 hx0' hw0 hw0' hrow hrow2 hlen hlen2
  go_enter Try.func22, Try.ntmps22
  go_wp2_with fail
  go_quiet ((go_at_call 10; first | with_reducible exact Hr1.out _ | with_reducible exact Hr2.out _))
  rename_i nq
  go_wp2
  go_loopg [5] n (fun gk i wr => ∃ i' : Nat, i' ≤ n ∧ gk = n - i' ∧ i = .int .i64 i' ∧ (∀ a, a < i' → ∀ k, k < n0 → tb lo a k ≤ tb hi a k) ∧ ∃ q, wr = w.drewN q)
  case atStart => exact ⟨0, Nat.zero_le _, rfl, rfl, (fun a h => absurd h (by omega)), _, rfl⟩
  case round =>
    obtain ⟨i, hi', rfl, rfl, hall, hq⟩ := hrel
    have Hall := Lib.hid hall; have Hq := Lib.hid hq
    clear hall hq
    by_cases hlt : i < n
    · obtain ⟨l1, l2⟩ := Hrl.out i hlt
      obtain ⟨b1, o1, Ai, ni, capi, xi, hA, hb1, hxi, d0, ri⟩ := hl.atII hlt
      injection hA with hA; injection hA with hA1 hA2
      subst hA1 hA2
      obtain ⟨b2, o2, Bi, mi, capj, yi, hA, hb2, hyi, e0, rj⟩ := ht.atII hlt
      injection hA with hA; injection hA with hA1 hA2
      subst hA1 hA2
      have hci := clAt_eq hxi
      have hcj := clAt_eq hyi
      have hli := ri.len
      have hlj := rj.len
      rw [hci, hli] at l1
      rw [hcj, hlj] at l2
      subst l1; subst l2
      have hcapi := ri.caps
      have hcapj := rj.caps
      have hii : (i : Int) < (n : Int) := by omega
      have hi0 : (0 : Int) ≤ (i : Int) := by omega
      have d0' := (dr_cell Hq.out ⟨b, off + i, none⟩).trans d0
      have Hci := Lib.hid hci; have Hcj := Lib.hid hcj
      clear hci hcj hxi hyi hli hlj
      go_wp2
      go_loopg [6] mi (fun gk k wr2 => ∃ k' : Nat, k' ≤ mi ∧ gk = mi - k' ∧ k = .int .i64 k' ∧ (∀ a, a < k' → tb lo i a ≤ tb hi i a) ∧ ∃ q, wr2 = w.drewN q)
      case atStart => exact ⟨0, Nat.zero_le _, rfl, rfl, (fun a h => absurd h (by omega)), Hq.out⟩
      case round =>
        clear d0'
        obtain ⟨k, hk, rfl, rfl, hall2, hq2⟩ := hrel
        have Hall2 := Lib.hid hall2; have Hq2 := Lib.hid hq2
        clear hall2 hq2
        have d0' := (dr_cell Hq2.out ⟨b, off + i, none⟩).trans d0
        have e0' := (dr_cell Hq2.out ⟨b', off' + i, none⟩).trans e0
        by_cases hlt2 : k < mi
        · obtain ⟨b3, o3, x, rfl, hb3, hx, f0⟩ := ri.atI hlt2
          obtain ⟨b4, o4, y, rfl, hb4, hy, g0⟩ := rj.atI hlt2
          have Hx := Lib.hid (show tb lo i k = x by rw [tb, Hci.out]; exact gi_eq hx)
          have Hy := Lib.hid (show tb hi i k = y by rw [tb, Hcj.out]; exact gi_eq hy)
          have f0' := (dr_cell Hq2.out ⟨b3, o3 + k, none⟩).trans f0
          have g0' := (dr_cell Hq2.out ⟨b4, o4 + k, none⟩).trans g0
          have hki : (k : Int) < (mi : Int) := by omega
          have hk0 : (0 : Int) ≤ (k : Int) := by omega
          clear hx hy
          by_cases hyx : y < x
          · have hd : decide (y < x) = true := by simpa using hyx
            have HFF := Lib.hid (HF.out i k hlt hlt2 (by rw [Hx.out, Hy.out]; omega))
            clear hyx
            go_wp2_with fail
            go_quiet (fail)
            go_wp2
            go_ret
            exact ⟨by rw [HFF.out]; rfl, dr_more Hq2.out _⟩
          · have hd : decide (y < x) = false := by simpa using hyx
            go_wp2_with fail
            go_quiet (fail)
            go_wp2
            go_roundg (mi - (k + 1))
            case rel => exact ⟨k + 1, by omega, rfl, by go_num, (fun a ha => by
              by_cases e : a = k
              · subst e; rw [Hx.out, Hy.out]; omega
              · exact Hall2.out a (by omega)), dr_more Hq2.out _⟩
            case measure => omega
        · have ee : k = mi := by omega
          subst ee
          go_wp2
          go_roundg (n - (i + 1))
          case rel => exact ⟨i + 1, by omega, rfl, by go_num, (fun a ha => by
            by_cases e : a = i
            · subst e; exact Hall2.out
            · exact Hall.out a (by omega)), Hq2.out⟩
          case measure => omega
    · have ee : i = n := by omega
      subst ee
      have HTT := Lib.hid (HT.out Hall.out)
      go_wp2
      go_ret
      exact ⟨by rw [HTT.out]; rfl, Hq.out⟩
end Go.Proofs.Ytmcamadcoglodaa
