/- Walks over Right of package idle, and what it calls. Conditions stand in each theorem. -/
import Derived.Test.YtmcamadcoglodaaI4
import Derived.Outline
namespace Go.Proofs.Ytmcamadcoglodaa
open Go.RowKit
set_option linter.unusedVariables false

theorem bad_any (x : Int) (w : World) : Calls Try.prog 34 #[.int .i64 x] w fun e w' => e = .returned (.bool (!inB 0 1000000000 x)) ∧ w = w' := by
  by_cases hx : x < 0
  · have hd : (!inB 0 1000000000 x) = true := by simp [inB]; omega
    rw [hd]
    go_enter Try.func34, Try.ntmps34
    go_wp2
    go_ret
    exact ⟨rfl, rfl⟩
  · have hd : (!inB 0 1000000000 x) = decide (1000000000 < x) := by rw [Bool.eq_iff_iff]; simp [inB]; omega
    have hd0 : decide (x < 0) = false := by simpa using hx
    rw [hd]
    go_enter Try.func34, Try.ntmps34
    go_wp2
    go_ret
    exact ⟨rfl, rfl⟩
def IdxPost (w : World) (b : Bool) (e : Ending) (w' : World) : Prop := ∃ i : Int, e = .returned (.int .i64 i) ∧ -1 ≤ i ∧ i ≤ 140737488351232 ∧ decide (0 ≤ i) = !b ∧ w = w'
theorem idxI_any (A : Option Addr) (n cap : Nat) (l : List Int) (w : World) (hl : RdI w w.heap.size A n cap l) :
  Calls Try.prog 44 #[.slice A n cap, .func (.func 34) #[] #[]] w (IdxPost w (l.all (inB 0 1000000000))) := by
  have hcaps := hl.caps
  have hlen := hl.len
  have eg := enters_of Try.func34 (by kernel_rfl) rfl
  have Hlen := Lib.hid hlen; clear hlen
  go_enter Try.func44, Try.ntmps44
  go_wp2
  go_loopg [8] n (fun gk i wr => ∃ k : Nat, k ≤ n ∧ gk = n - k ∧ i = .int .i64 k ∧ (∀ j x, j < k → l[j]? = some x → inB 0 1000000000 x = true) ∧ w = wr)
  case atStart => exact ⟨0, Nat.zero_le _, rfl, rfl, (fun j x h => absurd h (by omega)), rfl⟩
  case round =>
    obtain ⟨k, hk, rfl, rfl, hall, rfl⟩ := hrel
    have Hall := Lib.hid hall; clear hall
    by_cases hlt : k < n
    · obtain ⟨b, off, x, rfl, hbB, hx, c0⟩ := hl.atI hlt
      have hki : (k : Int) < (n : Int) := by omega
      have hk0 : (0 : Int) ≤ (k : Int) := by omega
      have Hx := Lib.hid hx; clear hx
      cases hin : inB 0 1000000000 x
      · have Hin := Lib.hid hin
        have Hno := Lib.hid (show l.all (inB 0 1000000000) = false by
          rw [List.all_eq_false]; exact ⟨x, List.mem_of_getElem? Hx.out, by simp [hin]⟩)
        clear hin
        go_wp2_with (go_at_call 34; refine (bad_any x _).mono ?_; rw [Hin.out]; rintro e w1 ⟨rfl, rfl⟩)
        go_ret
        exact ⟨(k : Int), rfl, by omega, by omega, by rw [Hno.out]; simp, rfl⟩
      · have Hin := Lib.hid hin
        clear hin
        go_wp2_with (go_at_call 34; refine (bad_any x _).mono ?_; rw [Hin.out]; rintro e w1 ⟨rfl, rfl⟩)
        go_roundg (n - (k + 1))
        case rel => exact ⟨k + 1, by omega, rfl, by go_num, (fun j y hj hy => by
          by_cases e : j = k
          · subst e; rw [Hx.out] at hy; cases hy; exact Hin.out
          · exact Hall.out j y (by omega) hy), rfl⟩
        case measure => omega
    · have e : k = n := by omega
      subst e
      have Hyes := Lib.hid (show l.all (inB 0 1000000000) = true by
        rw [List.all_eq_true]
        intro x hx
        obtain ⟨j, hj, rfl⟩ := List.mem_iff_getElem.1 hx
        exact Hall.out j _ (by rw [Hlen.out] at hj; exact hj) (List.getElem?_eq_getElem hj))
      go_wp2
      go_ret
      exact ⟨-1, rfl, by omega, by omega, by rw [Hyes.out]; rfl, rfl⟩
theorem conI_any (A : Option Addr) (n cap : Nat) (l : List Int) (w : World) (hl : RdI w w.heap.size A n cap l) :
  Calls Try.prog 37 #[.slice A n cap, .func (.func 34) #[] #[]] w fun e w' => e = .returned (.bool (!l.all (inB 0 1000000000))) ∧ w = w' := by
  have Hidx := Lib.hid (idxI_any A n cap l w hl)
  generalize l.all (inB 0 1000000000) = b at *
  go_enter Try.func37, Try.ntmps37
  go_wp2_with (go_at_call 44; refine Hidx.out.mono ?_; rintro e w1 ⟨i, rfl, hi1, hi2, hi3, rfl⟩)
  go_ret
  exact ⟨rfl, rfl⟩
/-- a row of so many numbers that are right -/
def rowL (n : Nat) (l : List Int) : Bool := decide (l.length = n) && l.all (inB 0 1000000000)
theorem row_any (A : Option Addr) (n cap : Nat) (l : List Int) (A1 : Option Addr) (n1 cap1 : Nat) (cl : List (List Int)) (B1 B2 : Nat) (w : World) (hl : RdI w w.heap.size A n cap l) (hc : RdII w w.heap.size A1 n1 cap1 cl) (hn : 0 < n1)
    (h1 : w.cell? ⟨B1, 0, none⟩ = some (.slice A1 n1 cap1)) (h2 : w.cell? ⟨B2, 0, none⟩ = some (.func (.func 34) #[] #[])) :
  Calls Try.prog 36 #[.slice A n cap, .pointer (some ⟨B1, 0, none⟩), .pointer (some ⟨B2, 0, none⟩)] w fun e w' => e = .returned (.bool (!rowL (wid cl) l)) ∧ w = w' := by
  have Hcon := Lib.hid (conI_any A n cap l w hl)
  obtain ⟨b, off, A0, n0, cap0, x0, rfl, hbB, hx0, c0, r0⟩ := hc.atII hn
  have hw0 : wid cl = n0 := by rw [wid, clAt_eq hx0]; exact r0.len
  have hcap0 := r0.caps
  have hcaps := hl.caps
  have hcaps1 := hc.caps
  have hlen := hl.len
  have hn0 : (0 : Int) < (n1 : Int) := by omega
  rw [Nat.add_zero] at c0
  rw [hw0]
  by_cases hnn : n = n0
  · subst hnn
    have e : rowL n l = l.all (inB 0 1000000000) := by rw [rowL, hlen, decide_eq_true rfl, Bool.true_and]
    have hd : ((n : Int) != (n : Int)) = false := by simp
    rw [e]
    clear e hx0 hw0 hlen
    generalize l.all (inB 0 1000000000) = bb at *
    go_enter Try.func36, Try.ntmps36
    go_wp2_with (go_at_call 37; refine Hcon.out.mono ?_; rintro e w1 ⟨rfl, rfl⟩)
    go_ret
    exact ⟨rfl, rfl⟩
  · have e : rowL n0 l = false := by rw [rowL, hlen, decide_eq_false hnn, Bool.false_and]
    have hd : ((n : Int) != (n0 : Int)) = true := by simp; omega
    rw [e]
    clear e hx0 hw0 hlen hnn
    go_enter Try.func36, Try.ntmps36
    go_wp2
    go_ret
    exact ⟨rfl, rfl⟩
theorem idxR_any (A : Option Addr) (n cap : Nat) (cl : List (List Int)) (B1 B2 : Nat) (w : World) (hc : RdII w w.heap.size A n cap cl)
    (h1 : w.cell? ⟨B1, 0, none⟩ = some (.slice A n cap)) (h2 : w.cell? ⟨B2, 0, none⟩ = some (.func (.func 34) #[] #[])) :
  Calls Try.prog 43 #[.slice A n cap, .func (.func 36) #[] #[.pointer (some ⟨B1, 0, none⟩), .pointer (some ⟨B2, 0, none⟩)]] w (IdxPost w (cl.all (rowL (wid cl)))) := by
  have hcaps := hc.caps
  have hlen := hc.len
  have eg := enters_of Try.func36 (by kernel_rfl) rfl
  have Hrow := Lib.hid (fun A' n' cap' l hl hn => row_any A' n' cap' l A n cap cl B1 B2 w hl hc hn h1 h2)
  have Hlen := Lib.hid hlen; clear hlen h1 h2
  generalize rowL (wid cl) = P at *
  go_enter Try.func43, Try.ntmps43
  go_wp2
  go_loopg [8] n (fun gk i wr => ∃ k : Nat, k ≤ n ∧ gk = n - k ∧ i = .int .i64 k ∧ (∀ j x, j < k → cl[j]? = some x → P x = true) ∧ w = wr)
  case atStart => exact ⟨0, Nat.zero_le _, rfl, rfl, (fun j x h => absurd h (by omega)), rfl⟩
  case round =>
    obtain ⟨k, hk, rfl, rfl, hall, rfl⟩ := hrel
    have Hall := Lib.hid hall; clear hall
    by_cases hlt : k < n
    · obtain ⟨b, off, A', n', cap', x, rfl, hbB, hx, c0, rx⟩ := hc.atII hlt
      have hki : (k : Int) < (n : Int) := by omega
      have hk0 : (0 : Int) ≤ (k : Int) := by omega
      have hcap' := rx.caps
      have Hx := Lib.hid hx; clear hx
      have Hr := Lib.hid (Hrow.out A' n' cap' x rx (by omega))
      cases hin : P x
      · have Hno := Lib.hid (show cl.all P = false by
          rw [List.all_eq_false]; exact ⟨x, List.mem_of_getElem? Hx.out, by simp [hin]⟩)
        rw [hin] at Hr
        clear hin
        go_wp2_with (go_at_call 36; refine Hr.out.mono ?_; rintro e w1 ⟨rfl, rfl⟩)
        go_ret
        exact ⟨(k : Int), rfl, by omega, by omega, by rw [Hno.out]; simp, rfl⟩
      · have Hin := Lib.hid hin
        rw [hin] at Hr
        clear hin
        go_wp2_with (go_at_call 36; refine Hr.out.mono ?_; rintro e w1 ⟨rfl, rfl⟩)
        go_roundg (n - (k + 1))
        case rel => exact ⟨k + 1, by omega, rfl, by go_num, (fun j y hj hy => by
          by_cases e : j = k
          · subst e; rw [Hx.out] at hy; cases hy; exact Hin.out
          · exact Hall.out j y (by omega) hy), rfl⟩
        case measure => omega
    · have e : k = n := by omega
      subst e
      have Hyes := Lib.hid (show cl.all P = true by
        rw [List.all_eq_true]
        intro x hx
        obtain ⟨j, hj, rfl⟩ := List.mem_iff_getElem.1 hx
        exact Hall.out j _ (by rw [Hlen.out] at hj; exact hj) (List.getElem?_eq_getElem hj))
      go_wp2
      go_ret
      exact ⟨-1, rfl, by omega, by omega, by rw [Hyes.out]; rfl, rfl⟩
theorem conR_any (A : Option Addr) (n cap : Nat) (cl : List (List Int)) (B1 B2 : Nat) (w : World) (hc : RdII w w.heap.size A n cap cl)
    (h1 : w.cell? ⟨B1, 0, none⟩ = some (.slice A n cap)) (h2 : w.cell? ⟨B2, 0, none⟩ = some (.func (.func 34) #[] #[])) :
  Calls Try.prog 35 #[.slice A n cap, .func (.func 36) #[] #[.pointer (some ⟨B1, 0, none⟩), .pointer (some ⟨B2, 0, none⟩)]] w fun e w' => e = .returned (.bool (!cl.all (rowL (wid cl)))) ∧ w = w' := by
  have Hidx := Lib.hid (idxR_any A n cap cl B1 B2 w hc h1 h2)
  generalize cl.all (rowL (wid cl)) = b at *
  go_enter Try.func35, Try.ntmps35
  go_wp2_with (go_at_call 43; refine Hidx.out.mono ?_; rintro e w1 ⟨i, rfl, hi1, hi2, hi3, rfl⟩)
  go_ret
  exact ⟨rfl, rfl⟩
end Go.Proofs.Ytmcamadcoglodaa
