
/- Walks over IndexFunc and ContainsFunc at fractions, with the closures of package cents. Conditions stand in each theorem. -/
import Derived.Test.YtinfcngkbdiddaaCc
namespace Go.Proofs.Ytinfcngkbdiddaa
open Go.RowKit
set_option linter.unusedVariables false
set_option linter.unusedSimpArgs false

def IdxB (w : World) (b : Bool) (e : Ending) (w' : World) : Prop := ∃ i : Int, e = .returned (.int .i64 i) ∧ -1 ≤ i ∧ i ≤ 140737488351232 ∧ decide (0 ≤ i) = b ∧ Below w.heap.size w w'
def outV (x : Fv) : Bool := outM x.rat
def negV (x : Fv) : Bool := decide (x.s < 0)
set_option maxRecDepth 100000 in
set_option maxHeartbeats 1000000 in
theorem idxO_any (A : Option Addr) (n cap : Nat) (l : List Fv) (w : World) (hl : RdF w w.heap.size A n cap l) (hok : l.all Fv.ok = true) :
    Calls Try.prog 64 #[.slice A n cap, .func (.func 39) #[] #[]] w (IdxB w (l.any outV)) := by
  have HOk := Lib.hid (show ∀ x, x ∈ l → x.ok = true from fun x hx => List.all_eq_true.1 hok x hx)
  clear hok
  have hcaps := hl.caps
  have hlen := hl.len
  have eg := enters_of Try.func39 (by kernel_rfl) rfl
  have Hlen := Lib.hid hlen; clear hlen
  have HL := Lib.hid (fun W (h : Below w.heap.size w W) => hl.up fE_lasts h)
  go_enter Try.func64, Try.ntmps64
  go_wp2
  go_loopg [8] n (fun gk i wr => ∃ k : Nat, k ≤ n ∧ gk = n - k ∧ i = .int .i64 k ∧ (∀ j x, j < k → l[j]? = some x → outV x = false) ∧ Below w.heap.size w wr)
  case atStart => exact ⟨0, Nat.zero_le _, rfl, rfl, (fun j x h => absurd h (by omega)), Below.refl _ _⟩
  case round =>
    obtain ⟨k, hk, rfl, rfl, hall, hb⟩ := hrel
    have Hall := Lib.hid hall; clear hall
    have HB := Lib.hid hb
    by_cases hlt : k < n
    · obtain ⟨b, off, A1, n1, c1, A2, n2, c2, x, rfl, hbB, hx, ⟨d0, d1, d2, d3⟩, r1, r2⟩ := (HL.out wr hb).atF hlt
      have hki : (k : Int) < (n : Int) := by omega
      have hk0 : (0 : Int) ≤ (k : Int) := by omega
      have Hx := Lib.hid hx; clear hx
      have HW := Lib.hid (show Calls Try.prog 39 #[.agg #[.int .i64 x.s, .slice A1 n1 c1, .int .i64 x.t, .slice A2 n2 c2]] wr (fun e w' => e = .returned (.bool (outV x)) ∧ Below wr.heap.size wr w') from cout_any x.rat x.s x.t A1 A2 n1 c1 n2 c2 x.l x.m wr r1 r2 (fv_std (HOk.out x (List.mem_of_getElem? Hx.out))).1 (fv_std (HOk.out x (List.mem_of_getElem? Hx.out))).2)
      have hcap1 := r1.caps
      have hcap2 := r2.caps
      clear r1 r2 hb hl
      cases hin : outV x
      · rw [hin] at HW
        have Hin := Lib.hid hin
        clear hin
        go_wp2_with (go_at_call 39; refine HW.out.mono ?_; rintro e w1 ⟨rfl, hb1⟩)
        go_roundg (n - (k + 1))
        case rel => exact ⟨k + 1, by omega, rfl, by go_num, (fun j y hj hy => by
          by_cases e : j = k
          · subst e; rw [Hx.out] at hy; cases hy; exact Hin.out
          · exact Hall.out j y (by omega) hy), HB.out.trans (hb1.mono HB.out.size)⟩
        case measure => omega
      · rw [hin] at HW
        have Hno := Lib.hid (show l.any outV = true by
          rw [List.any_eq_true]; exact ⟨x, List.mem_of_getElem? Hx.out, hin⟩)
        clear hin
        go_wp2_with (go_at_call 39; refine HW.out.mono ?_; rintro e w1 ⟨rfl, hb1⟩)
        go_ret
        exact ⟨(k : Int), rfl, by omega, by omega, by rw [Hno.out]; simp, HB.out.trans (hb1.mono HB.out.size)⟩
    · have e : k = n := by omega
      subst e
      have Hyes := Lib.hid (show l.any outV = false by
        rw [List.any_eq_false]
        intro x hx
        obtain ⟨j, hj, rfl⟩ := List.mem_iff_getElem.1 hx
        have := Hall.out j _ (by rw [Hlen.out] at hj; exact hj) (List.getElem?_eq_getElem hj)
        rw [this]; simp)
      clear hb hl
      go_wp2
      go_ret
      exact ⟨-1, rfl, by omega, by omega, by rw [Hyes.out]; rfl, HB.out⟩
set_option maxRecDepth 100000 in
set_option maxHeartbeats 1000000 in
theorem conO_any (A : Option Addr) (n cap : Nat) (l : List Fv) (w : World) (hl : RdF w w.heap.size A n cap l) (hok : l.all Fv.ok = true) :
    Calls Try.prog 38 #[.slice A n cap, .func (.func 39) #[] #[]] w fun e w' => e = .returned (.bool (l.any outV)) ∧ Below w.heap.size w w' := by
  have Hidx := Lib.hid (idxO_any A n cap l w hl hok)
  clear hl
  generalize l.any outV = b at *
  go_enter Try.func38, Try.ntmps38
  go_wp2_with (go_at_call 64; refine Hidx.out.mono ?_; rintro e w1 ⟨i, rfl, hi1, hi2, hi3, hb⟩)
  go_ret
  exact ⟨by first | rfl | (rw [← hi3]), hb⟩
set_option maxRecDepth 100000 in
set_option maxHeartbeats 1000000 in
theorem idxN_any (A : Option Addr) (n cap : Nat) (l : List Fv) (w : World) (hl : RdF w w.heap.size A n cap l) :
    Calls Try.prog 64 #[.slice A n cap, .func (.func 50) #[] #[]] w (IdxB w (l.any negV)) := by
  have hcaps := hl.caps
  have hlen := hl.len
  have eg := enters_of Try.func50 (by kernel_rfl) rfl
  have Hlen := Lib.hid hlen; clear hlen
  have HL := Lib.hid (fun W (h : Below w.heap.size w W) => hl.up fE_lasts h)
  go_enter Try.func64, Try.ntmps64
  go_wp2
  go_loopg [8] n (fun gk i wr => ∃ k : Nat, k ≤ n ∧ gk = n - k ∧ i = .int .i64 k ∧ (∀ j x, j < k → l[j]? = some x → negV x = false) ∧ Below w.heap.size w wr)
  case atStart => exact ⟨0, Nat.zero_le _, rfl, rfl, (fun j x h => absurd h (by omega)), Below.refl _ _⟩
  case round =>
    obtain ⟨k, hk, rfl, rfl, hall, hb⟩ := hrel
    have Hall := Lib.hid hall; clear hall
    have HB := Lib.hid hb
    by_cases hlt : k < n
    · obtain ⟨b, off, A1, n1, c1, A2, n2, c2, x, rfl, hbB, hx, ⟨d0, d1, d2, d3⟩, r1, r2⟩ := (HL.out wr hb).atF hlt
      have hki : (k : Int) < (n : Int) := by omega
      have hk0 : (0 : Int) ≤ (k : Int) := by omega
      have Hx := Lib.hid hx; clear hx
      have HW := Lib.hid (show Calls Try.prog 50 #[.agg #[.int .i64 x.s, .slice A1 n1 c1, .int .i64 x.t, .slice A2 n2 c2]] wr (fun e w' => e = .returned (.bool (negV x)) ∧ Below wr.heap.size wr w') from cneg_any x.s x.t A1 A2 n1 c1 n2 c2 x.l x.m wr r1 r2)
      have hcap1 := r1.caps
      have hcap2 := r2.caps
      clear r1 r2 hb hl
      cases hin : negV x
      · rw [hin] at HW
        have Hin := Lib.hid hin
        clear hin
        go_wp2_with (go_at_call 50; refine HW.out.mono ?_; rintro e w1 ⟨rfl, hb1⟩)
        go_roundg (n - (k + 1))
        case rel => exact ⟨k + 1, by omega, rfl, by go_num, (fun j y hj hy => by
          by_cases e : j = k
          · subst e; rw [Hx.out] at hy; cases hy; exact Hin.out
          · exact Hall.out j y (by omega) hy), HB.out.trans (hb1.mono HB.out.size)⟩
        case measure => omega
      · rw [hin] at HW
        have Hno := Lib.hid (show l.any negV = true by
          rw [List.any_eq_true]; exact ⟨x, List.mem_of_getElem? Hx.out, hin⟩)
        clear hin
        go_wp2_with (go_at_call 50; refine HW.out.mono ?_; rintro e w1 ⟨rfl, hb1⟩)
        go_ret
        exact ⟨(k : Int), rfl, by omega, by omega, by rw [Hno.out]; simp, HB.out.trans (hb1.mono HB.out.size)⟩
    · have e : k = n := by omega
      subst e
      have Hyes := Lib.hid (show l.any negV = false by
        rw [List.any_eq_false]
        intro x hx
        obtain ⟨j, hj, rfl⟩ := List.mem_iff_getElem.1 hx
        have := Hall.out j _ (by rw [Hlen.out] at hj; exact hj) (List.getElem?_eq_getElem hj)
        rw [this]; simp)
      clear hb hl
      go_wp2
      go_ret
      exact ⟨-1, rfl, by omega, by omega, by rw [Hyes.out]; rfl, HB.out⟩
set_option maxRecDepth 100000 in
set_option maxHeartbeats 1000000 in
theorem conN_any (A : Option Addr) (n cap : Nat) (l : List Fv) (w : World) (hl : RdF w w.heap.size A n cap l) :
    Calls Try.prog 38 #[.slice A n cap, .func (.func 50) #[] #[]] w fun e w' => e = .returned (.bool (l.any negV)) ∧ Below w.heap.size w w' := by
  have Hidx := Lib.hid (idxN_any A n cap l w hl)
  clear hl
  generalize l.any negV = b at *
  go_enter Try.func38, Try.ntmps38
  go_wp2_with (go_at_call 64; refine Hidx.out.mono ?_; rintro e w1 ⟨i, rfl, hi1, hi2, hi3, hb⟩)
  go_ret
  exact ⟨by first | rfl | (rw [← hi3]), hb⟩
end Go.Proofs.Ytinfcngkbdiddaa
