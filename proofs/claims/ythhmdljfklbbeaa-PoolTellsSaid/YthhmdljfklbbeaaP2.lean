/- Walks over package pool: Right, sum. Conditions stand in each theorem. -/
import Derived.Test.YthhmdljfklbbeaaP1
import Derived.Test.YthhmdljfklbbeaaKeep
namespace Go.Proofs.Ythhmdljfklbbeaa
open Go.RowKit
set_option linter.unusedVariables false

/-- a pool -/
structure Pl where
  mo : Int
  pr : Int
  ms : Int
  co : Int
  wi : Int
  to : Int
abbrev plC (p : Pl) : Array Value := #[.int .i64 p.mo, .int .i64 p.pr, .int .i64 p.ms, .int .i64 p.co, .int .i64 p.wi, .int .i64 p.to]
abbrev plV (p : Pl) : Value := .agg (plC p)
def r1 (p : Pl) : Bool := [p.mo, p.pr, p.to].all (inB 0 1000000000000000)
def r2 (p : Pl) : Bool := [p.ms].all (inB 1 1000000000000000)
def r3 (p : Pl) : Bool := [p.co].all (inB 1 1000)
def r4 (p : Pl) : Bool := [p.wi].all (inB 1 1000)
/-- a pool is right -/
def rightF (p : Pl) : Bool := r1 p && (r2 p && (r3 p && r4 p))
theorem rightF_iff {p : Pl} (h : rightF p = true) : (0 ≤ p.mo ∧ p.mo ≤ 1000000000000000) ∧ (0 ≤ p.pr ∧ p.pr ≤ 1000000000000000) ∧ (0 ≤ p.to ∧ p.to ≤ 1000000000000000) ∧ (1 ≤ p.ms ∧ p.ms ≤ 1000000000000000) ∧ (1 ≤ p.co ∧ p.co ≤ 1000) ∧ (1 ≤ p.wi ∧ p.wi ≤ 1000) := by
  simp [rightF, r1, r2, r3, r4, inB] at h
  omega
theorem Rd.litI {w : World} (e : TypeId) (l : List Int) (cs : Array Value) (n : Nat) (hcs : cs = (l.flatMap iEnc).toArray) (hn : l.length = n) (hm : n ≤ 140737488351232) : RdI (w.alloc (.cells cs e)) (w.alloc (.cells cs e)).heap.size (some ⟨w.heap.size, 0, none⟩) n n l := by
  obtain ⟨A, c, h1, h2⟩ := (Own.lit (e := e) iSized (Nat.le_refl w.heap.size) l cs hcs hn hm).rd iSized (by rw [hn]; exact hm)
  injection h1 with h1 h3 h4
  subst h1 h4
  rw [hn] at h2
  exact h2

/-- the same, where the block's number is spelled otherwise -/
theorem Rd.litH {w : World} (e : TypeId) (l : List Int) (cs : Array Value) (n H : Nat) (hH : w.heap.size = H) (hcs : cs = (l.flatMap iEnc).toArray) (hn : l.length = n) (hm : n ≤ 140737488351232) : RdI (w.alloc (.cells cs e)) (w.alloc (.cells cs e)).heap.size (some ⟨H, 0, none⟩) n n l := by
  subst hH; exact Rd.litI e l cs n hcs hn hm

set_option maxRecDepth 100000 in
theorem right_any (p : Pl) (w : World) : Calls Try.prog 18 #[plV p] w fun e w' => e = .returned (.bool (rightF p)) ∧ Below w.heap.size w w' := by
  obtain ⟨mo, pr, ms, co, wi, to⟩ := p
  have H1 := Lib.hid (fun (A : Option Addr) w hl => in_any 0 1000000000000000 A 3 3 [mo, pr, to] w hl)
  have H2 := Lib.hid (fun (A : Option Addr) w hl => in_any 1 1000000000000000 A 1 1 [ms] w hl)
  have H3 := Lib.hid (fun (A : Option Addr) w hl => in_any 1 1000 A 1 1 [co] w hl)
  have H4 := Lib.hid (fun (A : Option Addr) w hl => in_any 1 1000 A 1 1 [wi] w hl)
  have e : rightF ⟨mo, pr, ms, co, wi, to⟩ = ([mo, pr, to].all (inB 0 1000000000000000) && ([ms].all (inB 1 1000000000000000) && ([co].all (inB 1 1000) && [wi].all (inB 1 1000)))) := rfl
  rw [e]
  generalize [mo, pr, to].all (inB 0 1000000000000000) = b1 at *
  generalize [ms].all (inB 1 1000000000000000) = b2 at *
  generalize [co].all (inB 1 1000) = b3 at *
  generalize [wi].all (inB 1 1000) = b4 at *
  clear e
  simp only [plV, plC]
  go_enter Try.func18, Try.ntmps18
  go_wp2_with fail
  refine (H1.out _ _ (Rd.litH (w := w.alloc (.cells #[.int .i64 mo, .int .i64 pr, .int .i64 ms, .int .i64 co, .int .i64 wi, .int .i64 to] 23)) 3 [mo, pr, to] _ 3 (w.heap.size + 1) (by simp) rfl rfl (by omega))).mono ?_
  rintro e w1 ⟨rfl, hb1⟩
  have hk1 : Below (w.heap.size + 1) (w.alloc (.cells #[.int .i64 mo, .int .i64 pr, .int .i64 ms, .int .i64 co, .int .i64 wi, .int .i64 to] 23)) w1 := ((Below.refl (w.heap.size + 1) _).alloc (by simp) _).trans (hb1.mono (by simp))
  have hb01 : Below w.heap.size w w1 := ((Below.refl w.heap.size w).alloc (Nat.le_refl _) _).trans (hk1.mono (by omega))
  have c12 : w1.cell? ⟨w.heap.size, 2, none⟩ = some (.int .i64 ms) := (hk1.cell (p := ⟨w.heap.size, 2, none⟩) (by simp)).trans (by simp)
  have c13 : w1.cell? ⟨w.heap.size, 3, none⟩ = some (.int .i64 co) := (hk1.cell (p := ⟨w.heap.size, 3, none⟩) (by simp)).trans (by simp)
  have c14 : w1.cell? ⟨w.heap.size, 4, none⟩ = some (.int .i64 wi) := (hk1.cell (p := ⟨w.heap.size, 4, none⟩) (by simp)).trans (by simp)
  clear hb1
  cases b1
  · go_wp2
    go_ret
    exact ⟨rfl, hb01⟩
  go_wp2_with fail
  refine (H2.out _ _ (Rd.litI (w := w1) 3 [ms] _ 1 rfl rfl (by omega))).mono ?_
  rintro e w2 ⟨rfl, hb2⟩
  have hk2 : Below (w.heap.size + 1) (w.alloc (.cells #[.int .i64 mo, .int .i64 pr, .int .i64 ms, .int .i64 co, .int .i64 wi, .int .i64 to] 23)) w2 := (hk1.alloc (by have := hk1.size; simp at this; omega) _).trans (hb2.mono (by have := hk1.size; simp at this; simp; omega))
  have hb02 : Below w.heap.size w w2 := ((Below.refl w.heap.size w).alloc (Nat.le_refl _) _).trans (hk2.mono (by omega))
  have c22 : w2.cell? ⟨w.heap.size, 2, none⟩ = some (.int .i64 ms) := (hk2.cell (p := ⟨w.heap.size, 2, none⟩) (by simp)).trans (by simp)
  have c23 : w2.cell? ⟨w.heap.size, 3, none⟩ = some (.int .i64 co) := (hk2.cell (p := ⟨w.heap.size, 3, none⟩) (by simp)).trans (by simp)
  have c24 : w2.cell? ⟨w.heap.size, 4, none⟩ = some (.int .i64 wi) := (hk2.cell (p := ⟨w.heap.size, 4, none⟩) (by simp)).trans (by simp)
  clear hb2 hk1 c12 c13 c14 hb01
  cases b2
  · go_wp2
    go_ret
    exact ⟨rfl, hb02⟩
  go_wp2_with fail
  refine (H3.out _ _ (Rd.litI (w := w2) 3 [co] _ 1 rfl rfl (by omega))).mono ?_
  rintro e w3 ⟨rfl, hb3⟩
  have hk3 : Below (w.heap.size + 1) (w.alloc (.cells #[.int .i64 mo, .int .i64 pr, .int .i64 ms, .int .i64 co, .int .i64 wi, .int .i64 to] 23)) w3 := (hk2.alloc (by have := hk2.size; simp at this; omega) _).trans (hb3.mono (by have := hk2.size; simp at this; simp; omega))
  have hb03 : Below w.heap.size w w3 := ((Below.refl w.heap.size w).alloc (Nat.le_refl _) _).trans (hk3.mono (by omega))
  have c32 : w3.cell? ⟨w.heap.size, 2, none⟩ = some (.int .i64 ms) := (hk3.cell (p := ⟨w.heap.size, 2, none⟩) (by simp)).trans (by simp)
  have c33 : w3.cell? ⟨w.heap.size, 3, none⟩ = some (.int .i64 co) := (hk3.cell (p := ⟨w.heap.size, 3, none⟩) (by simp)).trans (by simp)
  have c34 : w3.cell? ⟨w.heap.size, 4, none⟩ = some (.int .i64 wi) := (hk3.cell (p := ⟨w.heap.size, 4, none⟩) (by simp)).trans (by simp)
  clear hb3 hk2 c22 c23 c24 hb02
  cases b3
  · go_wp2
    go_ret
    exact ⟨rfl, hb03⟩
  go_wp2_with fail
  refine (H4.out _ _ (Rd.litI (w := w3) 3 [wi] _ 1 rfl rfl (by omega))).mono ?_
  rintro e w4 ⟨rfl, hb4⟩
  have hk4 : Below (w.heap.size + 1) (w.alloc (.cells #[.int .i64 mo, .int .i64 pr, .int .i64 ms, .int .i64 co, .int .i64 wi, .int .i64 to] 23)) w4 := (hk3.alloc (by have := hk3.size; simp at this; omega) _).trans (hb4.mono (by have := hk3.size; simp at this; simp; omega))
  have hb04 : Below w.heap.size w w4 := ((Below.refl w.heap.size w).alloc (Nat.le_refl _) _).trans (hk4.mono (by omega))
  have c42 : w4.cell? ⟨w.heap.size, 2, none⟩ = some (.int .i64 ms) := (hk4.cell (p := ⟨w.heap.size, 2, none⟩) (by simp)).trans (by simp)
  have c43 : w4.cell? ⟨w.heap.size, 3, none⟩ = some (.int .i64 co) := (hk4.cell (p := ⟨w.heap.size, 3, none⟩) (by simp)).trans (by simp)
  have c44 : w4.cell? ⟨w.heap.size, 4, none⟩ = some (.int .i64 wi) := (hk4.cell (p := ⟨w.heap.size, 4, none⟩) (by simp)).trans (by simp)
  clear hb4 hk3 c32 c33 c34 hb03
  go_wp2
  go_ret
  exact ⟨by simp, hb04⟩

/-- a number of a list -/
def gi (l : List Int) (k : Nat) : Int := l.getD k 0
theorem gi_eq {l : List Int} {k : Nat} {x : Int} (h : l[k]? = some x) : gi l k = x := by simp [gi, List.getD, h]
/-- the sum of some numbers -/
def lsum (l : List Int) : Int := sumN (gi l) l.length
theorem psum_any (A : Option Addr) (n cap : Nat) (l : List Int) (w : World) (hl : RdI w w.heap.size A n cap l) (hS : ∀ k, k ≤ n → 0 ≤ sumN (gi l) k ∧ sumN (gi l) k ≤ 1000000000000000000) :
  Calls Try.prog 31 #[.slice A n cap] w fun e w' => e = .returned (.int .i64 (lsum l)) ∧ w = w' := by
  have hcaps := hl.caps
  have Hlen := Lib.hid hl.len
  have HS := Lib.hid hS; clear hS
  go_enter Try.func31, Try.ntmps31
  go_wp2
  go_loopg [3, 8] n (fun gk s i wr => ∃ k : Nat, k ≤ n ∧ gk = n - k ∧ i = .int .i64 k ∧ s = .int .i64 (sumN (gi l) k) ∧ w = wr)
  case atStart => exact ⟨0, Nat.zero_le _, rfl, rfl, rfl, rfl⟩
  case round =>
    obtain ⟨k, hk, rfl, rfl, rfl, rfl⟩ := hrel
    by_cases hlt : k < n
    · obtain ⟨b, off, x, rfl, hbB, hx, c0⟩ := hl.atI hlt
      have hki : (k : Int) < (n : Int) := by omega
      have hk0 : (0 : Int) ≤ (k : Int) := by omega
      have h1 := HS.out k hk
      have h2 := HS.out (k + 1) (by omega)
      have e : sumN (gi l) (k + 1) = sumN (gi l) k + x := by
        rw [sumN, gi_eq hx]
      rw [e] at h2
      have He := Lib.hid e
      obtain ⟨h11, h12⟩ := h1
      obtain ⟨h21, h22⟩ := h2
      clear e hx
      go_wp2
      go_roundg (n - (k + 1))
      case rel => exact ⟨k + 1, by omega, rfl, by go_num, by rw [He.out], rfl⟩
      case measure => omega
    · have e : k = n := by omega
      subst e
      go_wp2
      go_ret
      exact ⟨by unfold lsum; rw [Hlen.out]; rfl, rfl⟩
end Go.Proofs.Ythhmdljfklbbeaa
