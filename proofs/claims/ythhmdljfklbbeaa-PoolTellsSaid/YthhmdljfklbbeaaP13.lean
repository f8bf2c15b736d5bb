/- Walks over small functions of the statements of layer 36: Ints, Same, Few, some. Conditions stand in each theorem. -/
import Derived.Test.YthhmdljfklbbeaaP12
namespace Go.Proofs.Ythhmdljfklbbeaa
open Go.RowKit
set_option linter.unusedVariables false

theorem dr_more {w wr : World} (h : ∃ q, wr = w.drewN q) (r : Nat) : ∃ q, wr.drewN r = w.drewN q := by
  obtain ⟨q, rfl⟩ := h
  exact ⟨q + r, by rw [World.drewN_drewN]⟩
theorem dr_cell {w wr : World} (h : ∃ q, wr = w.drewN q) (a : Addr) : wr.cell? a = w.cell? a := by
  obtain ⟨q, rfl⟩ := h; rfl
theorem dr_rd {α : Type} {sz : Nat} {R : Enc α} {w wr : World} {B : Nat} {A : Option Addr} {n cap : Nat} {l : List α} (hR : Lasts R) (h : Rd sz R w B A n cap l) (hd : ∃ q, wr = w.drewN q) : Rd sz R wr B A n cap l := by
  obtain ⟨q, rfl⟩ := hd
  exact h.keep hR (Nat.le_refl _) fun _ _ => rfl
theorem dr_zero (w : World) : ∃ q, w = w.drewN q := ⟨0, rfl⟩
def SameP (w : World) (b : Bool) (e : Ending) (w' : World) : Prop := e = .returned (.bool b) ∧ ∃ q, w' = w.drewN q
theorem ints_any (A B : Option Addr) (n m cap capb : Nat) (a b : List Int) (w : World) (ha : RdI w w.heap.size A n cap a) (hb : RdI w w.heap.size B m capb b) :
  Calls Try.prog 17 #[.slice A n cap, .slice B m capb] w (SameP w (decide (a = b))) := by
  have h1 := ha.caps
  have h2 := hb.caps
  have la := ha.len
  have lb := hb.len
  by_cases hnm : n = m
  · subst hnm
    have hnn : ((n : Int) != (n : Int)) = false := by simp
    have La := Lib.hid la; have Lb := Lib.hid lb; clear la lb
    go_enter Try.func17, Try.ntmps17
    go_wp2
    go_loopg [5] n (fun gk i wr => ∃ k : Nat, k ≤ n ∧ gk = n - k ∧ i = .int .i64 k ∧ (∀ j, j < k → a[j]? = b[j]?) ∧ ∃ q, wr = w.drewN q)
    case atStart => exact ⟨0, Nat.zero_le _, rfl, rfl, (fun j h => absurd h (by omega)), dr_zero w⟩
    case round =>
      obtain ⟨k, hk, rfl, rfl, hall, hq⟩ := hrel
      have Hall := Lib.hid hall; have Hq := Lib.hid hq; clear hall hq
      by_cases hlt : k < n
      · obtain ⟨ba, oa, x, rfl, hba, hx, c0⟩ := ha.atI hlt
        obtain ⟨bb, ob, y, rfl, hbb, hy, d0⟩ := hb.atI hlt
        have hki : (k : Int) < (n : Int) := by omega
        have hk0 : (0 : Int) ≤ (k : Int) := by omega
        have c0' := (dr_cell Hq.out ⟨ba, oa + k, none⟩).trans c0
        have d0' := (dr_cell Hq.out ⟨bb, ob + k, none⟩).trans d0
        have Hx := Lib.hid hx; have Hy := Lib.hid hy
        clear hx hy
        by_cases hxy : x = y
        · subst hxy
          have hne : (x != x) = false := by simp
          go_wp2_with fail
          go_quiet (fail)
          go_wp2
          go_roundg (n - (k + 1))
          case rel => exact ⟨k + 1, by omega, rfl, by go_num, (fun j hj => by
            by_cases e : j = k
            · subst e; rw [Hx.out, Hy.out]
            · exact Hall.out j (by omega)), dr_more Hq.out _⟩
          case measure => omega
        · have hne : (x != y) = true := by simpa using hxy
          have hF : decide (a = b) = false := by
            rw [decide_eq_false_iff_not]; intro h
            have := Hx.out; rw [h, Hy.out] at this
            exact hxy (Option.some.inj this).symm
          have HF := Lib.hid hF; clear hF
          go_wp2_with fail
          go_quiet (fail)
          go_wp2
          go_ret
          exact ⟨by rw [HF.out]; rfl, dr_more Hq.out _⟩
      · have e : k = n := by omega
        subst e
        have hT : decide (a = b) = true := by
          rw [decide_eq_true_iff]
          apply List.ext_getElem?
          intro j
          by_cases hj : j < k
          · exact Hall.out j hj
          · rw [List.getElem?_eq_none (by rw [La.out]; omega), List.getElem?_eq_none (by rw [Lb.out]; omega)]
        have HT := Lib.hid hT; clear hT
        go_wp2
        go_ret
        exact ⟨by rw [HT.out]; rfl, Hq.out⟩
  · have hnn : ((n : Int) != (m : Int)) = true := by simp; omega
    have hF : decide (a = b) = false := by
      rw [decide_eq_false_iff_not]; intro h
      rw [h, lb] at la; omega
    rw [hF]
    clear hF la lb
    go_enter Try.func17, Try.ntmps17
    go_wp2
    go_ret
    exact ⟨rfl, dr_zero w⟩

theorem sameII_any (A B : Option Addr) (n m cap capb : Nat) (a b : List (List Int)) (w : World) (ha : RdII w w.heap.size A n cap a) (hb : RdII w w.heap.size B m capb b) :
  Calls Try.prog 16 #[.slice A n cap, .slice B m capb] w (SameP w (decide (a = b))) := by
  have h1 := ha.caps
  have h2 := hb.caps
  have la := ha.len
  have lb := hb.len
  by_cases hnm : n = m
  · subst hnm
    have hnn : ((n : Int) != (n : Int)) = false := by simp
    have La := Lib.hid la; have Lb := Lib.hid lb; clear la lb
    go_enter Try.func16, Try.ntmps16
    go_wp2
    go_loopg [5] n (fun gk i wr => ∃ k : Nat, k ≤ n ∧ gk = n - k ∧ i = .int .i64 k ∧ (∀ j, j < k → a[j]? = b[j]?) ∧ ∃ q, wr = w.drewN q)
    case atStart => exact ⟨0, Nat.zero_le _, rfl, rfl, (fun j h => absurd h (by omega)), dr_zero w⟩
    case round =>
      obtain ⟨k, hk, rfl, rfl, hall, hq⟩ := hrel
      have Hall := Lib.hid hall; have Hq := Lib.hid hq; clear hall hq
      by_cases hlt : k < n
      · obtain ⟨ba, oa, A', n', cap', x, rfl, hba, hx, c0, ra⟩ := ha.atII hlt
        obtain ⟨bb, ob, B', m', capb', y, rfl, hbb, hy, d0, rb⟩ := hb.atII hlt
        have hki : (k : Int) < (n : Int) := by omega
        have hk0 : (0 : Int) ≤ (k : Int) := by omega
        have c0' := (dr_cell Hq.out ⟨ba, oa + k, none⟩).trans c0
        have d0' := (dr_cell Hq.out ⟨bb, ob + k, none⟩).trans d0
        have Hx := Lib.hid hx; have Hy := Lib.hid hy
        have ra' := dr_rd (flat_lasts _) ra Hq.out
        have rb' := dr_rd (flat_lasts _) rb Hq.out
        have hszq : wr.heap.size = w.heap.size := by obtain ⟨q, hq⟩ := Hq.out; rw [hq]; rfl
        rw [← hszq] at ra' rb'
        have hin : ∀ r, Calls Try.prog 17 #[.slice A' n' cap', .slice B' m' capb'] (wr.drewN r) fun e w'' => e = .returned (.bool (decide (x = y))) ∧ ∃ s, w'' = wr.drewN s := fun r =>
          (ints_any A' B' n' m' cap' capb' x y (wr.drewN r) (Rd.keep (flat_lasts _) ra' (Nat.le_refl _) (fun _ _ => rfl)) (Rd.keep (flat_lasts _) rb' (Nat.le_refl _) (fun _ _ => rfl))).mono fun e w'' ⟨he, s, hs⟩ => ⟨he, r + s, by rw [hs, World.drewN_drewN]⟩
        clear ra' rb' hszq
        by_cases hxy : x = y
        · rw [decide_eq_true hxy] at hin
          have Hin := Lib.hid hin
          clear hx hy hin ra rb
          go_wp2_with fail
          go_quiet ((go_at_call 17; exact Hin.out _))
          go_wp2
          go_roundg (n - (k + 1))
          case rel => exact ⟨k + 1, by omega, rfl, by go_num, (fun j hj => by
            by_cases e : j = k
            · subst e; rw [Hx.out, Hy.out, hxy]
            · exact Hall.out j (by omega)), dr_more Hq.out _⟩
          case measure => omega
        · rw [decide_eq_false hxy] at hin
          have Hin := Lib.hid hin
          have hF : decide (a = b) = false := by
            rw [decide_eq_false_iff_not]; intro h
            rw [h, hy] at hx
            exact hxy (Option.some.inj hx).symm
          have HF := Lib.hid hF
          clear hF hx hy hin ra rb
          go_wp2_with fail
          go_quiet ((go_at_call 17; exact Hin.out _))
          go_wp2
          go_ret
          exact ⟨by rw [HF.out]; rfl, dr_more Hq.out _⟩
      · have e : k = n := by omega
        subst e
        have hT : decide (a = b) = true := by
          rw [decide_eq_true_iff]
          apply List.ext_getElem?
          intro j
          by_cases hj : j < k
          · exact Hall.out j hj
          · rw [List.getElem?_eq_none (by rw [La.out]; omega), List.getElem?_eq_none (by rw [Lb.out]; omega)]
        have HT := Lib.hid hT; clear hT
        go_wp2
        go_ret
        exact ⟨by rw [HT.out]; rfl, Hq.out⟩
  · have hnn : ((n : Int) != (m : Int)) = true := by simp; omega
    have hF : decide (a = b) = false := by
      rw [decide_eq_false_iff_not]; intro h
      rw [h, lb] at la; omega
    rw [hF]
    clear hF la lb
    go_enter Try.func16, Try.ntmps16
    go_wp2
    go_ret
    exact ⟨rfl, dr_zero w⟩

def SomeB (w : World) (e : Ending) (w' : World) : Prop := ∃ b : Bool, e = .returned (.bool b) ∧ Below w.heap.size w w'
theorem few_any (p : Pl) (A : Option Addr) (n cap : Nat) (cl : List (List Int)) (w : World) (hl : RdII w w.heap.size A n cap cl) :
  Calls Try.prog 9 #[plV p, .slice A n cap] w (SomeB w) := by
  have hcaps := hl.caps
  obtain ⟨mo, pr, ms, co, wi, to⟩ := p
  simp only [plV, plC] at *
  go_enter Try.func9, Try.ntmps9
  go_wp2
  go_loopg [5] n (fun gk i wr => ∃ k : Nat, k ≤ n ∧ gk = n - k ∧ i = .int .i64 k ∧ wr.cell? ⟨w.heap.size, 3, none⟩ = some (.int .i64 co) ∧ Below w.heap.size w wr)
  case atStart => exact ⟨0, Nat.zero_le _, rfl, rfl, new_cell rfl rfl, (Below.refl _ _).alloc (Nat.le_refl _) _⟩
  case round =>
    obtain ⟨k, hk, rfl, rfl, c3, hb⟩ := hrel
    by_cases hlt : k < n
    · obtain ⟨b, off, A', n', cap', l, rfl, hbB, hcl, k0, hl'⟩ := (hl.below ii_lasts hb (Nat.le_refl _) (Nat.le_refl _)).atII hlt
      have hcaps' := hl'.caps
      have hki : (k : Int) < (n : Int) := by omega
      have hk0 : (0 : Int) ≤ (k : Int) := by omega
      clear hcl
      by_cases h16 : (k : Int) ≤ 16
      · by_cases h12 : (12 : Int) < (n' : Int)
        · go_wp2
          go_ret
          exact ⟨_, rfl, hb⟩
        · go_wp2
          go_roundg (n - (k + 1))
          case rel => exact ⟨k + 1, by omega, rfl, by go_num, c3, hb⟩
          case measure => omega
      · have hd16 : decide ((k : Int) ≤ 16) = false := by simpa using h16
        have hn16 : decide ((n : Int) ≤ 16) = false := by simp; omega
        go_wp2
        go_ret
        exact ⟨_, rfl, hb⟩
    · have e : k = n := by omega
      subst e
      by_cases hn16 : (k : Int) ≤ 16
      · have hd16 : decide ((k : Int) ≤ 16) = true := by simpa using hn16
        by_cases h12 : co ≤ 12
        · go_wp2
          go_ret
          exact ⟨_, rfl, hb⟩
        · have hd12 : decide (co ≤ 12) = false := by simpa using h12
          go_wp2
          go_ret
          exact ⟨_, rfl, hb⟩
      · have hd16 : decide ((k : Int) ≤ 16) = false := by simpa using hn16
        go_wp2
        go_ret
        exact ⟨_, rfl, hb⟩
end Go.Proofs.Ythhmdljfklbbeaa
