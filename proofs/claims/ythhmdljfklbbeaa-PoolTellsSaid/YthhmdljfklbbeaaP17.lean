/- Walk over in and Sum of the reference of layer 36. Conditions stand in each theorem. -/
import Derived.Test.YthhmdljfklbbeaaP16
namespace Go.Proofs.Ythhmdljfklbbeaa
open Go.RowKit
set_option linter.unusedVariables false

theorem rin_any (x lo hi : Int) (w : World) : Calls Try.prog 26 #[.int .i64 x, .int .i64 lo, .int .i64 hi] w fun e w' => e = .returned (.bool (inB lo hi x)) ∧ w = w' := by
  by_cases h1 : lo ≤ x
  · by_cases h2 : x ≤ hi
    · have e : inB lo hi x = true := by simp [inB, h1, h2]
      rw [e]; clear e
      go_enter Try.func26, Try.ntmps26
      go_wp2
      go_ret
      exact ⟨by simp, rfl⟩
    · have e : inB lo hi x = false := by simp [inB, h2]
      rw [e]; clear e
      go_enter Try.func26, Try.ntmps26
      go_wp2
      go_ret
      exact ⟨by simp, rfl⟩
  · have e : inB lo hi x = false := by simp [inB, h1]
    rw [e]; clear e
    go_enter Try.func26, Try.ntmps26
    go_wp2
    go_ret
    exact ⟨by simp, rfl⟩

/-- the sum of the claims of a period, or -1 -/
def sumR (p : Pl) (l : List Int) : Int := if okP p l then lsum l else -1
theorem rsum_any (p : Pl) (A : Option Addr) (n cap : Nat) (l : List Int) (w : World) (hp : rightF p = true) (hl : RdI w w.heap.size A n cap l) :
  Calls Try.prog 23 #[plV p, .slice A n cap] w fun e w' => e = .returned (.int .i64 (sumR p l)) ∧ Below w.heap.size w w' := by
  obtain ⟨_, _, _, ⟨p41, p42⟩, ⟨p51, p52⟩, _⟩ := rightF_iff hp
  have hcaps := hl.caps
  have hlen := hl.len
  by_cases hco : p.co < (n : Int)
  · have e : sumR p l = -1 := by
      have : okP p l = false := by simp [okP, hlen]; omega
      rw [sumR, this]; rfl
    rw [e]
    clear e hp
    obtain ⟨mo, pr, ms, co, wi, to⟩ := p
    simp only [plV, plC] at *
    have hd : decide (co < (n : Int)) = true := by simpa using hco
    go_enter Try.func23, Try.ntmps23
    go_wp2
    go_ret
    exact ⟨rfl, (Below.refl w.heap.size w).alloc (Nat.le_refl _) _⟩
  have HG : RowKit.Hid ((∀ j, j < n → inB 1 p.ms (gi l j) = true) → sumR p l = sumN (gi l) n) := Lib.hid fun h => by
    have : okP p l = true := by
      rw [okP, Bool.and_eq_true, decide_eq_true_eq, List.all_eq_true, hlen]
      refine ⟨by omega, fun x hx => ?_⟩
      obtain ⟨i, hi, rfl⟩ := List.mem_iff_getElem.1 hx
      have := h i (by omega)
      rwa [gi_eq (List.getElem?_eq_getElem hi)] at this
    rw [sumR, this, if_pos rfl, lsum, hlen]
  have HB : RowKit.Hid (∀ k x, l[k]? = some x → inB 1 p.ms x = false → sumR p l = -1) := Lib.hid fun k x hx h => by
    have : okP p l = false := by
      rw [okP, Bool.and_eq_false_iff]
      right
      rw [List.all_eq_false]
      exact ⟨x, List.mem_of_getElem? hx, by simp [h]⟩
    rw [sumR, this]; rfl
  have HS : RowKit.Hid (∀ k, k ≤ n → (∀ j, j < k → inB 1 p.ms (gi l j) = true) → 0 ≤ sumN (gi l) k ∧ sumN (gi l) k ≤ k * 1000000000000000) := Lib.hid fun k => by
    induction k with
    | zero => intro _ _; simp [sumN]
    | succ k ih =>
      intro hk h
      have h1 := ih (by omega) fun j hj => h j (by omega)
      have h2 := h k (by omega)
      simp [inB] at h2
      rw [sumN]; omega
  generalize sumR p l = SR at *
  clear hp hlen
  obtain ⟨mo, pr, ms, co, wi, to⟩ := p
  simp only [plV, plC] at *
  have hd : decide (co < (n : Int)) = false := by simp; omega
  go_enter Try.func23, Try.ntmps23
  go_wp2
  go_loopg [5, 6] n (fun gk s i wr => ∃ k : Nat, k ≤ n ∧ gk = n - k ∧ i = .int .i64 k ∧ s = .int .i64 (sumN (gi l) k) ∧ (∀ j, j < k → inB 1 ms (gi l j) = true) ∧ wr.cell? ⟨w.heap.size, 2, none⟩ = some (.int .i64 ms) ∧ Below w.heap.size w wr)
  case atStart => exact ⟨0, Nat.zero_le _, rfl, rfl, rfl, (fun j h => absurd h (by omega)), new_cell rfl rfl, (Below.refl _ _).alloc (Nat.le_refl _) _⟩
  case round =>
    obtain ⟨k, hk, rfl, rfl, rfl, hall, c2, hb⟩ := hrel
    have Hall := Lib.hid hall
    by_cases hlt : k < n
    · obtain ⟨b, off, x, rfl, hbB, hx, k0⟩ := (hl.below (flat_lasts _) hb (Nat.le_refl _) (Nat.le_refl _)).atI hlt
      have hki : (k : Int) < (n : Int) := by omega
      have hk0 : (0 : Int) ≤ (k : Int) := by omega
      have hgx := gi_eq hx
      have Hin := Lib.hid (fun r => (rin_any x 1 ms (wr.drewN r)).mono fun e w'' ⟨he, h⟩ => (⟨he, r, h.symm⟩ : e = Ending.returned (.bool (inB 1 ms x)) ∧ ∃ s, w'' = wr.drewN s))
      cases hin : inB 1 ms x
      · have hsr := HB.out k x hx hin
        rw [hin] at Hin
        have Hsr := Lib.hid hsr
        clear hin hgx hx hall hsr
        go_wp2_with fail
        go_quiet ((go_at_call 26; exact Hin.out _))
        go_wp2
        go_ret
        exact ⟨by rw [Hsr.out]; try rfl, below_drewN hb _⟩
      · rw [hin] at Hin
        have hS1 := HS.out k hk hall
        have hall2 : ∀ j, j < k + 1 → inB 1 ms (gi l j) = true := fun j hj => by
          by_cases e : j = k
          · subst e; rw [hgx]; exact hin
          · exact hall j (by omega)
        have hxb : 1 ≤ x ∧ x ≤ ms := by simpa [inB] using hin
        have e : sumN (gi l) (k + 1) = sumN (gi l) k + x := by rw [sumN, hgx]
        have He := Lib.hid e; have Hall2 := Lib.hid hall2
        clear hin hgx hx hall hall2 e
        generalize sumN (gi l) k = S at *
        obtain ⟨s1, s2⟩ := hS1
        have hwS : IntKind.i64.wrap (S + x) = S + x := IntWalk.i64_in _ (by omega)
        go_wp2_with fail
        go_quiet ((go_at_call 26; exact Hin.out _))
        go_wp2
        go_roundg (n - (k + 1))
        case rel => exact ⟨k + 1, by omega, rfl, by go_num, by rw [He.out], Hall2.out, c2, below_drewN hb _⟩
        case measure => omega
    · have e : k = n := by omega
      subst e
      have hsr := HG.out hall
      have Hsr := Lib.hid hsr
      clear hall hsr
      go_wp2
      go_ret
      exact ⟨by rw [Hsr.out]; rfl, hb⟩
end Go.Proofs.Ythhmdljfklbbeaa
