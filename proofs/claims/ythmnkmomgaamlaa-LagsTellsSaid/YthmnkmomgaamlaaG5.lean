/- Plain law of layer 15: the examples of the statements. -/
import Derived.Test.YthmnkmomgaamlaaR10
import Derived.Test.YthmnkmomgaamlaaR8
import Derived.Test.YthmnkmomgaamlaaR6
namespace Go.Proofs.Ythmnkmomgaamlaa
open Go.RowKit
set_option linter.unusedVariables false

abbrev someL : List Lg := [(0, 1, 5, 9), (1, 2, 3, -1)]
abbrev moreL : List Lg := [(0, 1, 5, 9), (1, 2, 3, -1), (0, 2, 0, 6)]
abbrev threeC : List St := [(0, 1, 5), (1, 2, 3), (2, 0, -6)]
theorem some_right : rightL 3 someL = true ∧ rightL 3 moreL = true := by decide
theorem some_steps : stepsF 3 someL = [(0, 1, 5), (1, 0, -9), (1, 2, 3), (0, 1, 0), (0, 2, 0)] := by decide
theorem more_steps : stepsF 3 moreL = [(0, 1, 5), (1, 0, -9), (1, 2, 3), (0, 2, 0), (2, 0, -6), (0, 1, 0), (0, 2, 0)] := by decide
theorem some_feas {F : Nat → Int} : Feas (stepsF 3 someL) F ↔ (F 0 + 5 ≤ F 1 ∧ F 1 - 9 ≤ F 0 ∧ F 1 + 3 ≤ F 2 ∧ F 0 ≤ F 1 ∧ F 0 ≤ F 2) := by
  rw [feas_mem, some_steps]
  simp only [List.mem_cons, List.not_mem_nil, or_false, forall_eq_or_imp, forall_eq, sF, sT, sG]
  simp only [Int.toNat_zero, Int.toNat_one, show (2 : Int).toNat = 2 from rfl]
  omega
theorem more_feas {F : Nat → Int} (h : Feas (stepsF 3 moreL) F) (h0 : F 0 = 0) : False := by
  rw [feas_mem, more_steps] at h
  simp only [List.mem_cons, List.not_mem_nil, or_false, forall_eq_or_imp, forall_eq, sF, sT, sG] at h
  simp only [Int.toNat_zero, Int.toNat_one, show (2 : Int).toNat = 2 from rfl] at h
  omega
def f3 (a b c : Int) : Nat → Int := fun v => if v = 0 then a else if v = 1 then b else c
theorem f3_at (a b c : Int) : f3 a b c 0 = a ∧ f3 a b c 1 = b ∧ f3 a b c 2 = c := ⟨rfl, rfl, rfl⟩
theorem ofF3 (F : Nat → Int) : ofF 3 F = [F 0, F 1, F 2] := rfl
theorem small_solve {w0 w' : World} {e : Ending} (h : SolvePost w0 3 someL e w') : ∃ g, e = .returned (.tuple #[.slice (some ⟨g, 0, none⟩) 3 3, .slice none 0 0, .int .i64 0]) ∧ RdI w' w'.heap.size (some ⟨g, 0, none⟩) 3 3 [0, 5, 8] ∧ Below w0.heap.size w0 w' := by
  obtain ⟨v1, v2, er, rfl, hb, hc⟩ := h
  have hF : Feas (stepsF 3 someL) (f3 0 5 8) := some_feas.2 (by obtain ⟨a, b, c⟩ := f3_at 0 5 8; omega)
  rcases hc with ⟨h1, _⟩ | ⟨_, ⟨rfl, rfl, T, g, rfl, hr, hT, _⟩ | ⟨_, _, C, A, k, c, _, _, _, _, _, B, v, hbad⟩⟩
  · rw [some_right.1] at h1; cases h1
  · refine ⟨g, rfl, ?_, hb⟩
    obtain ⟨h1, h2, h3, h4⟩ := hT
    have h5 := some_feas.1 h1
    have h6 := h4 _ hF (fun v hv => by
      match v, hv with
      | 0, _ => decide
      | 1, _ => decide
      | 2, _ => decide
      | v + 3, hv => exact absurd hv (by show ¬ v + 3 < 3; omega))
    have a1 := h6 1 (by decide)
    have a2 := h6 2 (by decide)
    obtain ⟨b0, b1, b2⟩ := f3_at 0 5 8
    rw [b1] at a1
    rw [b2] at a2
    have e : ofF 3 T = [0, 5, 8] := by
      rw [ofF3, h2, show T 1 = 5 by omega, show T 2 = 8 by omega]
    have hr' : RdI w' w'.heap.size (some ⟨g, 0, none⟩) 3 3 (ofF 3 T) := hr
    rw [e] at hr'
    exact hr'
  · exact absurd hF (fun h => bad_feas hbad h)
theorem small_more {w0 w' : World} {e : Ending} (h : SolvePost w0 3 moreL e w') : ∃ C A k c, e = .returned (.tuple #[.slice none 0 0, .slice A k c, .int .i64 22]) ∧ RdT w' w'.heap.size A k c C ∧ refF 3 moreL C = true ∧ Below w0.heap.size w0 w' := by
  obtain ⟨v1, v2, er, rfl, hb, hc⟩ := h
  rcases hc with ⟨h1, _⟩ | ⟨_, ⟨rfl, rfl, T, g, rfl, hr, hT, _⟩ | ⟨rfl, rfl, C, A, k, c, rfl, _, _, hr, href, _⟩⟩
  · rw [some_right.2] at h1; cases h1
  · exact absurd hT.2.1 (fun h => more_feas hT.1 h)
  · exact ⟨C, A, k, c, rfl, hr, href, hb⟩
theorem small_latest {w0 w' : World} {e : Ending} {en b c : Int} (h : LatPost w0 3 someL en e w') (h0 : 8 ≤ en ∧ en ≤ 1048576) (hb1 : b = min 9 (en - 3)) (hc1 : c = en) : ∃ A q, e = .returned (.tuple #[.slice A 3 q, .int .i64 0]) ∧ RdI w' w'.heap.size A 3 q [0, b, c] ∧ Below w0.heap.size w0 w' := by
  obtain ⟨v, er, rfl, hb, hc⟩ := h
  have hF : Feas (stepsF 3 someL) (f3 0 b c) := some_feas.2 (by clear hc; obtain ⟨x, y, z⟩ := f3_at 0 b c; omega)
  have hF2 : Feas (stepsF 3 someL) (f3 0 5 8) := some_feas.2 (by obtain ⟨x, y, z⟩ := f3_at 0 5 8; omega)
  rcases hc with ⟨h1, _⟩ | ⟨_, _, ⟨_, _, B, v, hbad⟩ | ⟨_, _, T, hT, i, hi, hlt⟩ | ⟨rfl, L, T, A, q, rfl, hr, hG, hT, _⟩⟩
  · rw [some_right.1] at h1; rcases h1 with h1 | h1 | h1
    · cases h1
    · omega
    · omega
  · exact absurd hF (fun h => bad_feas hbad h)
  · exfalso
    have h6 := hT.2.2.2 _ hF2 (fun v hv => by
      match v, hv with
      | 0, _ => decide
      | 1, _ => decide
      | 2, _ => decide
      | v + 3, hv => exact absurd hv (by show ¬ v + 3 < 3; omega)) i hi
    match i, hi, h6, hlt with
    | 0, _, h6, hlt => have : f3 0 5 8 0 = 0 := rfl; omega
    | 1, _, h6, hlt => have : f3 0 5 8 1 = 5 := rfl; omega
    | 2, _, h6, hlt => have : f3 0 5 8 2 = 8 := rfl; omega
    | v + 3, hv, _, _ => exact absurd hv (by show ¬ v + 3 < 3; omega)
  · refine ⟨A, q, rfl, ?_, hb⟩
    obtain ⟨g1, g2, g3, g4⟩ := hG
    have h5 := some_feas.1 g1
    have h6 := g4 _ hF rfl (fun v hv => by
      obtain ⟨x, y, z⟩ := f3_at 0 b c
      match v, hv with
      | 0, _ => omega
      | 1, _ => omega
      | 2, _ => omega
      | v + 3, hv => exact absurd hv (by show ¬ v + 3 < 3; omega))
    have a1 := h6 1 (by decide)
    have a2 := h6 2 (by decide)
    obtain ⟨b0, b1, b2⟩ := f3_at 0 b c
    rw [b1] at a1
    rw [b2] at a2
    have c2 := g3 2 (by decide)
    obtain ⟨k1, k2, k3, k4, k5⟩ := h5
    have e1 : L 1 = b := by
      have u1 : L 1 ≤ 9 := by omega
      have u2 : L 1 ≤ en - 3 := by omega
      exact Int.le_antisymm (by rw [hb1]; exact Int.le_min.2 ⟨u1, u2⟩) a1
    have e2 : L 2 = c := Int.le_antisymm (by rw [hc1]; exact c2) a2
    have e : ofF 3 L = [0, b, c] := by
      rw [ofF3, g2, e1, e2]
    have hr' : RdI w' w'.heap.size A 3 q (ofF 3 L) := hr
    rw [e] at hr'
    exact hr'
theorem small_late {w0 w' : World} {e : Ending} (h : LatPost w0 3 someL 7 e w') : ∃ v, e = .returned (.tuple #[v, .int .i64 20]) ∧ Below w0.heap.size w0 w' := by
  obtain ⟨v, er, rfl, hb, hc⟩ := h
  have hF2 : Feas (stepsF 3 someL) (f3 0 5 8) := some_feas.2 (by obtain ⟨x, y, z⟩ := f3_at 0 5 8; omega)
  rcases hc with ⟨h1, _⟩ | ⟨_, _, ⟨_, _, B, v, hbad⟩ | ⟨rfl, _, T, hT, i, hi, hlt⟩ | ⟨rfl, L, T, A, q, rfl, hr, hG, hT, h9⟩⟩
  · rw [some_right.1] at h1; rcases h1 with h1 | h1 | h1
    · cases h1
    · omega
    · omega
  · exact absurd hF2 (fun h => bad_feas hbad h)
  · exact ⟨v, rfl, hb⟩
  · exfalso
    have h5 := some_feas.1 hT.1
    have := (h9 2 (by decide)).1
    have := hT.2.1
    omega
theorem small_refs : refF 3 moreL threeC = true ∧ refF 3 someL threeC = false ∧ checkF 3 someL [0, 5, 8] = true ∧ checkF 3 moreL [0, 5, 8] = false := by decide
end Go.Proofs.Ythmnkmomgaamlaa
