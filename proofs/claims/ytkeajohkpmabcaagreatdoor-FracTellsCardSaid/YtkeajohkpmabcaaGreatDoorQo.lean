
/- Same of two results that stand for the same. Conditions stand in each theorem. -/
import Derived.Test.YtkeajohkpmabcaaGreatDoorU
namespace Go.Proofs.YtkeajohkpmabcaaGreatDoor
open Go.RowKit
set_option linter.unusedVariables false
set_option linter.unusedSimpArgs false

theorem optF_same {s t s' t' : Int} {l m l' m' : List Int} {o : Option Rat} (h1 : OptF s l t m o) (h2 : OptF s' l' t' m' o) : sameF s l t m s' l' t' m' = true := by
  have e : s = s' ∧ l = l' ∧ t = t' ∧ m = m' := by
    cases o with
    | none =>
      obtain ⟨a1, a2, a3, a4⟩ := h1
      obtain ⟨b1, b2, b3, b4⟩ := h2
      exact ⟨a1.trans b1.symm, a2.trans b2.symm, a3.trans b3.symm, a4.trans b4.symm⟩
    | some q => exact StdF.same h1 h2
  obtain ⟨rfl, rfl, rfl, rfl⟩ := e
  unfold sameF sameB
  simp
theorem gSameO (o : Option Rat) (s1 t1 s2 t2 : Int) (A1 B1 A2 B2 : Option Addr) (n1 c1 m1 d1 n2 c2 m2 d2 : Nat) (l1 k1 l2 k2 : List Int) (w : World) (r1 : RdI w w.heap.size A1 n1 c1 l1) (q1 : RdI w w.heap.size B1 m1 d1 k1) (r2 : RdI w w.heap.size A2 n2 c2 l2) (q2 : RdI w w.heap.size B2 m2 d2 k2) (h1 : OptF s1 l1 t1 k1 o) (h2 : OptF s2 l2 t2 k2 o) : Calls Tryz.prog 43 #[.agg #[.int .i64 s1, .slice A1 n1 c1, .int .i64 t1, .slice B1 m1 d1], .agg #[.int .i64 s2, .slice A2 n2 c2, .int .i64 t2, .slice B2 m2 d2]] w fun e w' => e = .returned (.bool true) ∧ Below w.heap.size w w' := by
  have h := gsame_any s1 t1 s2 t2 A1 B1 A2 B2 n1 c1 m1 d1 n2 c2 m2 d2 l1 k1 l2 k2 w r1 q1 r2 q2
  rw [optF_same h1 h2] at h
  exact h
end Go.Proofs.YtkeajohkpmabcaaGreatDoor
