/- Plain law: the search of the reference of layer 24 through all assignments, in their order. No condition. -/
import Derived.Test.YtmcamadcoglodaaU1
namespace Go.Proofs.Ytmcamadcoglodaa
open Go.RowKit
set_option linter.unusedVariables false

/-- the assignments that come before those that begin as T does in the first k rows, and with a column before j in row k -/
def SnJ (m n k j : Nat) (T F : Nat → Nat) : Prop := As m n F ∧ (bef k F T ∨ ((∀ q, q < k → F q = T q) ∧ F k < j))
/-- those that come before, or begin so -/
def SnA (m n k : Nat) (T F : Nat → Nat) : Prop := As m n F ∧ (bef k F T ∨ ∀ q, q < k → F q = T q)
def SnB (m n k : Nat) (T F : Nat → Nat) : Prop := As m n F ∧ bef k F T
section
variable {m n k j : Nat} {T F : Nat → Nat}
theorem snJ_zero : SnJ m n k 0 T F ↔ SnB m n k T F := ⟨fun ⟨h1, h2⟩ => ⟨h1, h2.resolve_right fun h => absurd h.2 (by omega)⟩, fun ⟨h1, h2⟩ => ⟨h1, Or.inl h2⟩⟩
theorem snJ_all (hk : k < m) : SnJ m n k n T F ↔ SnA m n k T F := ⟨fun ⟨h1, h2⟩ => ⟨h1, h2.imp id fun h => h.1⟩, fun ⟨h1, h2⟩ => ⟨h1, h2.imp id fun h => ⟨h, h1.1 k hk⟩⟩⟩
theorem snJ_used (hk : k < m) (hu : ∃ a, a < k ∧ T a = j) : SnJ m n k (j + 1) T F ↔ SnJ m n k j T F := by
  refine ⟨fun ⟨h1, h2⟩ => ⟨h1, h2.imp id fun h => ⟨h.1, ?_⟩⟩, fun ⟨h1, h2⟩ => ⟨h1, h2.imp id fun h => ⟨h.1, by omega⟩⟩⟩
  obtain ⟨a, ha, e⟩ := hu
  have h3 : F k ≠ j := fun e2 => by
    have h4 := h1.2 a k (by omega) hk (by rw [h.1 a ha, e, e2])
    omega
  have := h.2
  omega
def ext (T : Nat → Nat) (k j : Nat) : Nat → Nat := fun q => if q = k then j else T q
theorem bef_ext : bef (k + 1) F (ext T k j) ↔ bef k F T ∨ ((∀ q, q < k → F q = T q) ∧ F k < j) := by
  constructor
  · rintro ⟨r, h1, h2, h3⟩
    by_cases e : r = k
    · subst e
      refine Or.inr ⟨fun q hq => ?_, ?_⟩
      · have := h2 q hq
        unfold ext at this
        rw [if_neg (by omega)] at this
        exact this
      · unfold ext at h3
        rw [if_pos rfl] at h3
        exact h3
    · refine Or.inl ⟨r, by omega, fun q hq => ?_, ?_⟩
      · have := h2 q hq
        unfold ext at this
        rw [if_neg (by omega)] at this
        exact this
      · unfold ext at h3
        rw [if_neg e] at h3
        exact h3
  · rintro (⟨r, h1, h2, h3⟩ | ⟨h1, h2⟩)
    · refine ⟨r, by omega, fun q hq => ?_, ?_⟩
      · unfold ext; rw [if_neg (by omega)]; exact h2 q hq
      · unfold ext; rw [if_neg (by omega)]; exact h3
    · refine ⟨k, by omega, fun q hq => ?_, ?_⟩
      · unfold ext; rw [if_neg (by omega)]; exact h1 q hq
      · unfold ext; rw [if_pos rfl]; exact h2
theorem snB_ext : SnB m n (k + 1) (ext T k j) F ↔ SnJ m n k j T F := and_congr_right fun _ => bef_ext
theorem snA_ext : SnA m n (k + 1) (ext T k j) F ↔ SnJ m n k (j + 1) T F := by
  refine and_congr_right fun _ => ?_
  rw [bef_ext]
  constructor
  · rintro ((h | h) | h)
    · exact Or.inl h
    · exact Or.inr ⟨h.1, by omega⟩
    · refine Or.inr ⟨fun q hq => ?_, ?_⟩
      · have := h q (by omega); unfold ext at this; rw [if_neg (by omega)] at this; exact this
      · have := h k (by omega); unfold ext at this; rw [if_pos rfl] at this; omega
  · rintro (h | ⟨h1, h2⟩)
    · exact Or.inl (Or.inl h)
    · by_cases e : F k = j
      · refine Or.inr fun q hq => ?_
        unfold ext
        by_cases e2 : q = k
        · subst e2; rw [if_pos rfl]; exact e
        · rw [if_neg e2]; exact h1 q (by omega)
      · exact Or.inl (Or.inr ⟨h1, by omega⟩)
end
/-- the best one of those that were seen -/
def BestT (m : Nat) (c : Nat → Nat → Int) (T : Nat → Nat) (Sn : (Nat → Nat) → Prop) : Prop := Sn T ∧ ∀ F, Sn F → costF m c T ≤ costF m c F ∧ (costF m c F = costF m c T → ¬ bef m F T)
def BestV (w : World) (m : Nat) (c : Nat → Nat → Int) (bv : Value) (least : Int) (Sn : (Nat → Nat) → Prop) : Prop :=
  (bv = .slice none 0 0 ∧ ∀ F, ¬ Sn F) ∨ ∃ a cap T, bv = .slice (some a) m cap ∧ RdI w w.heap.size (some a) m cap (ofF m (fun r => ((T r : Nat) : Int))) ∧ least = costF m c T ∧ BestT m c T Sn
theorem BestV.below {w w' : World} {m : Nat} {c : Nat → Nat → Int} {bv : Value} {least : Int} {Sn : (Nat → Nat) → Prop} (h : BestV w m c bv least Sn) (hb : Below w.heap.size w w') : BestV w' m c bv least Sn := by
  rcases h with h | ⟨a, cap, T, h1, h2, h3⟩
  · exact Or.inl h
  · exact Or.inr ⟨a, cap, T, h1, h2.up (flat_lasts _) hb, h3⟩
theorem BestV.congr {w : World} {m : Nat} {c : Nat → Nat → Int} {bv : Value} {least : Int} {Sn Sn' : (Nat → Nat) → Prop} (h : BestV w m c bv least Sn) (he : ∀ F, Sn' F ↔ Sn F) : BestV w m c bv least Sn' := by
  have e : Sn' = Sn := funext fun F => propext (he F)
  rw [e]; exact h
/-- the first one that is complete -/
theorem best_none {m n : Nat} {c : Nat → Nat → Int} {T : Nat → Nat} (hT : As m n T) (h : ∀ F, ¬ SnB m n m T F) : BestT m c T (SnA m n m T) := by
  refine ⟨⟨hT, Or.inr fun q _ => rfl⟩, fun F hF => ?_⟩
  rcases hF.2 with h1 | h1
  · exact absurd ⟨hF.1, h1⟩ (h F)
  · have e : costF m c F = costF m c T := sumN_congr m fun r hr => by rw [h1 r hr]
    refine ⟨by omega, fun _ ⟨r, h2, h3, h4⟩ => by have := h1 r h2; omega⟩
theorem best_less {m n : Nat} {c : Nat → Nat → Int} {T B : Nat → Nat} (hT : As m n T) (h : BestT m c B (SnB m n m T)) (hl : costF m c T < costF m c B) : BestT m c T (SnA m n m T) := by
  refine ⟨⟨hT, Or.inr fun q _ => rfl⟩, fun F hF => ?_⟩
  rcases hF.2 with h1 | h1
  · have h2 := (h.2 F ⟨hF.1, h1⟩).1
    refine ⟨by omega, fun e => by omega⟩
  · have e : costF m c F = costF m c T := sumN_congr m fun r hr => by rw [h1 r hr]
    refine ⟨by omega, fun _ ⟨r, h2, h3, h4⟩ => by have := h1 r h2; omega⟩
theorem best_stay {m n : Nat} {c : Nat → Nat → Int} {T B : Nat → Nat} (hT : As m n T) (h : BestT m c B (SnB m n m T)) (hl : ¬ costF m c T < costF m c B) : BestT m c B (SnA m n m T) := by
  refine ⟨⟨h.1.1, Or.inl h.1.2⟩, fun F hF => ?_⟩
  rcases hF.2 with h1 | h1
  · exact h.2 F ⟨hF.1, h1⟩
  · have e : costF m c F = costF m c T := sumN_congr m fun r hr => by rw [h1 r hr]
    refine ⟨by omega, fun _ ⟨r, h2, h3, h4⟩ => ?_⟩
    obtain ⟨s, s1, s2, s3⟩ := h.1.2
    rcases Nat.lt_trichotomy r s with q | q | q
    · have a1 := s2 r q; have a2 := h1 r h2; omega
    · subst q; have a2 := h1 r h2; omega
    · have a1 := h3 s q; have a2 := h1 s s1; omega
/-- when all were seen, the best one is the first of the cheapest -/
theorem best_first {m n : Nat} {c : Nat → Nat → Int} {T : Nat → Nat} {T0 : Nat → Nat} (h : BestT m c T (SnA m n 0 T0)) : First m n c T :=
  ⟨h.1.1, fun F hF => (h.2 F ⟨hF, Or.inr fun q hq => absurd hq (by omega)⟩).1, fun F hF => (h.2 F ⟨hF, Or.inr fun q hq => absurd hq (by omega)⟩).2⟩
/-- the part that is an assignment of the first rows -/
def Part (n k : Nat) (T : Nat → Nat) : Prop := (∀ r, r < k → T r < n) ∧ ∀ r r', r < k → r' < k → T r = T r' → r = r'
theorem Part.ext {n k j : Nat} {T : Nat → Nat} (h : Part n k T) (hj : j < n) (hu : ∀ a, a < k → T a ≠ j) : Part n (k + 1) (ext T k j) := by
  refine ⟨fun r hr => ?_, fun r r' h1 h2 e => ?_⟩
  · unfold Go.Proofs.Ytmcamadcoglodaa.ext
    split
    · exact hj
    · exact h.1 r (by omega)
  · unfold Go.Proofs.Ytmcamadcoglodaa.ext at e
    split at e <;> split at e
    · omega
    · exact absurd e.symm (hu r' (by omega))
    · exact absurd e (hu r (by omega))
    · exact h.2 r r' (by omega) (by omega) e
theorem ext_list {k j : Nat} {T : Nat → Nat} : ofF k (fun r => ((T r : Nat) : Int)) ++ [(j : Int)] = ofF (k + 1) (fun r => ((ext T k j r : Nat) : Int)) := by
  rw [ofF_succ]
  congr 1
  · exact ofF_congr fun r hr => by unfold ext; rw [if_neg (by omega)]
  · unfold ext; rw [if_pos rfl]
theorem ext_sum {c : Nat → Nat → Int} {k j : Nat} {T : Nat → Nat} : sumN (fun r => c r (ext T k j r)) (k + 1) = sumN (fun r => c r (T r)) k + c k j := by
  rw [sumN]
  congr 1
  · exact sumN_congr k fun r hr => by unfold ext; rw [if_neg (by omega)]
  · unfold ext; rw [if_pos rfl]
end Go.Proofs.Ytmcamadcoglodaa
