/- Arguments opened: slices that came in, read as lists. No condition. -/
import Derived.Test.YtmcamadcoglodaaMem
import Derived.ProofKit
import Derived.OpenShut
import Derived.ShutString
import Derived.ChangeOld
import Derived.Below
import Derived.SizedLaws
import Derived.Deep.SlicePairs
namespace Go.Proofs.Ytmcamadcoglodaa
open Go.ChangeShapes Go.WideShapes Go.ChangeAt Go.RowKit Go.Deep
set_option linter.unusedVariables false

section
variable {H : Type} {enc : TypeId × Value → H} {P : Program} {w : World}
theorem cells_int {t : TypeId} {k : IntKind} {n : Nat} {v : Value} {y : DataW H × List MemPlace} (ht : P.underlying t = some (.int k)) (h : DataW.trod enc P w 0 (fun _ => true) true n t [v] = some y) : v = .int k (intOf v) ∧ (Lit.int k (intOf v)).wf = true := by
  obtain ⟨a, e0, _, wa⟩ := DataW.trod_int ht h
  simp at e0
  subst e0
  exact ⟨rfl, wa⟩

theorem open_rdp {t e : TypeId} {f0 f1 : Field} {A : Option Addr} {n cap : Nat} {d : DataW H} {p : List MemPlace} (ht : P.underlying t = some (.slice e)) (he : P.underlying e = some (.struct #[f0, f1]))
    (ce : P.cellsOf e = 2) (o0 : f0.offset = 0) (o1 : f1.offset = 1) (c0 : P.cellsOf f0.type = 1) (c1 : P.cellsOf f1.type = 1) (u0 : P.underlying f0.type = some (.int .i64)) (u1 : P.underlying f1.type = some (.int .i64))
    (h : DataW.Trod enc P w 0 (fun _ => true) true t (.slice A n cap) d p) (hb : ∀ el sp, d = .slice el sp → el.length ≤ 140737488351232) :
    ∃ l, RdP w w.heap.size A n cap l ∧ ∀ s ∈ l, (-9223372036854775808 ≤ s.1 ∧ s.1 ≤ 9223372036854775807) ∧ (-9223372036854775808 ≤ s.2 ∧ s.2 ≤ 9223372036854775807) := by
  obtain ⟨fuel, hf⟩ := h
  rcases open_slice_pairs ht he ce o0 o1 c0 c1 hf with ⟨hcs, _⟩ | ⟨a, len, cap', m, k, V0, V1, D0, D1, P0, P1, hcs, _, hl, hm, hmm, hx, hc⟩
  · simp [Value.cells] at hcs
    obtain ⟨rfl, rfl, rfl⟩ := hcs
    exact ⟨[], Rd.nil, by simp⟩
  · simp [Value.cells] at hcs
    obtain ⟨rfl, rfl, rfl⟩ := hcs
    simp only [if_true] at hmm
    subst hmm
    simp only [Prod.mk.injEq] at hx
    have hlen := hb _ _ hx.1
    simp at hlen
    refine ⟨(List.range n).map fun i => (intOf (V0 i), intOf (V1 i)), ⟨by simp, hl, ⟨by unfold maxLen at hm; exact hm, hlen⟩, fun hn => ?_⟩, fun s hs => ?_⟩
    · obtain ⟨b, off, spot⟩ := a
      have hspot : spot = none := by
        obtain ⟨h1, _⟩ := hc 0 (by omega)
        simpa [Addr.add] using World.cell?_spot h1
      subst hspot
      have hlt : b < w.heap.size := World.block_lt_of_cell? w _ (hc 0 (by omega)).1
      refine ⟨b, off, rfl, hlt, fun i hi => ⟨_, rfl, rfl, fun j u hu => ?_⟩⟩
      simp at hi
      obtain ⟨h1, h2, h3, h4⟩ := hc i (by omega)
      obtain ⟨e0, _⟩ := cells_int u0 h3
      obtain ⟨e1, _⟩ := cells_int u1 h4
      have ha : ∀ k : Nat, (⟨b, off, none⟩ : Addr).add k = ⟨b, off + k, none⟩ := fun k => by
        unfold Addr.add; split
        · rename_i h0; rw [h0]; rfl
        · rfl
      rw [ha] at h1 h2
      simp [pEnc] at hu
      match j, hu with
      | 0, hu => simp at hu; rw [← hu, ← e0]; exact h1
      | 1, hu => simp at hu; rw [← hu, ← e1]; exact h2
      | j + 2, hu => simp at hu
    · obtain ⟨i, hi, rfl⟩ := List.mem_map.1 hs
      have hi := List.mem_range.1 hi
      obtain ⟨_, _, h3, h4⟩ := hc i (by omega)
      exact ⟨bounds_i64 (cells_int u0 h3).2, bounds_i64 (cells_int u1 h4).2⟩
end
end Go.Proofs.Ytmcamadcoglodaa
