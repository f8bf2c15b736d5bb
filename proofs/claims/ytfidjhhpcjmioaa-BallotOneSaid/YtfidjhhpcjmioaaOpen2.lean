/- Arguments opened: slices of bytes that came in, read as lists. No condition. -/
import Derived.Test.YtfidjhhpcjmioaaOpen
import Derived.Test.YtfidjhhpcjmioaaL3
namespace Go.Proofs.Ytfidjhhpcjmioaa
open Go.ChangeShapes Go.WideShapes Go.ChangeAt Go.RowKit Go.Deep
set_option linter.unusedVariables false
section
variable {H : Type} {enc : TypeId × Value → H} {P : Program} {w : World}
theorem addr_add (b off k : Nat) : (⟨b, off, none⟩ : Addr).add k = ⟨b, off + k, none⟩ := by
  unfold Addr.add; split
  · rename_i h0; rw [h0]; rfl
  · rfl
theorem open_rdk {t e : TypeId} {k : IntKind} {A : Option Addr} {n cap : Nat} {d : DataW H} {p : List MemPlace} (ht : P.underlying t = some (.slice e)) (he : P.underlying e = some (.int k)) (hc : P.cellsOf e = 1)
    (h : DataW.Trod enc P w 0 (fun _ => true) true t (.slice A n cap) d p) (hb : ∀ el sp, d = .slice el sp → el.length ≤ 140737488351232) :
    ∃ l : List Int, Rd 1 (flat fun x => [.int k x]) w w.heap.size A n cap l ∧ ∀ x ∈ l, (Lit.int k x).wf = true := by
  obtain ⟨fuel, hf⟩ := h
  rcases open_ints ht he hc hf with ⟨hcs, _⟩ | ⟨x, len, c, zs, hcs, _, hl, hm, hz, hx, hcell, hwz⟩
  · simp [Value.cells] at hcs
    obtain ⟨rfl, rfl, rfl⟩ := hcs
    exact ⟨[], Rd.nil, by simp⟩
  · simp [Value.cells] at hcs
    obtain ⟨rfl, rfl, rfl⟩ := hcs
    have hzl : zs.length = cap := by simpa using hz
    simp only [Prod.mk.injEq] at hx
    have hlen := hb _ _ hx.1
    simp [lits] at hlen
    refine ⟨zs.take n, ⟨by simp; omega, hl, ⟨by unfold maxLen at hm; exact hm, by omega⟩, fun hn => ?_⟩, fun y hy => hwz y (List.mem_of_mem_take hy)⟩
    obtain ⟨b, off, spot⟩ := x
    have hspot : spot = none := by
      have h1 := hcell 0 (by omega)
      simpa [Addr.add] using World.cell?_spot h1
    subst hspot
    have hlt : b < w.heap.size := by
      have h1 := World.block_lt_of_cell? w _ (hcell 0 (by omega))
      rw [addr_add] at h1; exact h1
    refine ⟨b, off, rfl, hlt, fun i hi => ⟨_, rfl, rfl, fun j u hu => ?_⟩⟩
    simp at hi
    have h1 := hcell i (by omega)
    rw [addr_add] at h1
    match j, hu with
    | 0, hu =>
      simp only [List.getElem?_cons_zero, Option.some.injEq] at hu
      rw [← hu, Nat.mul_one, Nat.add_zero, h1, List.getElem_take]
      simp [List.getD, show i < zs.length by omega]
    | j + 1, hu => simp at hu
theorem open_rdu {t e : TypeId} {A : Option Addr} {n cap : Nat} {d : DataW H} {p : List MemPlace} (ht : P.underlying t = some (.slice e)) (he : P.underlying e = some (.int .u8)) (hc : P.cellsOf e = 1)
    (h : DataW.Trod enc P w 0 (fun _ => true) true t (.slice A n cap) d p) (hb : ∀ el sp, d = .slice el sp → el.length ≤ 140737488351232) :
    ∃ l : List Int, RdU w w.heap.size A n cap l ∧ ∀ x ∈ l, 0 ≤ x ∧ x ≤ 255 := by
  obtain ⟨l, h1, h2⟩ := open_rdk ht he hc h hb
  exact ⟨l, h1, fun x hx => bounds_u8 (h2 x hx)⟩
theorem open_rdi {t e : TypeId} {A : Option Addr} {n cap : Nat} {d : DataW H} {p : List MemPlace} (ht : P.underlying t = some (.slice e)) (he : P.underlying e = some (.int .i64)) (hc : P.cellsOf e = 1)
    (h : DataW.Trod enc P w 0 (fun _ => true) true t (.slice A n cap) d p) (hb : ∀ el sp, d = .slice el sp → el.length ≤ 140737488351232) :
    ∃ l : List Int, RdI w w.heap.size A n cap l ∧ ∀ x ∈ l, -9223372036854775808 ≤ x ∧ x ≤ 9223372036854775807 := by
  obtain ⟨l, h1, h2⟩ := open_rdk ht he hc h hb
  exact ⟨l, h1, fun x hx => bounds_i64 (h2 x hx)⟩
end
end Go.Proofs.Ytfidjhhpcjmioaa
