/- Words for a region that stores its result into a block of four cells (or two) at its end. Conditions stand in each theorem. -/
import Derived.Test.YtkeajohkpmabcaaDoorSt
namespace Go.Proofs.YtkeajohkpmabcaaDoor
open Go.RowKit
set_option linter.unusedVariables false

/-- the blocks, and one more of k cells, of whatever content -/
def Sx (w : World) (b : Nat) (T : TypeId) (k : Nat) (L : List Blk) (D : List Hl) (W : World) : Prop := ∃ cs : Array Value, cs.size = k ∧ St w ((b, cs, T) :: L) D W
section
variable {w W W' : World} {b k : Nat} {T : TypeId} {L : List Blk} {D : List Hl}
theorem Sx.of {cs : Array Value} (h : St w ((b, cs, T) :: L) D W) (hk : cs.size = k) : Sx w b T k L D W := ⟨cs, hk, h⟩
theorem Sx.keep (h : Sx w b T k L D W) (hb : Below W.heap.size W W') : Sx w b T k L D W' := by
  obtain ⟨cs, h1, h2⟩ := h
  exact ⟨cs, h1, h2.keep hb⟩
theorem Sx.drew (h : Sx w b T k L D W) : Sx w b T k L D W.drew := h.keep (Below.refl _ _).drew
theorem Sx.below (h : Sx w b T k L D W) : Below w.heap.size w W := by obtain ⟨cs, h1, h2⟩ := h; exact h2.1
theorem Sx.lt (h : Sx w b T k L D W) : b + 1 ≤ W.heap.size := by obtain ⟨cs, h1, h2⟩ := h; exact (h2.blk List.mem_cons_self).lt
theorem Sx.ge (h : Sx w b T k L D W) : w.heap.size ≤ b := by obtain ⟨cs, h1, h2⟩ := h; exact (h2.2.1 _ List.mem_cons_self).1
theorem Sx.at (h : Sx w b T k L D W) {P : World → Prop} {S : Nat → Prop} (hm : (⟨P, S⟩ : Hl) ∈ D) : P W := by obtain ⟨cs, h1, h2⟩ := h; exact h2.at hm
theorem Sx.rd (h : Sx w b T k L D W) {A : Option Addr} {n cap : Nat} {l : List Int} {S : Nat → Prop} (hm : (⟨rdP A n cap l, S⟩ : Hl) ∈ D) : RdI W W.heap.size A n cap l := h.at hm
theorem Sx.set (h : Sx w b T k L D W) (j : Nat) (v : Value) : Sx w b T k L D (W.setCell ⟨b, j, none⟩ v) := by
  obtain ⟨cs, h1, h2⟩ := h
  exact ⟨cs.setIfInBounds j v, by simpa using h1, h2.upd (Upd.head _) (OnlyB.set W b j v) ((h2.blk List.mem_cons_self).set v)⟩
theorem Sx.raw (h : Sx w b T k L D W) : Raw W L := by obtain ⟨cs, h1, h2⟩ := h; exact h2.raw.2
theorem Sx.cell (h : Sx w b T k L D W) {j : Nat} (hj : j < k) : W.cell? ⟨b, j, none⟩ = some (cellD W ⟨b, j, none⟩) := by
  obtain ⟨cs, h1, h2⟩ := h
  refine cellD_iff.2 ?_
  rw [(h2.blk List.mem_cons_self).cell (Array.getElem?_eq_getElem (show j < cs.size by omega))]
  rfl
theorem Sx.thaw (h : Sx w b T k L D W) (j : Nat) : W.frozen? ⟨b, j, none⟩ = false := by
  obtain ⟨cs, h1, h2⟩ := h
  exact (h2.blk List.mem_cons_self).thaw
/-- what stores into that block leave of it -/
theorem Sx.same (h : Sx w b T k L D W) {j : Nat} (hj : j < k) (v : Value) : (W.setCell ⟨b, j, none⟩ v).cell? ⟨b, j, none⟩ = some v :=
  World.cell?_setCell_same' _ _ _ (cellD_iff.1 (h.cell hj))
theorem set_other {W : World} {b j i : Nat} {v u : Value} (hij : i ≠ j) (h : W.cell? ⟨b, j, none⟩ = some u) : (W.setCell ⟨b, i, none⟩ v).cell? ⟨b, j, none⟩ = some u := by
  rw [World.cell?_setCell_other _ _ _ _ (fun e => hij (Addr.mk.inj e).2.1)]; exact h
theorem Sx.set4 (h : Sx w b T 4 L D W) {u0 u1 u2 u3 : Value} :
    let W' := (((W.setCell ⟨b, 0, none⟩ u0).setCell ⟨b, 1, none⟩ u1).setCell ⟨b, 2, none⟩ u2).setCell ⟨b, 3, none⟩ u3
    Sx w b T 4 L D W' ∧ (W'.cell? ⟨b, 0, none⟩ = some u0 ∧ W'.cell? ⟨b, 1, none⟩ = some u1 ∧ W'.cell? ⟨b, 2, none⟩ = some u2 ∧ W'.cell? ⟨b, 3, none⟩ = some u3) := by
  intro W'
  have h1 := h.set 0 u0
  have h2 := h1.set 1 u1
  have h3 := h2.set 2 u2
  exact ⟨h3.set 3 u3, set_other (by omega) (set_other (by omega) (set_other (by omega) (h.same (by omega) u0))), set_other (by omega) (set_other (by omega) (h1.same (by omega) u1)), set_other (by omega) (h2.same (by omega) u2), h3.same (by omega) u3⟩
theorem Sx.set2 (h : Sx w b T 2 L D W) {u0 u1 : Value} :
    let W' := (W.setCell ⟨b, 0, none⟩ u0).setCell ⟨b, 1, none⟩ u1
    Sx w b T 2 L D W' ∧ (W'.cell? ⟨b, 0, none⟩ = some u0 ∧ W'.cell? ⟨b, 1, none⟩ = some u1) := by
  intro W'
  have h1 := h.set 0 u0
  exact ⟨h1.set 1 u1, set_other (by omega) (h.same (by omega) u0), h1.same (by omega) u1⟩
theorem Rd.setX {W : World} {A : Option Addr} {n cap : Nat} {l : List Int} {b j : Nat} {v : Value} (h : RdI W W.heap.size A n cap l) (hA : FrA (b + 1) A) : RdI (W.setCell ⟨b, j, none⟩ v) (W.setCell ⟨b, j, none⟩ v).heap.size A n cap l := by
  have hs : (W.setCell ⟨b, j, none⟩ v).heap.size = W.heap.size := by simp [World.setCell]
  rw [hs]
  refine ⟨h.1, h.2.1, h.2.2.1, fun hn => ?_⟩
  obtain ⟨b', off, rfl, hb, hc⟩ := h.2.2.2 hn
  refine ⟨b', off, rfl, hb, fun k hk' => ?_⟩
  obtain ⟨cs, hr, hl, hj⟩ := hc k hk'
  have hne := hA _ rfl
  exact ⟨cs, hr, hl, fun j u hu => by
    rw [World.cell?_setCell_far _ _ _ _ (fun e => by have e : b = b' := e; have hne : b + 1 ≤ b' := hne; omega)]; exact hj j u hu⟩
end
end Go.Proofs.YtkeajohkpmabcaaDoor
