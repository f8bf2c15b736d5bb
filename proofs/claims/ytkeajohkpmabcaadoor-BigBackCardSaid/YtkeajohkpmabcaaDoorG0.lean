/- Words for the cells that a function with boxed parameters and results keeps. Conditions stand in each theorem. -/
import Derived.Test.YtkeajohkpmabcaaDoorV1
import Derived.Deep.RegionHeld3
namespace Go.Proofs.YtkeajohkpmabcaaDoor
open Go.RowKit
set_option linter.unusedVariables false

theorem keep_cell {w1 w2 : World} {p : Addr} {v : Value} (hb : Below w1.heap.size w1 w2) (h : w1.cell? p = some v) : w2.cell? p = some v := (hb.cell (World.block_lt_of_cell? w1 _ h)).trans h
theorem keep_some {w1 w2 : World} {p : Addr} (hb : Below w1.heap.size w1 w2) (h : (w1.cell? p).isSome = true) : (w2.cell? p).isSome = true := by
  obtain ⟨u, hu⟩ := Option.isSome_iff_exists.1 h
  rw [keep_cell hb hu]; rfl
theorem keep_fr {w1 w2 : World} {p : Addr} (hb : Below w1.heap.size w1 w2) (h : (w1.cell? p).isSome = true) (hf : w1.frozen? p = false) : w2.frozen? p = false := by
  obtain ⟨u, hu⟩ := Option.isSome_iff_exists.1 h
  exact (hb.frozen (World.block_lt_of_cell? w1 _ hu)).trans hf
/-- what a cell holds -/
def cellD (W : World) (p : Addr) : Value := (W.cell? p).getD (.int .i64 0)
theorem cellD_iff {W : World} {p : Addr} : W.cell? p = some (cellD W p) ↔ (W.cell? p).isSome = true := by
  unfold cellD
  cases W.cell? p <;> simp
/-- nothing below has turned; cells that hold values; cells that can be stored into -/
def BxC (w : World) (g : Nat) (L : List (Nat × Nat × Value)) (R : List (Nat × Nat)) (W : World) : Prop :=
  Below w.heap.size w W ∧ (∀ p ∈ L, W.cell? ⟨g + p.1, p.2.1, none⟩ = some p.2.2) ∧ (∀ p ∈ R, W.cell? ⟨g + p.1, p.2, none⟩ = some (cellD W ⟨g + p.1, p.2, none⟩)) ∧ ∀ p ∈ R, W.frozen? ⟨g + p.1, p.2, none⟩ = false
section
variable {w W W' : World} {g : Nat} {L : List (Nat × Nat × Value)} {R : List (Nat × Nat)}
theorem BxC.keep (h : BxC w g L R W) (hb : Below W.heap.size W W') : BxC w g L R W' :=
  ⟨h.1.trans (hb.mono h.1.size), fun p hp => keep_cell hb (h.2.1 p hp), fun p hp => cellD_iff.2 (keep_some hb (cellD_iff.1 (h.2.2.1 p hp))), fun p hp => keep_fr hb (cellD_iff.1 (h.2.2.1 p hp)) (h.2.2.2 p hp)⟩
theorem BxC.drew (h : BxC w g L R W) : BxC w g L R W.drew := ⟨h.1.drew, h.2.1, h.2.2.1, h.2.2.2⟩
theorem BxC.drewN (h : BxC w g L R W) (n : Nat) : BxC w g L R (W.drewN n) := ⟨below_drewN h.1 n, h.2.1, h.2.2.1, h.2.2.2⟩
theorem BxC.set (hg : w.heap.size ≤ g) (h : BxC w g L R W) {b j : Nat} {v : Value} (hb : g ≤ b) (hL : ∀ p ∈ L, g + p.1 = b → p.2.1 ≠ j) : BxC w g L R (W.setCell ⟨b, j, none⟩ v) := by
  refine ⟨h.1.setCell (by show _ ≤ b; omega) _, fun p hp => ?_, fun p hp => ?_, fun p hp => by rw [World.frozen?_setCell]; exact h.2.2.2 p hp⟩
  · by_cases e : b = g + p.1
    · subst e
      rw [World.cell?_setCell_other _ _ _ _ (fun e => (hL p hp rfl) (by simpa using (Addr.mk.inj e).2.1.symm))]; exact h.2.1 p hp
    · rw [World.cell?_setCell_far _ _ _ _ e]; exact h.2.1 p hp
  · refine cellD_iff.2 ?_
    have h3 := fun p hp => cellD_iff.1 (h.2.2.1 p hp)
    by_cases e : b = g + p.1
    · subst e
      by_cases e2 : j = p.2
      · subst e2
        rw [World.cell?_setCell_same' _ _ _ (h3 p hp)]; rfl
      · rw [World.cell?_setCell_other _ _ _ _ (fun e => e2 (Addr.mk.inj e).2.1)]; exact h3 p hp
    · rw [World.cell?_setCell_far _ _ _ _ e]; exact h3 p hp
theorem BxC.lt (h : BxC w g L R W) {m j : Nat} (hm : (m, j) ∈ R) : g + m < W.heap.size := World.block_lt_of_cell? W _ (h.2.2.1 _ hm)
/-- two cells stored, one after the other -/
theorem BxC.set2 (hg : w.heap.size ≤ g) (h : BxC w g L R W) {b : Nat} {u v : Value} (hb : g ≤ b) (hL : ∀ p ∈ L, g + p.1 ≠ b) : BxC w g L R ((W.setCell ⟨b, 0, none⟩ u).setCell ⟨b, 1, none⟩ v) :=
  (h.set hg hb (fun p hp e => absurd e (hL p hp))).set hg hb (fun p hp e => absurd e (hL p hp))
end
/-- what two stores leave -/
theorem set2_cells {W : World} {b : Nat} {u v : Value} (h0 : W.cell? ⟨b, 0, none⟩ = some (cellD W ⟨b, 0, none⟩)) (h1 : W.cell? ⟨b, 1, none⟩ = some (cellD W ⟨b, 1, none⟩)) : ((W.setCell ⟨b, 0, none⟩ u).setCell ⟨b, 1, none⟩ v).cell? ⟨b, 0, none⟩ = some u ∧ ((W.setCell ⟨b, 0, none⟩ u).setCell ⟨b, 1, none⟩ v).cell? ⟨b, 1, none⟩ = some v := by
  have h0 := cellD_iff.1 h0
  have h1 := cellD_iff.1 h1
  refine ⟨?_, ?_⟩
  · rw [World.cell?_setCell_other _ _ _ _ (by simp)]; exact World.cell?_setCell_same' _ _ _ h0
  · exact World.cell?_setCell_same' _ _ _ (by rw [World.cell?_setCell_other _ _ _ _ (by simp)]; exact h1)
/-- what reads goes on reading behind stores into a block of the call's own -/
theorem Rd.set2 {W : World} {A : Option Addr} {n cap : Nat} {l : List Int} {b : Nat} {u v : Value} (h : RdI W W.heap.size A n cap l) (hA : ∀ a, A = some a → a.block ≠ b) : RdI ((W.setCell ⟨b, 0, none⟩ u).setCell ⟨b, 1, none⟩ v) ((W.setCell ⟨b, 0, none⟩ u).setCell ⟨b, 1, none⟩ v).heap.size A n cap l := by
  have hs : ((W.setCell ⟨b, 0, none⟩ u).setCell ⟨b, 1, none⟩ v).heap.size = W.heap.size := by simp [World.setCell]
  rw [hs]
  refine ⟨h.1, h.2.1, h.2.2.1, fun hn => ?_⟩
  obtain ⟨b', off, rfl, hb, hc⟩ := h.2.2.2 hn
  refine ⟨b', off, rfl, hb, fun k hk' => ?_⟩
  obtain ⟨cs, hr, hl, hj⟩ := hc k hk'
  have hne := hA _ rfl
  exact ⟨cs, hr, hl, fun j u hu => by
    rw [World.cell?_setCell_far _ _ _ _ (fun e => hne e.symm), World.cell?_setCell_far _ _ _ _ (fun e => hne e.symm)]; exact hj j u hu⟩
end Go.Proofs.YtkeajohkpmabcaaDoor
