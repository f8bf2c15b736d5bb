/- Words for memory: what stays where some blocks turn. No condition. -/
import Derived.Test.YtmcamadcoglodaaApp
import Derived.Test.YtmcamadcoglodaaStep
namespace Go.Proofs.Ytmcamadcoglodaa
open Go.RowKit
set_option linter.unusedVariables false

theorem grown_set (w : World) (g j : Nat) (u : Value) : w.grownBy (w.setCell ⟨g, j, none⟩ u) (some g) :=
  ⟨rfl, rfl, rfl, by simp [World.setCell], fun i _ hne => Below.heap_setCell w ⟨g, j, none⟩ u i (fun e => hne (by rw [e]))⟩
/-- nothing old has turned but the blocks of S -/
structure Kept (S : Nat → Prop) (w w' : World) : Prop where
  os : w'.os = w.os
  tape : w'.tape = w.tape
  output : w'.output = w.output
  size : w.heap.size ≤ w'.heap.size
  block : ∀ i, i < w.heap.size → ¬ S i → w'.heap[i]? = w.heap[i]?
section
variable {S T : Nat → Prop} {w w' w'' : World}
theorem Kept.refl (S : Nat → Prop) (w : World) : Kept S w w := ⟨rfl, rfl, rfl, Nat.le_refl _, fun _ _ _ => rfl⟩
theorem Kept.trans (h : Kept S w w') (k : Kept T w' w'') (hT : ∀ i, i < w.heap.size → T i → S i) : Kept S w w'' :=
  ⟨k.os.trans h.os, k.tape.trans h.tape, k.output.trans h.output, Nat.le_trans h.size k.size, fun i hi hs => (k.block i (Nat.lt_of_lt_of_le hi h.size) (fun ht => hs (hT i hi ht))).trans (h.block i hi hs)⟩
theorem Kept.mono (h : Kept S w w') (hT : ∀ i, i < w.heap.size → S i → T i) : Kept T w w' := ⟨h.os, h.tape, h.output, h.size, fun i hi ht => h.block i hi (fun hs => ht (hT i hi hs))⟩
theorem below_kept {C : Nat} (h : Below C w w') : Kept (fun i => C ≤ i) w w' := ⟨h.os, h.tape, h.output, h.size, fun i hi hs => h.block i (by omega)⟩
theorem below_keptAll (h : Below w.heap.size w w') : Kept (fun _ => False) w w' := ⟨h.os, h.tape, h.output, h.size, fun i hi _ => h.block i hi⟩
theorem Kept.below {C : Nat} (h : Kept S w w') (hC : C ≤ w.heap.size) (hS : ∀ i, S i → C ≤ i) : Below C w w' := ⟨h.os, h.tape, h.output, h.size, fun i hi => h.block i (by omega) (fun hs => by have := hS i hs; omega)⟩
theorem grown_kept {o : Option Nat} (h : w.grownBy w' o) : Kept (fun i => o = some i) w w' := ⟨h.os, h.tape, h.output, h.size, fun i hi hs => h.block i hi (fun e => hs e.symm)⟩
theorem Kept.drewN (h : Kept S w w') (n : Nat) : Kept S w (w'.drewN n) := ⟨h.os, h.tape, h.output, h.size, h.block⟩
theorem Kept.drew (h : Kept S w w') : Kept S w w'.drew := ⟨h.os, h.tape, h.output, h.size, h.block⟩
theorem Kept.setCell (h : Kept S w w') {b o : Nat} (v : Value) (hb : S b ∨ w.heap.size ≤ b) : Kept S w (w'.setCell ⟨b, o, none⟩ v) := by
  have hg := grown_set w' b o v
  exact h.trans (grown_kept hg) (fun i hi e => by
    injection e with e; subst e
    rcases hb with hb | hb
    · exact hb
    · omega)
theorem Kept.alloc (h : Kept S w w') (o : Obj) : Kept S w (w'.alloc o) :=
  h.trans (below_keptAll ((Below.refl w'.heap.size w').alloc (Nat.le_refl _) o)) (fun _ _ h => False.elim h)
theorem Kept.cell (h : Kept S w w') {p : Addr} (hp : p.block < w.heap.size) (hs : ¬ S p.block) : w'.cell? p = w.cell? p := by
  have := h.block p.block hp hs
  unfold World.cell?
  rw [this]
theorem Kept.frozen (h : Kept S w w') {p : Addr} (hp : p.block < w.heap.size) (hs : ¬ S p.block) : w'.frozen? p = w.frozen? p := by
  have := h.block p.block hp hs
  unfold World.frozen?
  rw [this]
variable {α : Type} {sz : Nat} {enc : α → List Value} {base : Nat} {e : TypeId} {v : Value} {l : List α}
theorem Own.keptS (h : Own sz enc w base e v l) (hk : Kept S w w') (hv : ∀ g, v.ownBlock = some g → ¬ S g) : Own sz enc w' base e v l := by
  refine ⟨h.1, ?_⟩
  rcases h.2 with h0 | ⟨g, cap, cur, rfl, hg, hh, h2⟩
  · exact .inl h0
  · exact .inr ⟨g, cap, cur, rfl, hg, (hk.block g (Array.getElem?_eq_some_iff.1 hh).1 (hv g rfl)).trans hh, h2⟩
theorem Rd.keptS {B B' : Nat} {A : Option Addr} {n cap : Nat} (h : Rd sz (flat enc) w B A n cap l) (hk : Kept S w w') (hB : B ≤ w.heap.size) (hB' : B ≤ B') (hA : 0 < n → ∀ b off, A = some ⟨b, off, none⟩ → ¬ S b) : Rd sz (flat enc) w' B' A n cap l := by
  refine ⟨h.1, h.2.1, h.2.2.1, fun hn => ?_⟩
  obtain ⟨b, off, rfl, hb, hc⟩ := h.2.2.2 hn
  refine ⟨b, off, rfl, by omega, fun k hk' => ?_⟩
  obtain ⟨cs, hr, hl, hj⟩ := hc k hk'
  exact ⟨cs, hr, hl, fun j u hu => (hk.cell (p := ⟨b, off + k * sz + j, none⟩) (by show b < _; omega) (hA hn b off rfl)).trans (hj j u hu)⟩
end
end Go.Proofs.Ytmcamadcoglodaa
