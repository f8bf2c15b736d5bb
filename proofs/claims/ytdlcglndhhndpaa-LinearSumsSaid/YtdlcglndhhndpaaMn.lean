/- Words for rows that a call makes. Conditions stand in each theorem. -/
import Derived.Test.YtdlcglndhhndpaaMh
import Derived.Test.YtdlcglndhhndpaaLE
namespace Go.Proofs.Ytdlcglndhhndpaa
open Go.RowKit
set_option linter.unusedVariables false
set_option linter.unusedSimpArgs false

/-- a row that leans on blocks which came between two worlds -/
def Rr.onK (x : Rr) (w w' : World) : Prop := ∀ W : World, w'.heap.size ≤ W.heap.size → (∀ b, w.heap.size ≤ b → b < w'.heap.size → W.heap[b]? = w'.heap[b]?) → x.on W
theorem FrK.row {w W : World} {L : List Blk} {D : List Hl} {A : Option Addr} {n c : Nat} {a : List Fv} {y : Rw} (h : FrK w W A n c a) (K : St w L D W) (m2 : (⟨rdP y.A y.n y.c y.l, rdS y.A y.n⟩ : Hl) ∈ D) (m3 : (⟨rdP y.B y.m y.d y.k, rdS y.B y.m⟩ : Hl) ∈ D) (f2 : FrA w.heap.size y.A) (f3 : FrA w.heap.size y.B) : (⟨A, n, c, a, y⟩ : Rr).onK w W := fun W' h1 h2 =>
  ⟨h W' h1 h2, (K.2.2.2 _ m2).2.2 W' h1 (fun b hS => h2 b (by obtain ⟨-, a, e1, e2⟩ := hS; rw [← e2]; exact f2 a e1) ((K.2.2.2 _ m2).2.1 b hS).1), (K.2.2.2 _ m3).2.2 W' h1 (fun b hS => h2 b (by obtain ⟨-, a, e1, e2⟩ := hS; rw [← e2]; exact f3 a e1) ((K.2.2.2 _ m3).2.1 b hS).1)⟩
/-- .. goes on being read -/
theorem St.addX {w W W' : World} {L : List Blk} {D : List Hl} (K : St w L D W) (hb : Below W.heap.size W W') {x : Rr} (h : x.onK W W') : St w L (⟨x.on, betS W W'⟩ :: D) W' :=
  (K.keep hb).add ⟨h W' (Nat.le_refl _) (fun _ _ _ => rfl), fun b hS => ⟨hS.2, fun p hp e => by
    have h1 := (K.2.1 p hp).2.lt
    have h2 := hS.1
    omega⟩, fun W'' h1 h2 => h W'' h1 (fun b h3 h4 => h2 b ⟨h3, h4⟩)⟩
/-- a row, and a truth, that a call returns -/
def RowT (w : World) (a : List Fv) (b : Fv) (e : Ending) (w' : World) : Prop :=
  ∃ x : Rr, e = .returned (.tuple #[.agg #[.slice x.A x.n x.c, .int .i64 x.y.s, .slice x.y.A x.y.n x.y.c, .int .i64 x.y.t, .slice x.y.B x.y.m x.y.d], .bool true]) ∧ x.n = a.length ∧ x.onK w w' ∧ x.rv = ⟨a, b⟩ ∧ Below w.heap.size w w'
theorem mulO1_yes {x y : Rat} (h : mulK x y = true) : mulO1 x y = some (x * y) := by unfold mulO1; rw [if_pos h]
theorem mulE1_yes {x y : Rat} (h : mulK x y = true) : mulE1 x y = 0 := by unfold mulE1; rw [if_pos h]
end Go.Proofs.Ytdlcglndhhndpaa
