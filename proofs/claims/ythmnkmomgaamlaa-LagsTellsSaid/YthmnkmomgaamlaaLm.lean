/- Words for memory: slices of lags and of steps, read as lists. No condition. -/
import Derived.Test.YthmnkmomgaamlaaProg
import Derived.Test.YthmnkmomgaamlaaG2
import Derived.Test.YthmnkmomgaamlaaKeep
import Derived.Test.YthmnkmomgaamlaaStep
import Derived.LoopTactic
import Derived.Deep.QuietTactic
import Derived.BigQuiet
import Derived.Deep.LoopGhost
import Derived.IntWalk
import Derived.Handy
import Derived.Shelf.Abstract
import Derived.Lib.MinMax
namespace Go.Proofs.Ythmnkmomgaamlaa
open Go.RowKit
set_option linter.unusedVariables false

theorem below_drewN {B : Nat} {a w : World} (h : Below B a w) (n : Nat) : Below B a (w.drewN n) := ⟨h.os, h.tape, h.output, h.size, h.block⟩
theorem info_parts {o : Option TypeInfo} {z : Value} {s b : Nat} (h : o.map (fun i => (i.zero, i.size, i.bytes)) = some (some z, s, b)) : ∃ i, o = some i ∧ i.zero = some z ∧ i.size = s ∧ i.bytes = b := by
  cases o with
  | none => cases h
  | some i => simp at h; exact ⟨i, rfl, h.1, h.2.1, h.2.2⟩
theorem new_cell {w : World} {cs : Array Value} {T : TypeId} {H j : Nat} {u : Value} (hH : w.heap.size = H) (hu : cs[j]? = some u) : (w.alloc (.cells cs T)).cell? ⟨H, j, none⟩ = some u := by
  subst hH; simp [hu]
theorem Own.drewN {α : Type} {sz : Nat} {enc : α → List Value} {w : World} {base : Nat} {e : TypeId} {v : Value} {l : List α} (h : Own sz enc w base e v l) (n : Nat) : Own sz enc (w.drewN n) base e v l := h
theorem Rd.drewN {α : Type} {sz : Nat} {R : Enc α} {w : World} {B : Nat} {A : Option Addr} {n cap : Nat} {l : List α} (hR : Lasts R) (h : Rd sz R w B A n cap l) (k : Nat) : Rd sz R (w.drewN k) B A n cap l :=
  h.keep hR (Nat.le_refl _) fun _ _ => rfl
theorem ofF_more {α : Type} {n : Nat} {f : Nat → α} {x : α} : ofF n f ++ [x] = ofF (n + 1) (fun j => if j < n then f j else x) := by
  rw [ofF_succ, if_neg (Nat.lt_irrefl n), ofF_congr (g := f) (fun i hi => if_pos hi)]
theorem dr_more {w wr : World} (h : ∃ q, wr = w.drewN q) (r : Nat) : ∃ q, wr.drewN r = w.drewN q := by
  obtain ⟨q, rfl⟩ := h
  exact ⟨q + r, by rw [World.drewN_drewN]⟩
theorem dr_cell {w wr : World} (h : ∃ q, wr = w.drewN q) (a : Addr) : wr.cell? a = w.cell? a := by
  obtain ⟨q, rfl⟩ := h; rfl
theorem dr_rd {α : Type} {sz : Nat} {R : Enc α} {w wr : World} {B : Nat} {A : Option Addr} {n cap : Nat} {l : List α} (hR : Lasts R) (h : Rd sz R w B A n cap l) (hd : ∃ q, wr = w.drewN q) : Rd sz R wr B A n cap l := by
  obtain ⟨q, rfl⟩ := hd
  exact h.keep hR (Nat.le_refl _) fun _ _ => rfl
theorem dr_zero (w : World) : ∃ q, w = w.drewN q := ⟨0, rfl⟩
theorem Rd.litG {α : Type} {sz : Nat} {enc : α → List Value} (hs : Sized sz enc) {w : World} (e : TypeId) (l : List α) (cs : Array Value) (n H : Nat) (hH : w.heap.size = H) (hcs : cs = (l.flatMap enc).toArray) (hn : l.length = n) (hm : n ≤ 140737488351232) : Rd sz (flat enc) (w.alloc (.cells cs e)) (w.alloc (.cells cs e)).heap.size (some ⟨H, 0, none⟩) n n l := by
  subst hH
  obtain ⟨A, c, h1, h2⟩ := (Own.lit (e := e) hs (Nat.le_refl w.heap.size) l cs hcs hn hm).rd hs (by rw [hn]; exact hm)
  injection h1 with h1 h3 h4
  subst h1 h4
  rw [hn] at h2
  exact h2
theorem mul_bd2 {a b A B : Int} (h1 : 0 ≤ a) (h2 : a ≤ A) (h3 : 0 ≤ b) (h4 : b ≤ B) : 0 ≤ a * b ∧ a * b ≤ A * B :=
  ⟨Int.mul_nonneg h1 h3, Int.mul_le_mul h2 h4 h3 (by omega)⟩
def lEnc : Lg → List Value := fun x => [.int .i64 x.1, .int .i64 x.2.1, .int .i64 x.2.2.1, .int .i64 x.2.2.2]
abbrev RdL := Rd 4 (flat lEnc)
def tEnc : St → List Value := fun x => [.int .i64 x.1, .int .i64 x.2.1, .int .i64 x.2.2]
abbrev RdT := Rd 3 (flat tEnc)
theorem lSized : Sized 4 lEnc := ⟨by omega, fun x => ⟨rfl, by intro u hu; simp [lEnc] at hu; rcases hu with rfl | rfl | rfl | rfl <;> rfl⟩⟩
theorem tSized : Sized 3 tEnc := ⟨by omega, fun x => ⟨rfl, by intro u hu; simp [tEnc] at hu; rcases hu with rfl | rfl | rfl <;> rfl⟩⟩
theorem Rd.atL {w : World} {B : Nat} {A : Option Addr} {n cap : Nat} {l : List Lg} (h : RdL w B A n cap l) {k : Nat} (hk : k < n) :
    ∃ b off x y z u, A = some ⟨b, off, none⟩ ∧ b < B ∧ l[k]? = some (x, y, z, u) ∧ w.cell? ⟨b, off + k * 4, none⟩ = some (.int .i64 x) ∧ w.cell? ⟨b, off + k * 4 + 1, none⟩ = some (.int .i64 y) ∧ w.cell? ⟨b, off + k * 4 + 2, none⟩ = some (.int .i64 z) ∧ w.cell? ⟨b, off + k * 4 + 3, none⟩ = some (.int .i64 u) := by
  obtain ⟨b, off, rfl, hb, hc⟩ := h.2.2.2 (by omega)
  have hl := h.1
  obtain ⟨cs, rfl, hl, hj⟩ := hc k (by omega)
  exact ⟨b, off, l[k].1, l[k].2.1, l[k].2.2.1, l[k].2.2.2, rfl, hb, List.getElem?_eq_getElem (by omega), by simpa [lEnc] using hj 0 _ rfl, by simpa [lEnc] using hj 1 _ rfl, by simpa [lEnc] using hj 2 _ rfl, by simpa [lEnc] using hj 3 _ rfl⟩
theorem Rd.atT {w : World} {B : Nat} {A : Option Addr} {n cap : Nat} {l : List St} (h : RdT w B A n cap l) {k : Nat} (hk : k < n) :
    ∃ b off x y z, A = some ⟨b, off, none⟩ ∧ b < B ∧ l[k]? = some (x, y, z) ∧ w.cell? ⟨b, off + k * 3, none⟩ = some (.int .i64 x) ∧ w.cell? ⟨b, off + k * 3 + 1, none⟩ = some (.int .i64 y) ∧ w.cell? ⟨b, off + k * 3 + 2, none⟩ = some (.int .i64 z) := by
  obtain ⟨b, off, rfl, hb, hc⟩ := h.2.2.2 (by omega)
  have hl := h.1
  obtain ⟨cs, rfl, hl, hj⟩ := hc k (by omega)
  exact ⟨b, off, l[k].1, l[k].2.1, l[k].2.2, rfl, hb, List.getElem?_eq_getElem (by omega), by simpa [tEnc] using hj 0 _ rfl, by simpa [tEnc] using hj 1 _ rfl, by simpa [tEnc] using hj 2 _ rfl⟩
theorem int_info : (Try.prog.info? 3).map (fun i => (i.zero, i.size, i.bytes)) = some (some (.int .i64 0), 1, 8) := by kernel_rfl
theorem step_info : (Try.prog.info? 35).map (fun i => (i.zero, i.size, i.bytes)) = some (some (.agg #[.int .i64 0, .int .i64 0, .int .i64 0]), 3, 24) := by kernel_rfl
theorem rstep_info : (Try.prog.info? 34).map (fun i => (i.zero, i.size, i.bytes)) = some (some (.agg #[.int .i64 0, .int .i64 0, .int .i64 0]), 3, 24) := by kernel_rfl
theorem slices_info : (Try.prog.info? 23).map (fun i => (i.zero, i.size, i.bytes)) = some (some (.slice none 0 0), 1, 24) := by kernel_rfl
end Go.Proofs.Ythmnkmomgaamlaa
