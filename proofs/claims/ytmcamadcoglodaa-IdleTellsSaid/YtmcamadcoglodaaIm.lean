/- Words for memory: tables of ints, read as lists of lists. No condition. -/
import Derived.Test.YtmcamadcoglodaaProg
import Derived.Test.YtmcamadcoglodaaH3
import Derived.Test.YtmcamadcoglodaaKeep
import Derived.Test.YtmcamadcoglodaaGen
import Derived.Test.YtmcamadcoglodaaStep
import Derived.LoopTactic
import Derived.Deep.QuietTactic
import Derived.BigQuiet
import Derived.Deep.LoopGhost
import Derived.IntWalk
import Derived.Handy
import Derived.Shelf.Abstract
import Derived.Lib.MinMax
namespace Go.Proofs.Ytmcamadcoglodaa
open Go.RowKit
set_option linter.unusedVariables false

theorem below_drewN {B : Nat} {a w : World} (h : Below B a w) (n : Nat) : Below B a (w.drewN n) := ⟨h.os, h.tape, h.output, h.size, h.block⟩
theorem info_parts {o : Option TypeInfo} {z : Value} {s b : Nat} (h : o.map (fun i => (i.zero, i.size, i.bytes)) = some (some z, s, b)) : ∃ i, o = some i ∧ i.zero = some z ∧ i.size = s ∧ i.bytes = b := by
  cases o with
  | none => cases h
  | some i => simp at h; exact ⟨i, rfl, h.1, h.2.1, h.2.2⟩
theorem new_cell {w : World} {cs : Array Value} {T : TypeId} {H j : Nat} {u : Value} (hH : w.heap.size = H) (hu : cs[j]? = some u) : (w.alloc (.cells cs T)).cell? ⟨H, j, none⟩ = some u := by
  subst hH; simp [hu]
theorem Own.drewN {α : Type} {sz : Nat} {enc : α → List Value} {w : World} {base : Nat} {e : TypeId} {v : Value} {l : List α} (h : Own sz enc w base e v l) (n : Nat) : Own sz enc (w.drewN n) base e v l := h
theorem Rd.drewN {α : Type} {sz : Nat} {R : Enc α} {w : World} {B : Nat} {A : Option Addr} {n cap : Nat} {l : List α} (hR : Lasts R) (h : Rd sz R w B A n cap l) (k : Nat) : Rd sz R (w.drewN k) B A n cap l :=
  h.keep hR (Nat.le_refl _) fun _ _ => rfl
theorem ofF_more {α : Type} {n : Nat} {f : Nat → α} {x : α} : ofF n f ++ [x] = ofF (n + 1) (fun j => if j < n then f j else x) := by
  rw [ofF_succ, if_neg (Nat.lt_irrefl n), ofF_congr (g := f) (fun i hi => if_pos hi)]
theorem dr_more {w wr : World} (h : ∃ q, wr = w.drewN q) (r : Nat) : ∃ q, wr.drewN r = w.drewN q := by
  obtain ⟨q, rfl⟩ := h
  exact ⟨q + r, by rw [World.drewN_drewN]⟩
theorem dr_cell {w wr : World} (h : ∃ q, wr = w.drewN q) (a : Addr) : wr.cell? a = w.cell? a := by
  obtain ⟨q, rfl⟩ := h; rfl
theorem dr_rd {α : Type} {sz : Nat} {R : Enc α} {w wr : World} {B : Nat} {A : Option Addr} {n cap : Nat} {l : List α} (hR : Lasts R) (h : Rd sz R w B A n cap l) (hd : ∃ q, wr = w.drewN q) : Rd sz R wr B A n cap l := by
  obtain ⟨q, rfl⟩ := hd
  exact h.keep hR (Nat.le_refl _) fun _ _ => rfl
theorem dr_zero (w : World) : ∃ q, w = w.drewN q := ⟨0, rfl⟩
theorem Rd.litG {α : Type} {sz : Nat} {enc : α → List Value} (hs : Sized sz enc) {w : World} (e : TypeId) (l : List α) (cs : Array Value) (n H : Nat) (hH : w.heap.size = H) (hcs : cs = (l.flatMap enc).toArray) (hn : l.length = n) (hm : n ≤ 140737488351232) : Rd sz (flat enc) (w.alloc (.cells cs e)) (w.alloc (.cells cs e)).heap.size (some ⟨H, 0, none⟩) n n l := by
  subst hH
  obtain ⟨A, c, h1, h2⟩ := (Own.lit (e := e) hs (Nat.le_refl w.heap.size) l cs hcs hn hm).rd hs (by rw [hn]; exact hm)
  injection h1 with h1 h3 h4
  subst h1 h4
  rw [hn] at h2
  exact h2
theorem mul_bd2 {a b A B : Int} (h1 : 0 ≤ a) (h2 : a ≤ A) (h3 : 0 ≤ b) (h4 : b ≤ B) : 0 ≤ a * b ∧ a * b ≤ A * B :=
  ⟨Int.mul_nonneg h1 h3, Int.mul_le_mul h2 h4 h3 (by omega)⟩
abbrev RdII := Rd 1 (slE 1 (flat iEnc))
theorem ii_lasts : Lasts (slE 1 (flat iEnc)) := slE_lasts (flat_lasts _)
theorem Rd.atII {w : World} {B : Nat} {A : Option Addr} {n cap : Nat} {l : List (List Int)} (h : RdII w B A n cap l) {k : Nat} (hk : k < n) :
    ∃ b off A' n' cap' x, A = some ⟨b, off, none⟩ ∧ b < B ∧ l[k]? = some x ∧ w.cell? ⟨b, off + k, none⟩ = some (.slice A' n' cap') ∧ RdI w B A' n' cap' x := by
  obtain ⟨b, off, rfl, hb, hc⟩ := h.2.2.2 (by omega)
  have hl := h.1
  obtain ⟨cs, ⟨A', n', cap', rfl, hr⟩, _, hj⟩ := hc k (by omega)
  exact ⟨b, off, A', n', cap', l[k], rfl, hb, List.getElem?_eq_getElem (by omega), by simpa using hj 0 _ rfl, hr⟩
/-- an element of a list, and a row of a table -/
def gi (l : List Int) (k : Nat) : Int := l.getD k 0
theorem gi_eq {l : List Int} {k : Nat} {x : Int} (h : l[k]? = some x) : gi l k = x := by simp [gi, List.getD, h]
def clAt (cl : List (List Int)) (k : Nat) : List Int := cl.getD k []
theorem clAt_eq {cl : List (List Int)} {k : Nat} {l : List Int} (h : cl[k]? = some l) : clAt cl k = l := by simp [clAt, List.getD, h]
def tb (cl : List (List Int)) (r k : Nat) : Int := gi (clAt cl r) k
def fs (D : Nat → Nat → Int) (i k : Nat) (x : Int) : Nat → Nat → Int := fun a b => if a = i ∧ b = k then x else D a b
theorem fs_same (D : Nat → Nat → Int) (i k : Nat) (x : Int) : fs D i k x i k = x := by simp [fs]
theorem fs_other (D : Nat → Nat → Int) (i k : Nat) (x : Int) {a b : Nat} (h : ¬ (a = i ∧ b = k)) : fs D i k x a b = D a b := by simp [fs, h]
def inB (lo hi x : Int) : Bool := decide (lo ≤ x) && decide (x ≤ hi)
/-- the columns of a table -/
def wid (cl : List (List Int)) : Nat := (clAt cl 0).length
def rowC (cl : List (List Int)) (i : Nat) : Bool := decide ((clAt cl i).length = wid cl) && (clAt cl i).all (inB 0 1000000000)
/-- what Right says -/
def rightC (cl : List (List Int)) : Bool := decide (1 ≤ cl.length ∧ cl.length ≤ 20) && (decide (cl.length ≤ wid cl ∧ wid cl ≤ 40) && (List.range cl.length).all (rowC cl))
def fewC (cl : List (List Int)) : Bool := (cl.take 5).all (fun l => decide (l.length ≤ 6)) && decide (cl.length ≤ 4)
theorem int_info : (Try.prog.info? 3).map (fun i => (i.zero, i.size, i.bytes)) = some (some (.int .i64 0), 1, 8) := by kernel_rfl
theorem slices_info : (Try.prog.info? 23).map (fun i => (i.zero, i.size, i.bytes)) = some (some (.slice none 0 0), 1, 24) := by kernel_rfl
end Go.Proofs.Ytmcamadcoglodaa
