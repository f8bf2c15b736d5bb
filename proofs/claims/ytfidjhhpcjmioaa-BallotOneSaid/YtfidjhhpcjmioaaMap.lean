/- A set of ints kept as map[int]bool that the call itself makes: what a look-up gives, and what a store of true leaves. No condition. -/
import Derived.Maps.Own
import Derived.Maps.Views
import Derived.WalkKit
namespace Go.Proofs.Ytfidjhhpcjmioaa
open Go.RowKit Go.Maps

/-- the datum of the set -/
def setD : List Int → DataW Unit
  | [] => .map []
  | x :: xs => (setD xs).put (.int .i64 x) (.lit (.bool true))
theorem setD_isMap : ∀ xs : List Int, IsMap (setD xs)
  | [] => isMap_empty
  | _ :: xs => (setD_isMap xs).put _ _
theorem setD_atKey (y : Int) : ∀ xs : List Int, (setD xs).atKey (.int .i64 y) (.lit (.bool false)) = .lit (.bool (decide (y ∈ xs)))
  | [] => by simp [setD, DataW.atKey]
  | x :: xs => by
    rw [setD]
    by_cases h : y = x
    · subst h
      rw [atKey_put_same (setD_isMap xs) (by trivial)]
      simp
    · rw [atKey_put_other (by simpa using h), setD_atKey y xs]
      simp [h]

/-- block b of w is a map that holds true at the keys xs -/
def SeenMap (P : Program) (k e : TypeId) (w : World) (b : Nat) (n : Nat) (xs : List Int) : Prop := w.ownsMap P k (plainElem P e) b n (setD xs)

theorem SeenMap.look {P : Program} {k e t : TypeId} {w : World} {b n : Nat} {xs : List Int} (h : SeenMap P k e w b n xs) (ht : P.underlying t = some (.map k e)) (hk : P.underlying k = some (.int .i64)) (he : P.underlying e = some .bool)
    (hz : ∀ w, (zeroValue e).run P w = .ok (.bool false) w) (x : Int) (hx : (Lit.int .i64 x).wf = true) : (Instr.lookup t (.map (some b)) (.int .i64 x) false).run P w = .ok (.bool (decide (x ∈ xs))) w := by
  obtain ⟨v, ps, hr, hv⟩ := World.ownsMap.lookup h (int_keyed hk) ht (hz w) (plainElem_bool he false) (keyOf_int_mk hk hx)
  rw [hr]
  rw [setD_atKey] at hv
  unfold plainElem at hv
  rw [he] at hv
  cases v <;> simp at hv
  rw [hv.1]
theorem SeenMap.made (P : Program) (k e : TypeId) (w : World) : SeenMap P k e (w.alloc (.map #[] 0)) w.heap.size 0 [] := World.ownsMap_made w P k _
theorem SeenMap.alloc {P : Program} {k e : TypeId} {w : World} {b n : Nat} {xs : List Int} (h : SeenMap P k e w b n xs) (o : Obj) : SeenMap P k e (w.alloc o) b n xs := World.ownsMap.alloc h o
theorem SeenMap.drew {P : Program} {k e : TypeId} {w : World} {b n : Nat} {xs : List Int} (h : SeenMap P k e w b n xs) : SeenMap P k e w.drew b n xs := World.ownsMap.drew h
theorem SeenMap.lt {P : Program} {k e : TypeId} {w : World} {b n : Nat} {xs : List Int} (h : SeenMap P k e w b n xs) : b < w.heap.size := World.ownsMap.lt h
theorem SeenMap.below {P : Program} {k e : TypeId} {w w' : World} {b n C : Nat} {xs : List Int} (h : SeenMap P k e w b n xs) (hb : Below C w w') (hC : b < C) : SeenMap P k e w' b n xs := by
  obtain ⟨es, clock, h1, h2⟩ := h
  exact ⟨es, clock, (hb.block b hC).trans h1, h2⟩
theorem SeenMap.store {P : Program} {k e t : TypeId} {w : World} {b n : Nat} {xs : List Int} (h : SeenMap P k e w b n xs) (ht : P.underlying t = some (.map k e)) (hk : P.underlying k = some (.int .i64)) (he : P.underlying e = some .bool)
    (hn : n < maxLen) (x : Int) (hx : (Lit.int .i64 x).wf = true) : ∃ w', (Instr.mapUpdate t (.map (some b)) (.int .i64 x) (.bool true)).run P w = .ok () w' ∧ SeenMap P k e w' b (n + 1) (x :: xs) ∧ w.grownBy w' (some b) :=
  World.ownsMap.update h (int_keyed hk) ht hn (keyOf_int_mk hk hx) (plainElem_bool he true)
end Go.Proofs.Ytfidjhhpcjmioaa
