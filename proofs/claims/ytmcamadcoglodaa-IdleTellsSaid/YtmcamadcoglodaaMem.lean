/- Words for memory: a slice value that reads as a list of data, for any element type; kept over all that the call itself makes. No condition. -/
import Derived.WalkKit
import Derived.Laws.OwnMore
import Derived.Deep.Draws
import Derived.Deep.AppendLies
import Derived.Lib.Hide
namespace Go.Proofs.Ytmcamadcoglodaa
open Go.RowKit

/-- what stands in the cells of one element -/
abbrev Enc (α : Type) := World → Nat → α → List Value → Prop

/-- a slice value of n elements of sz cells each, that reads as the list l, below block B -/
def Rd {α : Type} (sz : Nat) (R : Enc α) (w : World) (B : Nat) (A : Option Addr) (n cap : Nat) (l : List α) : Prop :=
  l.length = n ∧ n ≤ cap ∧ (cap ≤ 9223372036854775807 ∧ n ≤ 140737488351232) ∧ (0 < n → ∃ b off, A = some ⟨b, off, none⟩ ∧ b < B ∧
    ∀ k (h : k < l.length), ∃ cs, R w B l[k] cs ∧ cs.length = sz ∧ ∀ j u, cs[j]? = some u → w.cell? ⟨b, off + k * sz + j, none⟩ = some u)

/-- the elements' reading lasts -/
def Lasts {α : Type} (R : Enc α) : Prop := ∀ w w' B B' x cs, R w B x cs → B ≤ B' → (∀ p : Addr, p.block < B → w'.cell? p = w.cell? p) → R w' B' x cs

def flat {α : Type} (enc : α → List Value) : Enc α := fun _ _ x cs => cs = enc x
theorem flat_lasts {α : Type} (enc : α → List Value) : Lasts (flat enc) := fun _ _ _ _ _ _ h _ _ => h

section
variable {α : Type} {sz : Nat} {R : Enc α} {w w' : World} {B B' C : Nat} {A : Option Addr} {n cap : Nat} {l : List α}
theorem Rd.keep (hR : Lasts R) (h : Rd sz R w B A n cap l) (hB : B ≤ B') (hk : ∀ p : Addr, p.block < B → w'.cell? p = w.cell? p) : Rd sz R w' B' A n cap l := by
  refine ⟨h.1, h.2.1, h.2.2.1, fun hn => ?_⟩
  obtain ⟨b, off, rfl, hb, hc⟩ := h.2.2.2 hn
  refine ⟨b, off, rfl, by omega, fun k hk' => ?_⟩
  obtain ⟨cs, hr, hl, hj⟩ := hc k hk'
  exact ⟨cs, hR _ _ _ _ _ _ hr hB hk, hl, fun j u hu => (hk _ hb).trans (hj j u hu)⟩

theorem Rd.below (hR : Lasts R) (h : Rd sz R w B A n cap l) (hb : Below C w w') (hC : B ≤ C) (hB : B ≤ B') : Rd sz R w' B' A n cap l :=
  h.keep hR hB fun _ hp => hb.cell (by omega)

/-- the usual case: what reads in w reads in whatever w has become -/
theorem Rd.up (hR : Lasts R) (h : Rd sz R w w.heap.size A n cap l) (hb : Below w.heap.size w w') : Rd sz R w' w'.heap.size A n cap l :=
  h.below hR hb (Nat.le_refl _) hb.size

theorem Rd.nil : Rd sz R w B none 0 0 ([] : List α) := ⟨rfl, by omega, ⟨by omega, by omega⟩, fun h => absurd h (by omega)⟩
theorem Rd.len (h : Rd sz R w B A n cap l) : l.length = n := h.1
theorem Rd.caps (h : Rd sz R w B A n cap l) : n ≤ cap ∧ cap ≤ 9223372036854775807 ∧ n ≤ 140737488351232 := ⟨h.2.1, h.2.2.1⟩
theorem Rd.take (h : Rd sz R w B A n cap l) {k : Nat} (hk : k ≤ n) : Rd sz R w B A k cap (l.take k) := by
  refine ⟨by rw [List.length_take, h.1]; omega, by have := h.2.1; omega, ⟨h.2.2.1.1, by have := h.2.2.1; omega⟩, fun hn => ?_⟩
  obtain ⟨b, off, rfl, hb, hc⟩ := h.2.2.2 (by omega)
  refine ⟨b, off, rfl, hb, fun j hj => ?_⟩
  simp only [List.length_take] at hj
  obtain ⟨cs, hr, hl, hj'⟩ := hc j (by omega)
  exact ⟨cs, by rw [List.getElem_take]; exact hr, hl, hj'⟩
end

/-- ints -/
def iEnc : Int → List Value := fun x => [.int .i64 x]
abbrev RdI := Rd 1 (flat iEnc)
theorem Rd.atI {w : World} {B : Nat} {A : Option Addr} {n cap : Nat} {l : List Int} (h : RdI w B A n cap l) {k : Nat} (hk : k < n) :
    ∃ b off x, A = some ⟨b, off, none⟩ ∧ b < B ∧ l[k]? = some x ∧ w.cell? ⟨b, off + k, none⟩ = some (.int .i64 x) := by
  obtain ⟨b, off, rfl, hb, hc⟩ := h.2.2.2 (by omega)
  have hl := h.1
  obtain ⟨cs, rfl, hl, hj⟩ := hc k (by omega)
  exact ⟨b, off, l[k], rfl, hb, List.getElem?_eq_getElem (by omega), by simpa [iEnc] using hj 0 _ rfl⟩

/-- pairs of ints -/
def pEnc : Int × Int → List Value := fun x => [.int .i64 x.1, .int .i64 x.2]
abbrev RdP := Rd 2 (flat pEnc)
theorem Rd.atP {w : World} {B : Nat} {A : Option Addr} {n cap : Nat} {l : List (Int × Int)} (h : RdP w B A n cap l) {k : Nat} (hk : k < n) :
    ∃ b off x y, A = some ⟨b, off, none⟩ ∧ b < B ∧ l[k]? = some (x, y) ∧ w.cell? ⟨b, off + k * 2, none⟩ = some (.int .i64 x) ∧ w.cell? ⟨b, off + k * 2 + 1, none⟩ = some (.int .i64 y) := by
  obtain ⟨b, off, rfl, hb, hc⟩ := h.2.2.2 (by omega)
  have hl := h.1
  obtain ⟨cs, rfl, hl, hj⟩ := hc k (by omega)
  exact ⟨b, off, l[k].1, l[k].2, rfl, hb, List.getElem?_eq_getElem (by omega), by simpa [pEnc] using hj 0 _ rfl, by simpa [pEnc] using hj 1 _ rfl⟩
end Go.Proofs.Ytmcamadcoglodaa
