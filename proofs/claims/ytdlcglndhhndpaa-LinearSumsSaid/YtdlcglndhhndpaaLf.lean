/- Words for slices of fractions that a call reads. Conditions stand in each theorem. -/
import Derived.Test.YtdlcglndhhndpaaD
namespace Go.Proofs.Ytdlcglndhhndpaa
open Go.RowKit
set_option linter.unusedVariables false
set_option linter.unusedSimpArgs false

/-- a fraction as its two signs and digits, right or not -/
structure Fv where
  s : Int
  l : List Int
  t : Int
  m : List Int
def Fv.ok (x : Fv) : Bool := rightF x.s x.l x.t x.m
def Fv.rat (x : Fv) : Rat := ratF x.s x.l x.t x.m
/-- its four cells -/
def fE : Enc Fv := fun w B x cs => ∃ A n c A' n' c', cs = [.int .i64 x.s, .slice A n c, .int .i64 x.t, .slice A' n' c'] ∧ RdI w B A n c x.l ∧ RdI w B A' n' c' x.m
theorem fE_lasts : Lasts fE := fun w w' B B' x cs ⟨A, n, c, A', n', c', h, h1, h2⟩ hB hk => ⟨A, n, c, A', n', c', h, h1.keep (flat_lasts _) hB hk, h2.keep (flat_lasts _) hB hk⟩
abbrev RdF := Rd 4 fE
theorem Rd.atF {w : World} {B : Nat} {A : Option Addr} {n cap : Nat} {l : List Fv} (h : RdF w B A n cap l) {k : Nat} (hk : k < n) :
    ∃ b off A1 n1 c1 A2 n2 c2 x, A = some ⟨b, off, none⟩ ∧ b < B ∧ l[k]? = some x ∧ (w.cell? ⟨b, off + k * 4, none⟩ = some (.int .i64 x.s) ∧ w.cell? ⟨b, off + k * 4 + 1, none⟩ = some (.slice A1 n1 c1) ∧ w.cell? ⟨b, off + k * 4 + 2, none⟩ = some (.int .i64 x.t) ∧ w.cell? ⟨b, off + k * 4 + 3, none⟩ = some (.slice A2 n2 c2)) ∧ RdI w B A1 n1 c1 x.l ∧ RdI w B A2 n2 c2 x.m := by
  obtain ⟨b, off, rfl, hb, hc⟩ := h.2.2.2 (by omega)
  have hl := h.1
  obtain ⟨cs, ⟨A1, n1, c1, A2, n2, c2, rfl, h1, h2⟩, _, hj⟩ := hc k (by omega)
  exact ⟨b, off, A1, n1, c1, A2, n2, c2, l[k], rfl, hb, List.getElem?_eq_getElem (by omega), ⟨by simpa using hj 0 _ rfl, by simpa using hj 1 _ rfl, by simpa using hj 2 _ rfl, by simpa using hj 3 _ rfl⟩, h1, h2⟩
end Go.Proofs.Ytdlcglndhhndpaa
