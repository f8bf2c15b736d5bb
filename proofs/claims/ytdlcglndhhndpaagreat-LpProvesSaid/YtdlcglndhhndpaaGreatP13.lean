/- Laws and walks; conditions stand in each theorem. -/
import Derived.Test.YtdlcglndhhndpaaGreatP12
import Derived.Test.YtdlcglndhhndpaaGreatP09
set_option linter.unusedSimpArgs false
set_option linter.unusedVariables false
namespace Go.Proofs.YtdlcglndhhndpaaGreat
open Go.RowKit
theorem RdFF.at {w : World} {B : Nat} {A : Option Addr} {n cap : Nat} {l : List (List Fv)} (h : RdFF w B A n cap l) {k : Nat} (hk : k < n) :
 ∃ b off A1 n1 c1 x, A = some ⟨b, off, none⟩ ∧ b < B ∧ l[k]? = some x ∧ w.cell? ⟨b, off + k, none⟩ = some (.slice A1 n1 c1) ∧ RdF w B A1 n1 c1 x := by
 obtain ⟨b, off, rfl, hb, hc⟩ := h.2.2.2 (by omega)
 have hl := h.1
 obtain ⟨cs, ⟨A1, n1, c1, rfl, h1⟩, _, hj⟩ := hc k (by omega)
 exact ⟨b, off, A1, n1, c1, l[k], rfl, hb, List.getElem?_eq_getElem (by omega), by simpa using hj 0 _ rfl, h1⟩
end Go.Proofs.YtdlcglndhhndpaaGreat
