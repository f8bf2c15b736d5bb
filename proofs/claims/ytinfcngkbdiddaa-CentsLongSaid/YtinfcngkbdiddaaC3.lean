/- Plain law: sums of fractions as they are calculated; what is refused; what Split gives. No condition. -/
import Derived.Test.YtinfcngkbdiddaaC2
import Derived.Test.YtinfcngkbdiddaaF
import Derived.Test.YtinfcngkbdiddaaLf
namespace Go.Proofs.Ytinfcngkbdiddaa
open Go.RowKit
set_option linter.unusedVariables false
set_option linter.unusedSimpArgs false

/-- a list's elements as a function -/
def gq (l : List Rat) (i : Nat) : Rat := l.getD i 0
/-- a sum, from left to right, while it is not too great -/
def sumF (acc : Rat) : List Rat → Option Rat
  | [] => some acc
  | x :: l => if addK acc x = true then sumF (acc + x) l else none
theorem gq_cons (x : Rat) (l : List Rat) (i : Nat) : gq (x :: l) (i + 1) = gq l i := by
  unfold gq
  rw [List.getD_cons_succ]
theorem gq_zero (x : Rat) (l : List Rat) : gq (x :: l) 0 = x := by
  unfold gq
  rw [List.getD_cons_zero]
theorem smQ_cons (x : Rat) (l : List Rat) (n : Nat) : smQ (gq (x :: l)) (n + 1) = x + smQ (gq l) n := by
  induction n with
  | zero =>
    rw [smQ, smQ, smQ, gq_zero]
    grind
  | succ n ih =>
    rw [smQ, ih, smQ, gq_cons]
    grind
theorem sumF_nil (acc : Rat) : sumF acc [] = some acc := by rw [sumF]
theorem sumF_cons (acc x : Rat) (l : List Rat) : sumF acc (x :: l) = if addK acc x = true then sumF (acc + x) l else none := by rw [sumF]
theorem sumF_eq (l : List Rat) : ∀ (acc q : Rat), sumF acc l = some q → q = acc + smQ (gq l) l.length := by
  induction l with
  | nil =>
    intro acc q h
    rw [sumF_nil] at h
    have h := Option.some.inj h
    rw [List.length_nil, smQ, ← h]
    grind
  | cons x l ih =>
    intro acc q h
    rw [sumF_cons] at h
    split at h
    · rw [ih _ _ h, List.length_cons, smQ_cons]
      grind
    · cases h
theorem sumF_snoc (x : Rat) (l : List Rat) : ∀ (acc : Rat), sumF acc (l ++ [x]) = (sumF acc l).bind fun q => if addK q x = true then some (q + x) else none := by
  induction l with
  | nil =>
    intro acc
    rw [List.nil_append, sumF_cons, sumF_nil, sumF_nil, Option.bind_some]
  | cons y l ih =>
    intro acc
    rw [List.cons_append, sumF_cons, sumF_cons]
    split
    · exact ih _
    · rw [Option.bind_none]
/-- the sum of the first k -/
def sumK1 (l : List Rat) (k : Nat) : Option Rat := sumF 0 (l.take k)
theorem sumK1_step {l : List Rat} {k : Nat} {x : Rat} (h : l[k]? = some x) : sumK1 l (k + 1) = (sumK1 l k).bind fun q => if addK q x = true then some (q + x) else none := by
  unfold sumK1
  rw [List.take_add_one, h, Option.toList_some, sumF_snoc]
theorem sumK1_none {l : List Rat} : ∀ {k : Nat}, sumK1 l k = none → ∀ j, k ≤ j → sumK1 l j = none := by
  intro k h j hj
  induction j with
  | zero =>
    obtain rfl : k = 0 := by omega
    exact h
  | succ j ih =>
    by_cases e : k = j + 1
    · rw [← e]; exact h
    · have h1 := ih (by omega)
      cases hx : l[j]? with
      | none =>
        have : l.length ≤ j := List.getElem?_eq_none_iff.1 hx
        unfold sumK1 at h1 ⊢
        rw [List.take_of_length_le (by omega)]
        rw [List.take_of_length_le this] at h1
        exact h1
      | some x => rw [sumK1_step hx, h1]; rfl
theorem sumK1_all (l : List Rat) : sumK1 l l.length = sumF 0 l := by
  unfold sumK1
  rw [List.take_length]
/-- are these memories right -/
def rightM (l : List Fv) : Bool := decide (1 ≤ l.length ∧ l.length ≤ 60) && (l.all Fv.ok && (decide (sumF 0 (l.map Fv.rat) = some 0) && l.all fun x => decide (-1 < x.rat ∧ x.rat < 1)))
/-- the first error that a sum and shares have -/
def checkC (total : Int) (sh me : List Fv) : Int :=
  if 0 ≤ total ∧ total ≤ 1000000000000000 ∧ rightM me = true ∧ sh.length = me.length ∧ sh.all Fv.ok = true ∧ (∀ x ∈ sh, 0 ≤ x.rat) then
    (match sumF 0 (sh.map Fv.rat) with
      | none => 6
      | some q => if q = (total : Rat) then 0 else 1)
  else 1
/-- what Split gives -/
def SplitP (total : Int) (sh me : List Rat) (got : List Int) (aft : List Rat) : Prop :=
  ∃ (S : Nat → Bool) (m : Nat), Sel sh.length (rsC (gq sh) (gq me)) m S ∧ (m : Int) = total - smI (flC (gq sh) (gq me)) sh.length ∧
    got = (List.range sh.length).map (gotC (gq sh) (gq me) S) ∧ aft = (List.range sh.length).map (aftC (gq sh) (gq me) S)
theorem SplitP.unique {total : Int} {sh me : List Rat} {got got' : List Int} {aft aft' : List Rat} (h : SplitP total sh me got aft) (h' : SplitP total sh me got' aft') : got = got' ∧ aft = aft' := by
  obtain ⟨S, m, h1, h2, h3, h4⟩ := h
  obtain ⟨S', m', h1', h2', h3', h4'⟩ := h'
  obtain rfl : m = m' := by omega
  obtain rfl := h1.unique h1'
  exact ⟨h3.trans h3'.symm, h4.trans h4'.symm⟩
end Go.Proofs.Ytinfcngkbdiddaa
