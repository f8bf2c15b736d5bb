/- Plain law of layer 36: what is known while PoolRuns looks at all windows. -/
import Derived.Test.YthhmdljfklbbeaaPr
namespace Go.Proofs.Ythhmdljfklbbeaa
set_option linter.unusedVariables false

def Fine2 (p : Pl) (cl : List (List Int)) (n a : Nat) (fb : Bool) : Prop :=
  (fb = true → (∀ a, a < n → okP p (clAt cl a) = true) ∧ ∀ b r, b < a → b + r ≤ n → r ≤ p.wi.toNat → wsum cl b r ≤ p.to) ∧ (fb = false → admN p cl n = false)
def Fine3 (p : Pl) (cl : List (List Int)) (n a k : Nat) (fb : Bool) : Prop :=
  Fine2 p cl n a fb ∧ (fb = true → ∀ r, r < k - a → r ≤ p.wi.toNat → wsum cl a r ≤ p.to)
theorem Fine2.start {p : Pl} {cl : List (List Int)} {n : Nat} {fb : Bool} (h1 : fb = true → ∀ a, a < n → okP p (clAt cl a) = true) (h2 : fb = false → admN p cl n = false) : Fine2 p cl n 0 fb :=
  ⟨fun h => ⟨h1 h, fun b r hb => absurd hb (by omega)⟩, h2⟩
theorem Fine3.start {p : Pl} {cl : List (List Int)} {n a : Nat} {fb : Bool} (ht : 0 ≤ p.to) (h : Fine2 p cl n a fb) : Fine3 p cl n a (a + 1) fb :=
  ⟨h, fun _ r hr _ => by
    have : r = 0 := by omega
    subst this; exact ht⟩
theorem Fine3.step {p : Pl} {cl : List (List Int)} {n a k : Nat} (h : Fine3 p cl n a k true) (hk : a < k) (hw : wsum cl a (k - a) ≤ p.to) : Fine3 p cl n a (k + 1) true :=
  ⟨h.1, fun _ r hr hr2 => by
    by_cases e : r = k - a
    · subst e; exact hw
    · exact h.2 rfl r (by omega) hr2⟩
theorem Fine3.no {p : Pl} {cl : List (List Int)} {n a k : Nat} (h : Fine2 p cl n a false) : Fine3 p cl n a k false := ⟨h, fun h => by cases h⟩
theorem Fine3.bad {p : Pl} (hp : rightF p = true) {cl : List (List Int)} {n a k : Nat} (hk : a < k) (hkn : k ≤ n) (hkw : k - a ≤ p.wi.toNat) (hw : ¬ wsum cl a (k - a) ≤ p.to) : Fine3 p cl n a (k + 1) false :=
  ⟨⟨(fun h => by cases h), fun _ => by
    cases hA : admN p cl n
    · rfl
    · exact absurd (adm_win hp hA (a := a) (r := k - a) (by omega) hkw) hw⟩, fun h => by cases h⟩
theorem Fine3.fin {p : Pl} {cl : List (List Int)} {n a k : Nat} {fb : Bool} (h : Fine3 p cl n a k fb) (hk : n < k ∨ a + p.wi.toNat < k) (hak : a < k) : Fine2 p cl n (a + 1) fb :=
  ⟨fun hf => ⟨(h.1.1 hf).1, fun b r hb hbr hr => by
    by_cases e : b = a
    · subst e; exact h.2 hf r (by omega) hr
    · exact (h.1.1 hf).2 b r (by omega) hbr hr⟩, h.1.2⟩
theorem Fine2.fin {p : Pl} (hp : rightF p = true) {cl : List (List Int)} {n a : Nat} {fb : Bool} (h : Fine2 p cl n a fb) (ha : fb = true → n ≤ a) : admN p cl n = fb := by
  cases fb
  · exact h.2 rfl
  · have h1 := h.1 rfl
    have := ha rfl
    exact win_adm hp h1.1 (fun b r hb hbr hr => h1.2 b r (by omega) hbr hr) n (Nat.le_refl _)
theorem Fine2.ok {p : Pl} {cl : List (List Int)} {n a : Nat} (h : Fine2 p cl n a true) : ∀ a, a < n → okP p (clAt cl a) = true := (h.1 rfl).1
end Go.Proofs.Ythhmdljfklbbeaa
