/- Arguments of the statements of layer 36, opened: pools, claims. No condition. -/
import Derived.Test.YthhmdljfklbbeaaGen
import Derived.Test.YthhmdljfklbbeaaP5
namespace Go.Proofs.Ythhmdljfklbbeaa
open Go.ChangeShapes Go.WideShapes Go.ChangeAt Go.RowKit Go.Deep
set_option linter.unusedVariables false

def I64 (x : Int) : Prop := -9223372036854775808 ≤ x ∧ x ≤ 9223372036854775807
theorem prE_flat {α β : Type} {s : Nat} {f : α → List Value} {g : β → List Value} {w : World} {B : Nat} {x : α × β} {cs : List Value} (h : prE s (flat f) (flat g) w B x cs) : flat (fun x : α × β => f x.1 ++ g x.2) w B x cs := by
  obtain ⟨h1, h2⟩ := h
  show cs = _
  rw [← List.take_append_drop s cs, h1, h2]
section
variable {H : Type} {enc : TypeId × Value → H} {w : World}
theorem op_claims : Opens enc Try.prog w 24 1 (slE 1 (slE 1 (flat fun x => [.int .i64 x]))) (fun l => ∀ x ∈ l, ∀ y ∈ x, (Lit.int .i64 y).wf = true) :=
  opens_slice (opens_slice (opens_int Try.underlying3) Try.underlying32 (by kernel_rfl) (by omega) (by decide +kernel)) Try.underlying24 (by kernel_rfl) (by omega) (by decide +kernel)
theorem op_pool : Opens enc Try.prog w 23 6 (prE 1 (flat fun x => [.int .i64 x]) (prE 1 (flat fun x => [.int .i64 x]) (prE 1 (flat fun x => [.int .i64 x]) (prE 1 (flat fun x => [.int .i64 x]) (prE 1 (flat fun x => [.int .i64 x]) (flat fun x => [.int .i64 x])))))) (fun _ : Int × Int × Int × Int × Int × Int => True) := by
  have h := opens_struct (enc := enc) (w := w) Try.underlying23 (sz := 6) (by kernel_rfl)
    (opens_fields (s := 1) (s' := 5) (opens_int Try.underlying3) rfl (by kernel_rfl) (opens_fields (s := 1) (s' := 4) (opens_int Try.underlying3) rfl (by kernel_rfl) (opens_fields (s := 1) (s' := 3) (opens_int Try.underlying3) rfl (by kernel_rfl)
      (opens_fields (s := 1) (s' := 2) (opens_int Try.underlying3) rfl (by kernel_rfl) (opens_fields (s := 1) (s' := 1) (opens_int Try.underlying3) rfl (by kernel_rfl) (opens_field (opens_int Try.underlying3) rfl (by kernel_rfl)))))))
  intro fuel cs y h1 h2
  obtain ⟨a, x, b, _⟩ := h fuel cs y h1 h2
  exact ⟨a, x, b, trivial⟩
variable {r : Reach} {b0 : Nat} {v : Value} {d : DataW H} {p : List MemPlace}
theorem arg_pool (hv : Value.okWide Try.prog w r b0 23 v) (hd : DataW.Trod enc Try.prog w 0 (fun _ => true) true 23 v d p) (hw : ∀ n ∈ d.weights Try.prog 23, n ≤ reachBytes) : ∃ q : Pl, v = plV q ∧ True := by
  obtain ⟨cs, x, rfl, hr, _⟩ := opens_arg_struct op_pool Try.underlying23 hv hd hw
  refine ⟨⟨x.1, x.2.1, x.2.2.1, x.2.2.2.1, x.2.2.2.2.1, x.2.2.2.2.2⟩, ?_, trivial⟩
  obtain ⟨h1, h2, h3, h4, h5, h6⟩ := hr
  have e : cs.toList = [.int .i64 x.1, .int .i64 x.2.1, .int .i64 x.2.2.1, .int .i64 x.2.2.2.1, .int .i64 x.2.2.2.2.1, .int .i64 x.2.2.2.2.2] := by
    have g : ∀ (l : List Value) (v : Value), l.take 1 = [v] → l = v :: l.drop 1 := fun l v h => by
      conv => lhs; rw [← List.take_append_drop 1 l, h]
      rfl
    rw [g _ _ h1, g _ _ h2, g _ _ h3, g _ _ h4, g _ _ h5, h6]
  cases cs
  simp only at e
  subst e
  rfl
theorem arg_claims (hv : Value.okWide Try.prog w r b0 24 v) (hd : DataW.Trod enc Try.prog w 0 (fun _ => true) true 24 v d p) (hw : ∀ n ∈ d.weights Try.prog 24, n ≤ reachBytes) :
    ∃ A n cap l, v = .slice A n cap ∧ RdII w w.heap.size A n cap l ∧ ∀ x ∈ l, ∀ y ∈ x, I64 y := by
  obtain ⟨A, n, cap, l, rfl, hr, h⟩ := opens_arg_slice op_claims Try.underlying24 hv hd hw
  exact ⟨A, n, cap, l, rfl, hr, fun x hx y hy => bounds_i64 (h x hx y hy)⟩
end
end Go.Proofs.Ythhmdljfklbbeaa
