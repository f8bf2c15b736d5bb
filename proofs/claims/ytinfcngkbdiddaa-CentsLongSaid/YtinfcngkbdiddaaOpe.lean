/- Arguments of the statement CentsLong, opened. No condition. -/
import Derived.Test.YtinfcngkbdiddaaCL2
namespace Go.Proofs.Ytinfcngkbdiddaa
open Go.ChangeShapes Go.WideShapes Go.ChangeAt Go.RowKit Go.Deep
set_option linter.unusedVariables false

/-- a round as its sum and its parts -/
def rnE : Enc (Int × List Int) := prE 1 (flat fun x => [.int .i64 x]) (slE 1 (flat byE))
theorem rnE_lasts : Lasts rnE := prE_lasts (flat_lasts _) (slE_lasts (flat_lasts _))
theorem Rd.atRn {w : World} {B : Nat} {A : Option Addr} {n cap : Nat} {l : List (Int × List Int)} (h : Rd 2 rnE w B A n cap l) {k : Nat} (hk : k < n) :
    ∃ b off Ap np cp x, A = some ⟨b, off, none⟩ ∧ b < B ∧ l[k]? = some x ∧ (w.cell? ⟨b, off + k * 2, none⟩ = some (.int .i64 x.1) ∧ w.cell? ⟨b, off + k * 2 + 1, none⟩ = some (.slice Ap np cp)) ∧ Rd 1 (flat byE) w B Ap np cp x.2 := by
  obtain ⟨b, off, rfl, hb, hc⟩ := h.2.2.2 (by omega)
  have hl := h.1
  obtain ⟨cs, ⟨h1, Ap, np, cp, h2, h3⟩, _, hj⟩ := hc k (by omega)
  have e : cs = [.int .i64 (l[k]).1, .slice Ap np cp] := by
    have h1 : cs.take 1 = [.int .i64 (l[k]).1] := h1
    rw [← List.take_append_drop 1 cs, h1, h2]
    rfl
  rw [e] at hj
  exact ⟨b, off, Ap, np, cp, l[k], rfl, hb, List.getElem?_eq_getElem (by omega), ⟨by simpa using hj 0 _ rfl, by simpa using hj 1 _ rfl⟩, h3⟩
section
variable {H : Type} {enc : TypeId × Value → H} {w : World}
set_option maxRecDepth 100000 in
theorem op_round : Opens enc Try.prog w 48 2 rnE (fun x : Int × List Int => (Lit.int .i64 x.1).wf = true ∧ ∀ y ∈ x.2, (Lit.int .u8 y).wf = true) :=
  opens_struct (enc := enc) (w := w) Try.underlying48 (sz := 2) (by kernel_rfl)
    (opens_fields (s := 1) (s' := 1) (opens_int Try.underlying3) rfl (by kernel_rfl) (opens_field (opens_slice (opens_int Try.underlying5) Try.underlying46 (by kernel_rfl) (by omega) (by decide +kernel)) rfl (by kernel_rfl)))
set_option maxRecDepth 100000 in
theorem op_rounds : Opens enc Try.prog w 44 1 (slE 2 rnE) (fun l => ∀ x ∈ l, (Lit.int .i64 x.1).wf = true ∧ ∀ y ∈ x.2, (Lit.int .u8 y).wf = true) :=
  opens_slice op_round Try.underlying44 (by kernel_rfl) (by omega) (by decide +kernel)
variable {r : Reach} {b0 : Nat} {v : Value} {d : DataW H} {p : List MemPlace}
set_option maxRecDepth 100000 in
theorem arg_rounds (hv : Value.okWide Try.prog w r b0 44 v) (hd : DataW.Trod enc Try.prog w 0 (fun _ => true) true 44 v d p) (hw : ∀ n ∈ d.weights Try.prog 44, n ≤ reachBytes) :
    ∃ A n cap l, v = .slice A n cap ∧ Rd 2 rnE w w.heap.size A n cap l ∧ ∀ x ∈ l, (-9223372036854775808 ≤ x.1 ∧ x.1 ≤ 9223372036854775807) ∧ ∀ y ∈ x.2, 0 ≤ y ∧ y ≤ 255 := by
  obtain ⟨A, n, cap, l, rfl, hr, h⟩ := opens_arg_slice op_rounds Try.underlying44 hv hd hw
  exact ⟨A, n, cap, l, rfl, hr, fun x hx => ⟨bounds_i64 (h x hx).1, fun y hy => bounds_u8 ((h x hx).2 y hy)⟩⟩
end
end Go.Proofs.Ytinfcngkbdiddaa
