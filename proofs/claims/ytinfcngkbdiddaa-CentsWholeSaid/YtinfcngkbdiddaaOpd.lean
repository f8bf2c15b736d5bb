/- Arguments of the statement CentsWhole, opened. No condition. -/
import Derived.Test.YtinfcngkbdiddaaOpc
namespace Go.Proofs.Ytinfcngkbdiddaa
open Go.ChangeShapes Go.WideShapes Go.ChangeAt Go.RowKit Go.Deep
set_option linter.unusedVariables false

def u32E : Int → List Value := fun x => [.int .u32 x]
theorem Rd.atU {w : World} {B : Nat} {A : Option Addr} {n cap : Nat} {l : List Int} (h : Rd 1 (flat u32E) w B A n cap l) {k : Nat} (hk : k < n) :
    ∃ b off x, A = some ⟨b, off, none⟩ ∧ b < B ∧ l[k]? = some x ∧ w.cell? ⟨b, off + k, none⟩ = some (.int .u32 x) := by
  obtain ⟨b, off, rfl, hb, hc⟩ := h.2.2.2 (by omega)
  have hl := h.1
  obtain ⟨cs, rfl, hl, hj⟩ := hc k (by omega)
  exact ⟨b, off, l[k], rfl, hb, List.getElem?_eq_getElem (by omega), by simpa [u32E] using hj 0 _ rfl⟩
section
variable {H : Type} {enc : TypeId × Value → H} {w : World}
set_option maxRecDepth 100000 in
theorem op_u32s : Opens enc Try.prog w 51 1 (slE 1 (flat u32E)) (fun l => ∀ y ∈ l, (Lit.int .u32 y).wf = true) :=
  opens_slice (opens_int Try.underlying52) Try.underlying51 (by kernel_rfl) (by omega) (by decide +kernel)
variable {r : Reach} {b0 : Nat} {v : Value} {d : DataW H} {p : List MemPlace}
set_option maxRecDepth 100000 in
theorem arg_u32s (hv : Value.okWide Try.prog w r b0 51 v) (hd : DataW.Trod enc Try.prog w 0 (fun _ => true) true 51 v d p) (hw : ∀ n ∈ d.weights Try.prog 51, n ≤ reachBytes) :
    ∃ A n cap l, v = .slice A n cap ∧ Rd 1 (flat u32E) w w.heap.size A n cap l ∧ ∀ y ∈ l, 0 ≤ y ∧ y ≤ 4294967295 := by
  obtain ⟨A, n, cap, l, rfl, hr, h⟩ := opens_arg_slice op_u32s Try.underlying51 hv hd hw
  exact ⟨A, n, cap, l, rfl, hr, fun y hy => bounds_u32 (h y hy)⟩
end
end Go.Proofs.Ytinfcngkbdiddaa
