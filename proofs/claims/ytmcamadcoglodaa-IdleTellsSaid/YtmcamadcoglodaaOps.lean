/- Arguments of the statements of layer 24, opened: costs, certificates, ints, numbers of one and two bytes. No condition. -/
import Derived.Test.YtmcamadcoglodaaGen
import Derived.Test.YtmcamadcoglodaaIm
namespace Go.Proofs.Ytmcamadcoglodaa
open Go.ChangeShapes Go.WideShapes Go.ChangeAt Go.RowKit Go.Deep
set_option linter.unusedVariables false

theorem take1 (l : List Value) (v : Value) (h : l.take 1 = [v]) : l = v :: l.drop 1 := by
  conv => lhs; rw [← List.take_append_drop 1 l, h]
  rfl
def u8Enc (x : Int) : List Value := [.int .u8 x]
def u16Enc (x : Int) : List Value := [.int .u16 x]
theorem Rd.atU16 {w : World} {B : Nat} {A : Option Addr} {n cap : Nat} {l : List Int} (h : Rd 1 (flat u16Enc) w B A n cap l) {k : Nat} (hk : k < n) :
    ∃ b off x, A = some ⟨b, off, none⟩ ∧ b < B ∧ l[k]? = some x ∧ w.cell? ⟨b, off + k, none⟩ = some (.int .u16 x) := by
  obtain ⟨b, off, rfl, hb, hc⟩ := h.2.2.2 (by omega)
  have hl := h.1
  obtain ⟨cs, rfl, hl, hj⟩ := hc k (by omega)
  exact ⟨b, off, l[k], rfl, hb, List.getElem?_eq_getElem (by omega), by simpa [u16Enc] using hj 0 _ rfl⟩
theorem Rd.atU8 {w : World} {B : Nat} {A : Option Addr} {n cap : Nat} {l : List Int} (h : Rd 1 (flat u8Enc) w B A n cap l) {k : Nat} (hk : k < n) :
    ∃ b off x, A = some ⟨b, off, none⟩ ∧ b < B ∧ l[k]? = some x ∧ w.cell? ⟨b, off + k, none⟩ = some (.int .u8 x) := by
  obtain ⟨b, off, rfl, hb, hc⟩ := h.2.2.2 (by omega)
  have hl := h.1
  obtain ⟨cs, rfl, hl, hj⟩ := hc k (by omega)
  exact ⟨b, off, l[k], rfl, hb, List.getElem?_eq_getElem (by omega), by simpa [u8Enc] using hj 0 _ rfl⟩
section
variable {H : Type} {enc : TypeId × Value → H} {w : World}
theorem op_ints : Opens enc Try.prog w 23 1 (slE 1 (flat fun x => [.int .i64 x])) (fun l => ∀ y ∈ l, (Lit.int .i64 y).wf = true) :=
  opens_slice (opens_int Try.underlying3) Try.underlying23 (by kernel_rfl) (by omega) (by decide +kernel)
theorem op_costs : Opens enc Try.prog w 22 1 (slE 1 (slE 1 (flat fun x => [.int .i64 x]))) (fun l => ∀ x ∈ l, ∀ y ∈ x, (Lit.int .i64 y).wf = true) :=
  opens_slice op_ints Try.underlying22 (by kernel_rfl) (by omega) (by decide +kernel)
theorem op_bytes : Opens enc Try.prog w 41 1 (slE 1 (flat fun x => [.int .u8 x])) (fun l => ∀ y ∈ l, (Lit.int .u8 y).wf = true) :=
  opens_slice (opens_int Try.underlying5) Try.underlying41 (by kernel_rfl) (by omega) (by decide +kernel)
theorem op_words : Opens enc Try.prog w 49 1 (slE 1 (flat fun x => [.int .u16 x])) (fun l => ∀ y ∈ l, (Lit.int .u16 y).wf = true) :=
  opens_slice (opens_int Try.underlying48) Try.underlying49 (by kernel_rfl) (by omega) (by decide +kernel)
theorem op_match : Opens enc Try.prog w 25 3 (prE 1 (slE 1 (flat fun x => [.int .i64 x])) (prE 1 (slE 1 (flat fun x => [.int .i64 x])) (slE 1 (flat fun x => [.int .i64 x])))) (fun _ : List Int × List Int × List Int => True) := by
  have h := opens_struct (enc := enc) (w := w) Try.underlying25 (sz := 3) (by kernel_rfl)
    (opens_fields (s := 1) (s' := 2) op_ints rfl (by kernel_rfl) (opens_fields (s := 1) (s' := 1) op_ints rfl (by kernel_rfl) (opens_field op_ints rfl (by kernel_rfl))))
  intro fuel cs y h1 h2
  obtain ⟨a, x, b, _⟩ := h fuel cs y h1 h2
  exact ⟨a, x, b, trivial⟩
variable {r : Reach} {b0 : Nat} {v : Value} {d : DataW H} {p : List MemPlace}
theorem arg_ints (hv : Value.okWide Try.prog w r b0 23 v) (hd : DataW.Trod enc Try.prog w 0 (fun _ => true) true 23 v d p) (hw : ∀ n ∈ d.weights Try.prog 23, n ≤ reachBytes) :
    ∃ A n cap l, v = .slice A n cap ∧ RdI w w.heap.size A n cap l := by
  obtain ⟨A, n, cap, l, rfl, hr, h⟩ := opens_arg_slice op_ints Try.underlying23 hv hd hw
  exact ⟨A, n, cap, l, rfl, hr⟩
theorem arg_costs (hv : Value.okWide Try.prog w r b0 22 v) (hd : DataW.Trod enc Try.prog w 0 (fun _ => true) true 22 v d p) (hw : ∀ n ∈ d.weights Try.prog 22, n ≤ reachBytes) :
    ∃ A n cap l, v = .slice A n cap ∧ RdII w w.heap.size A n cap l := by
  obtain ⟨A, n, cap, l, rfl, hr, h⟩ := opens_arg_slice op_costs Try.underlying22 hv hd hw
  exact ⟨A, n, cap, l, rfl, hr⟩
theorem arg_bytes (hv : Value.okWide Try.prog w r b0 41 v) (hd : DataW.Trod enc Try.prog w 0 (fun _ => true) true 41 v d p) (hw : ∀ n ∈ d.weights Try.prog 41, n ≤ reachBytes) :
    ∃ A n cap l, v = .slice A n cap ∧ Rd 1 (flat u8Enc) w w.heap.size A n cap l ∧ ∀ y ∈ l, 0 ≤ y ∧ y ≤ 255 := by
  obtain ⟨A, n, cap, l, rfl, hr, h⟩ := opens_arg_slice op_bytes Try.underlying41 hv hd hw
  exact ⟨A, n, cap, l, rfl, hr, fun y hy => bounds_u8 (h y hy)⟩
theorem arg_words (hv : Value.okWide Try.prog w r b0 49 v) (hd : DataW.Trod enc Try.prog w 0 (fun _ => true) true 49 v d p) (hw : ∀ n ∈ d.weights Try.prog 49, n ≤ reachBytes) :
    ∃ A n cap l, v = .slice A n cap ∧ Rd 1 (flat u16Enc) w w.heap.size A n cap l ∧ ∀ y ∈ l, 0 ≤ y ∧ y ≤ 65535 := by
  obtain ⟨A, n, cap, l, rfl, hr, h⟩ := opens_arg_slice op_words Try.underlying49 hv hd hw
  exact ⟨A, n, cap, l, rfl, hr, fun y hy => bounds_u16 (h y hy)⟩
theorem arg_u16 (hv : Value.okWide Try.prog w r b0 48 v) (hd : DataW.Trod enc Try.prog w 0 (fun _ => true) true 48 v d p) (hw : ∀ n ∈ d.weights Try.prog 48, n ≤ reachBytes) :
    ∃ x : Int, v = .int .u16 x ∧ (0 ≤ x ∧ x ≤ 65535) := by
  obtain ⟨x, rfl, _, _, hwf⟩ := open_int Try.underlying48 hv hd
  exact ⟨x, rfl, bounds_u16 hwf⟩
theorem arg_match (hv : Value.okWide Try.prog w r b0 25 v) (hd : DataW.Trod enc Try.prog w 0 (fun _ => true) true 25 v d p) (hw : ∀ n ∈ d.weights Try.prog 25, n ≤ reachBytes) :
    ∃ A n cap l A1 n1 cap1 l1 A2 n2 cap2 l2, v = .agg #[.slice A n cap, .slice A1 n1 cap1, .slice A2 n2 cap2] ∧ RdI w w.heap.size A n cap l ∧ RdI w w.heap.size A1 n1 cap1 l1 ∧ RdI w w.heap.size A2 n2 cap2 l2 := by
  obtain ⟨cs, x, rfl, hr, _⟩ := opens_arg_struct op_match Try.underlying25 hv hd hw
  obtain ⟨⟨A, n, cap, e1, h1⟩, ⟨A1, n1, cap1, e2, h2⟩, ⟨A2, n2, cap2, e3, h3⟩⟩ := hr
  have e : cs.toList = [.slice A n cap, .slice A1 n1 cap1, .slice A2 n2 cap2] := by
    rw [take1 _ _ e1, take1 _ _ e2, e3]
  refine ⟨A, n, cap, x.1, A1, n1, cap1, x.2.1, A2, n2, cap2, x.2.2, ?_, h1, h2, h3⟩
  cases cs
  simp only at e
  subst e
  rfl
end
end Go.Proofs.Ytmcamadcoglodaa
