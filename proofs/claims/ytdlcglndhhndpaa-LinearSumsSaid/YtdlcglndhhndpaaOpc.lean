/- Arguments of the statements of layer 27, opened. No condition. -/
import Derived.Test.YtdlcglndhhndpaaLf
namespace Go.Proofs.Ytdlcglndhhndpaa
open Go.ChangeShapes Go.WideShapes Go.ChangeAt Go.RowKit Go.Deep
set_option linter.unusedVariables false

theorem Rd.mapC {α β : Type} {sz : Nat} {R : Enc α} {S : Enc β} {w : World} {B : Nat} {A : Option Addr} {n cap : Nat} {l : List α} (f : α → β) (h : Rd sz R w B A n cap l) (hc : ∀ x cs, cs.length = sz → R w B x cs → S w B (f x) cs) : Rd sz S w B A n cap (l.map f) := by
  refine ⟨by rw [List.length_map]; exact h.1, h.2.1, h.2.2.1, fun hn => ?_⟩
  obtain ⟨b, off, rfl, hb, hk⟩ := h.2.2.2 hn
  refine ⟨b, off, rfl, hb, fun k hk' => ?_⟩
  have hl : k < l.length := by simpa using hk'
  obtain ⟨cs, hr, hl2, hj⟩ := hk k hl
  refine ⟨cs, ?_, hl2, hj⟩
  rw [List.getElem_map]
  exact hc _ _ hl2 hr
section
variable {H : Type} {enc : TypeId × Value → H} {w : World}
set_option maxRecDepth 100000 in
theorem op_bigc : Opens enc Try.prog w 38 2 (prE 1 (flat fun x => [.int .i64 x]) (slE 1 (flat fun x => [.int .i64 x]))) (fun _ : Int × List Int => True) := by
  have h := opens_struct (enc := enc) (w := w) Try.underlying38 (sz := 2) (by kernel_rfl)
    (opens_fields (s := 1) (s' := 1) (opens_int Try.underlying3) rfl (by kernel_rfl) (opens_field (opens_slice (opens_int Try.underlying3) Try.underlying36 (by kernel_rfl) (by omega) (by decide +kernel)) rfl (by kernel_rfl)))
  intro fuel cs y h1 h2
  obtain ⟨a, x, b, _⟩ := h fuel cs y h1 h2
  exact ⟨a, x, b, trivial⟩
set_option maxRecDepth 100000 in
theorem op_fracc : Opens enc Try.prog w 40 4 (prE 2 (prE 1 (flat fun x => [.int .i64 x]) (slE 1 (flat fun x => [.int .i64 x]))) (prE 1 (flat fun x => [.int .i64 x]) (slE 1 (flat fun x => [.int .i64 x])))) (fun _ : (Int × List Int) × (Int × List Int) => True) := by
  have h := opens_struct (enc := enc) (w := w) Try.underlying40 (sz := 4) (by kernel_rfl)
    (opens_fields (s := 2) (s' := 2) op_bigc rfl (by kernel_rfl) (opens_field op_bigc rfl (by kernel_rfl)))
  intro fuel cs y h1 h2
  obtain ⟨a, x, b, _⟩ := h fuel cs y h1 h2
  exact ⟨a, x, b, trivial⟩
set_option maxRecDepth 100000 in
theorem op_fracsc : Opens enc Try.prog w 23 1 (slE 4 (prE 2 (prE 1 (flat fun x => [.int .i64 x]) (slE 1 (flat fun x => [.int .i64 x]))) (prE 1 (flat fun x => [.int .i64 x]) (slE 1 (flat fun x => [.int .i64 x]))))) (fun l => ∀ x ∈ l, True) :=
  opens_slice op_fracc Try.underlying23 (by kernel_rfl) (by omega) (by decide +kernel)
theorem bgc_cells {W : World} {B : Nat} {x : Int × List Int} {cs : List Value} (h : prE 1 (flat fun x => [.int .i64 x]) (slE 1 (flat fun x => [.int .i64 x])) W B x cs) : ∃ A n cap, cs = [.int .i64 x.1, .slice A n cap] ∧ RdI W B A n cap x.2 := by
  obtain ⟨h1, A, n, cap, h2, h3⟩ := h
  refine ⟨A, n, cap, ?_, h3⟩
  have h1 : cs.take 1 = [.int .i64 x.1] := h1
  rw [← List.take_append_drop 1 cs, h1, h2]
  rfl
theorem fv_cells {W : World} {B : Nat} (x : (Int × List Int) × (Int × List Int)) (cs : List Value) (hl : cs.length = 4) (h : prE 2 (prE 1 (flat fun x => [.int .i64 x]) (slE 1 (flat fun x => [.int .i64 x]))) (prE 1 (flat fun x => [.int .i64 x]) (slE 1 (flat fun x => [.int .i64 x]))) W B x cs) : fE W B ⟨x.1.1, x.1.2, x.2.1, x.2.2⟩ cs := by
  obtain ⟨h1, h2⟩ := h
  obtain ⟨A, n, cap, e1, r1⟩ := bgc_cells h1
  obtain ⟨A', n', cap', e2, r2⟩ := bgc_cells h2
  refine ⟨A, n, cap, A', n', cap', ?_, r1, r2⟩
  rw [← List.take_append_drop 2 cs, e1, e2]
  rfl
variable {r : Reach} {b0 : Nat} {v : Value} {d : DataW H} {p : List MemPlace}
set_option maxRecDepth 100000 in
theorem arg_fracs (hv : Value.okWide Try.prog w r b0 23 v) (hd : DataW.Trod enc Try.prog w 0 (fun _ => true) true 23 v d p) (hw : ∀ n ∈ d.weights Try.prog 23, n ≤ reachBytes) :
    ∃ A n cap l, v = .slice A n cap ∧ RdF w w.heap.size A n cap l := by
  obtain ⟨A, n, cap, l, rfl, hr, h⟩ := opens_arg_slice op_fracsc Try.underlying23 hv hd hw
  exact ⟨A, n, cap, _, rfl, hr.mapC _ fv_cells⟩
end
end Go.Proofs.Ytdlcglndhhndpaa
