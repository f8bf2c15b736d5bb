/- Arguments of the statements of layer 15, opened: lags, steps, ints. No condition. -/
import Derived.Test.YthmnkmomgaamlaaGen
import Derived.Test.YthmnkmomgaamlaaLm
namespace Go.Proofs.Ythmnkmomgaamlaa
open Go.ChangeShapes Go.WideShapes Go.ChangeAt Go.RowKit Go.Deep
set_option linter.unusedVariables false

theorem take1 (l : List Value) (v : Value) (h : l.take 1 = [v]) : l = v :: l.drop 1 := by
  conv => lhs; rw [← List.take_append_drop 1 l, h]
  rfl
section
variable {H : Type} {enc : TypeId × Value → H} {w : World}
theorem op_ints : Opens enc Try.prog w 23 1 (slE 1 (flat fun x => [.int .i64 x])) (fun l => ∀ y ∈ l, (Lit.int .i64 y).wf = true) :=
  opens_slice (opens_int Try.underlying3) Try.underlying23 (by kernel_rfl) (by omega) (by decide +kernel)
theorem op_lag : Opens enc Try.prog w 47 4 (prE 1 (flat fun x => [.int .i64 x]) (prE 1 (flat fun x => [.int .i64 x]) (prE 1 (flat fun x => [.int .i64 x]) (flat fun x => [.int .i64 x])))) (fun _ : Int × Int × Int × Int => True) := by
  have h := opens_struct (enc := enc) (w := w) Try.underlying47 (sz := 4) (by kernel_rfl)
    (opens_fields (s := 1) (s' := 3) (opens_int Try.underlying3) rfl (by kernel_rfl) (opens_fields (s := 1) (s' := 2) (opens_int Try.underlying3) rfl (by kernel_rfl) (opens_fields (s := 1) (s' := 1) (opens_int Try.underlying3) rfl (by kernel_rfl) (opens_field (opens_int Try.underlying3) rfl (by kernel_rfl)))))
  intro fuel cs y h1 h2
  obtain ⟨a, x, b, _⟩ := h fuel cs y h1 h2
  exact ⟨a, x, b, trivial⟩
theorem op_step : Opens enc Try.prog w 34 3 (prE 1 (flat fun x => [.int .i64 x]) (prE 1 (flat fun x => [.int .i64 x]) (flat fun x => [.int .i64 x]))) (fun _ : Int × Int × Int => True) := by
  have h := opens_struct (enc := enc) (w := w) Try.underlying34 (sz := 3) (by kernel_rfl)
    (opens_fields (s := 1) (s' := 2) (opens_int Try.underlying3) rfl (by kernel_rfl) (opens_fields (s := 1) (s' := 1) (opens_int Try.underlying3) rfl (by kernel_rfl) (opens_field (opens_int Try.underlying3) rfl (by kernel_rfl))))
  intro fuel cs y h1 h2
  obtain ⟨a, x, b, _⟩ := h fuel cs y h1 h2
  exact ⟨a, x, b, trivial⟩
theorem op_lags : Opens enc Try.prog w 22 1 (slE 4 (prE 1 (flat fun x => [.int .i64 x]) (prE 1 (flat fun x => [.int .i64 x]) (prE 1 (flat fun x => [.int .i64 x]) (flat fun x => [.int .i64 x]))))) (fun l : List (Int × Int × Int × Int) => ∀ y ∈ l, True) :=
  opens_slice op_lag Try.underlying22 (by kernel_rfl) (by omega) (by decide +kernel)
theorem op_steps : Opens enc Try.prog w 24 1 (slE 3 (prE 1 (flat fun x => [.int .i64 x]) (prE 1 (flat fun x => [.int .i64 x]) (flat fun x => [.int .i64 x])))) (fun l : List (Int × Int × Int) => ∀ y ∈ l, True) :=
  opens_slice op_step Try.underlying24 (by kernel_rfl) (by omega) (by decide +kernel)
variable {r : Reach} {b0 : Nat} {v : Value} {d : DataW H} {p : List MemPlace}
theorem arg_ints (hv : Value.okWide Try.prog w r b0 23 v) (hd : DataW.Trod enc Try.prog w 0 (fun _ => true) true 23 v d p) (hw : ∀ n ∈ d.weights Try.prog 23, n ≤ reachBytes) :
    ∃ A n cap l, v = .slice A n cap ∧ RdI w w.heap.size A n cap l ∧ ∀ y ∈ l, -9223372036854775808 ≤ y ∧ y ≤ 9223372036854775807 := by
  obtain ⟨A, n, cap, l, rfl, hr, h⟩ := opens_arg_slice op_ints Try.underlying23 hv hd hw
  exact ⟨A, n, cap, l, rfl, hr, fun y hy => bounds_i64 (h y hy)⟩
theorem lag_conv {w : World} {B : Nat} {x : Lg} {cs : List Value} (h : prE 1 (flat fun x => [.int .i64 x]) (prE 1 (flat fun x => [.int .i64 x]) (prE 1 (flat fun x => [.int .i64 x]) (flat fun x => [.int .i64 x]))) w B x cs) : flat lEnc w B x cs := by
  obtain ⟨h1, h2, h3, h4⟩ := h
  show cs = _
  rw [take1 _ _ h1, take1 _ _ h2, take1 _ _ h3, h4]
  rfl
theorem step_conv {w : World} {B : Nat} {x : St} {cs : List Value} (h : prE 1 (flat fun x => [.int .i64 x]) (prE 1 (flat fun x => [.int .i64 x]) (flat fun x => [.int .i64 x])) w B x cs) : flat tEnc w B x cs := by
  obtain ⟨h1, h2, h3⟩ := h
  show cs = _
  rw [take1 _ _ h1, take1 _ _ h2, h3]
  rfl
theorem arg_lags (hv : Value.okWide Try.prog w r b0 22 v) (hd : DataW.Trod enc Try.prog w 0 (fun _ => true) true 22 v d p) (hw : ∀ n ∈ d.weights Try.prog 22, n ≤ reachBytes) :
    ∃ A n cap l, v = .slice A n cap ∧ RdL w w.heap.size A n cap l := by
  obtain ⟨A, n, cap, l, rfl, hr, h⟩ := opens_arg_slice op_lags Try.underlying22 hv hd hw
  exact ⟨A, n, cap, l, rfl, hr.conv fun x cs _ h => lag_conv h⟩
theorem arg_lagsR (hv : Value.okWide Try.prog w r b0 22 v) (hd : DataW.Trod enc Try.prog w 0 (fun _ => true) true 22 v d p) (hw : ∀ n ∈ d.weights Try.prog 22, n ≤ reachBytes) :
    ∃ A n cap l, v = .slice A n cap ∧ RdL w w.heap.size A n cap l ∧ n * 32 ≤ 140737488351232 := by
  obtain ⟨A, n, cap, l, rfl, hr⟩ := arg_lags hv hd hw
  refine ⟨A, n, cap, l, rfl, hr, ?_⟩
  obtain ⟨fuel, h⟩ := hd
  have hby : Try.prog.bytesOf 47 = 32 := by kernel_rfl
  rcases open_slice Try.underlying22 h with ⟨hcs, _⟩ | ⟨a, len, cap', m, k, D, Pl, hcs, hb, hl, hm, hmm, hx, _⟩
  · simp [Value.cells] at hcs
    obtain ⟨rfl, rfl, rfl⟩ := hcs
    omega
  · simp [Value.cells] at hcs
    obtain ⟨rfl, rfl, rfl⟩ := hcs
    simp only [if_true] at hmm
    subst hmm
    simp only [Prod.mk.injEq] at hx
    obtain ⟨rfl, _⟩ := hx
    simp only [DataW.weights, Try.underlying22] at hw
    have h1 := hw _ (List.mem_cons_self ..)
    simp only [List.length_map, List.length_range, reachBytes, hby] at h1
    have h2 := Nat.mul_le_mul_right 32 (Nat.le_add_right n (m - n))
    omega
theorem arg_steps (hv : Value.okWide Try.prog w r b0 24 v) (hd : DataW.Trod enc Try.prog w 0 (fun _ => true) true 24 v d p) (hw : ∀ n ∈ d.weights Try.prog 24, n ≤ reachBytes) :
    ∃ A n cap l, v = .slice A n cap ∧ RdT w w.heap.size A n cap l := by
  obtain ⟨A, n, cap, l, rfl, hr, h⟩ := opens_arg_slice op_steps Try.underlying24 hv hd hw
  exact ⟨A, n, cap, l, rfl, hr.conv fun x cs _ h => step_conv h⟩
theorem arg_lag (hv : Value.okWide Try.prog w r b0 47 v) (hd : DataW.Trod enc Try.prog w 0 (fun _ => true) true 47 v d p) (hw : ∀ n ∈ d.weights Try.prog 47, n ≤ reachBytes) : ∃ x : Lg, v = .agg #[.int .i64 x.1, .int .i64 x.2.1, .int .i64 x.2.2.1, .int .i64 x.2.2.2] ∧ True := by
  obtain ⟨cs, x, rfl, hr, _⟩ := opens_arg_struct op_lag Try.underlying47 hv hd hw
  refine ⟨x, ?_, trivial⟩
  have h := lag_conv hr
  cases cs
  have h' : _ = lEnc x := h
  simp only at h'
  rw [h']
  rfl
end
end Go.Proofs.Ythmnkmomgaamlaa
