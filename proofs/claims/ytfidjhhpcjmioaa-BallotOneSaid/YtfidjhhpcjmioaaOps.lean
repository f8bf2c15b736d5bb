/- Arguments of the statements of layer 34, opened: votes, cards, shares, bytes. No condition. -/
import Derived.Test.YtfidjhhpcjmioaaGen
import Derived.Test.YtfidjhhpcjmioaaCrd
namespace Go.Proofs.Ytfidjhhpcjmioaa
open Go.ChangeShapes Go.WideShapes Go.ChangeAt Go.RowKit Go.Deep
set_option linter.unusedVariables false

def I64 (x : Int) : Prop := -9223372036854775808 ≤ x ∧ x ≤ 9223372036854775807
theorem prE_flat {α β : Type} {s : Nat} {f : α → List Value} {g : β → List Value} {w : World} {B : Nat} {x : α × β} {cs : List Value} (h : prE s (flat f) (flat g) w B x cs) : cs = f x.1 ++ g x.2 := by
  obtain ⟨h1, h2⟩ := h
  rw [← List.take_append_drop s cs, h1, h2]
section
variable {H : Type} {enc : TypeId × Value → H} {w : World}
theorem op_share : Opens enc Try.prog w 39 2 (prE 1 (flat fun x => [.int .i64 x]) (flat fun x => [.int .i64 x])) (fun x : Int × Int => (Lit.int .i64 x.1).wf = true ∧ (Lit.int .i64 x.2).wf = true) :=
  opens_struct Try.underlying39 (by kernel_rfl) (opens_fields (opens_int Try.underlying3) rfl (by kernel_rfl) (opens_field (opens_int Try.underlying3) rfl (by kernel_rfl)))
theorem op_shares : Opens enc Try.prog w 22 1 (slE 2 (prE 1 (flat fun x => [.int .i64 x]) (flat fun x => [.int .i64 x]))) (fun l => ∀ x ∈ l, (Lit.int .i64 (x : Int × Int).1).wf = true ∧ (Lit.int .i64 x.2).wf = true) :=
  opens_slice op_share Try.underlying22 (by kernel_rfl) (by omega) (by decide +kernel)
theorem rd_shares {B : Nat} {A : Option Addr} {n cap : Nat} {l : List (Int × Int)} (h : Rd 2 (prE 1 (flat fun x => [.int .i64 x]) (flat fun x => [.int .i64 x])) w B A n cap l) : RdP w B A n cap l := h.conv fun x cs _ hx => by
  show cs = _
  rw [prE_flat hx]; rfl
theorem op_vote : Opens enc Try.prog w 43 3 (prE 1 (flat fun x => [.int .i64 x]) (prE 1 (flat fun x => [.bool x]) (flat fun x => [.int .i64 x]))) (fun x : Int × Bool × Int => (Lit.int .i64 x.1).wf = true ∧ True ∧ (Lit.int .i64 x.2.2).wf = true) :=
  opens_struct Try.underlying43 (by kernel_rfl) (opens_fields (opens_int Try.underlying3) rfl (by kernel_rfl) (opens_fields (opens_bool Try.underlying4) rfl (by kernel_rfl) (opens_field (opens_int Try.underlying3) rfl (by kernel_rfl))))
theorem vote_cells {B : Nat} {x : Vt} {cs : List Value} (h : prE 1 (flat fun x => [.int .i64 x]) (prE 1 (flat fun x => [.bool x]) (flat fun x => [.int .i64 x])) w B x cs) : cs = vEnc x := by
  obtain ⟨h1, h2⟩ := h
  rw [← List.take_append_drop 1 cs, h1, prE_flat h2]
  rfl
theorem op_card : Opens enc Try.prog w 47 2 (prE 1 (flat fun x => [.int .i64 x]) (slE 2 (prE 1 (flat fun x => [.int .i64 x]) (flat fun x => [.int .i64 x])))) (fun x : Int × List (Int × Int) => (Lit.int .i64 x.1).wf = true ∧ ∀ s ∈ x.2, (Lit.int .i64 s.1).wf = true ∧ (Lit.int .i64 s.2).wf = true) := by
  have h := opens_struct (enc := enc) (w := w) Try.underlying47 (sz := 2) (by kernel_rfl) (opens_fields (s := 1) (s' := 1) (opens_int Try.underlying3) rfl (by kernel_rfl) (opens_field op_shares rfl (by kernel_rfl)))
  exact h

variable {r : Reach} {b0 : Nat} {v : Value} {d : DataW H} {p : List MemPlace}
theorem arg_vote (hv : Value.okWide Try.prog w r b0 43 v) (hd : DataW.Trod enc Try.prog w 0 (fun _ => true) true 43 v d p) (hw : ∀ n ∈ d.weights Try.prog 43, n ≤ reachBytes) :
    ∃ m y s, v = .agg #[.int .i64 m, .bool y, .int .i64 s] ∧ I64 m ∧ I64 s := by
  obtain ⟨cs, x, rfl, hr, h1, _, h2⟩ := opens_arg_struct op_vote Try.underlying43 hv hd hw
  refine ⟨x.1, x.2.1, x.2.2, ?_, bounds_i64 h1, bounds_i64 h2⟩
  have h3 := vote_cells hr
  cases cs
  simp only at h3
  subst h3
  rfl
theorem arg_votes (hv : Value.okWide Try.prog w r b0 54 v) (hd : DataW.Trod enc Try.prog w 0 (fun _ => true) true 54 v d p) (hw : ∀ n ∈ d.weights Try.prog 54, n ≤ reachBytes) :
    ∃ A n cap l, v = .slice A n cap ∧ RdV w w.heap.size A n cap l ∧ ∀ x ∈ l, I64 x.1 ∧ I64 x.2.2 := by
  obtain ⟨A, n, cap, l, rfl, hr, h⟩ := opens_arg_slice (opens_slice op_vote Try.underlying54 (by kernel_rfl) (by omega) (by decide +kernel)) Try.underlying54 hv hd hw
  exact ⟨A, n, cap, l, rfl, hr.conv fun x cs _ hx => vote_cells hx, fun x hx => ⟨bounds_i64 (h x hx).1, bounds_i64 (h x hx).2.2⟩⟩
theorem arg_cards (hv : Value.okWide Try.prog w r b0 44 v) (hd : DataW.Trod enc Try.prog w 0 (fun _ => true) true 44 v d p) (hw : ∀ n ∈ d.weights Try.prog 44, n ≤ reachBytes) :
    ∃ A n cap l, v = .slice A n cap ∧ RdC w w.heap.size A n cap l := by
  obtain ⟨A, n, cap, l, rfl, hr, h⟩ := opens_arg_slice (opens_slice op_card Try.underlying44 (by kernel_rfl) (by omega) (by decide +kernel)) Try.underlying44 hv hd hw
  refine ⟨A, n, cap, l, rfl, hr.conv fun x cs _ ⟨h1, A', n', cap', h2, h3⟩ => ⟨A', n', cap', ?_, rd_shares h3⟩⟩
  rw [← List.take_append_drop 1 cs, h1, h2]
  rfl
theorem arg_shares (hv : Value.okWide Try.prog w r b0 22 v) (hd : DataW.Trod enc Try.prog w 0 (fun _ => true) true 22 v d p) (hw : ∀ n ∈ d.weights Try.prog 22, n ≤ reachBytes) :
    ∃ A n cap l, v = .slice A n cap ∧ RdP w w.heap.size A n cap l := by
  obtain ⟨A, n, cap, l, rfl, hr, h⟩ := opens_arg_slice op_shares Try.underlying22 hv hd hw
  exact ⟨A, n, cap, l, rfl, rd_shares hr⟩
theorem arg_bytes (hv : Value.okWide Try.prog w r b0 32 v) (hd : DataW.Trod enc Try.prog w 0 (fun _ => true) true 32 v d p) (hw : ∀ n ∈ d.weights Try.prog 32, n ≤ reachBytes) :
    ∃ A n cap l, v = .slice A n cap ∧ RdU w w.heap.size A n cap l ∧ ∀ x ∈ l, 0 ≤ x ∧ x ≤ 255 := by
  obtain ⟨A, n, cap, l, rfl, hr, h⟩ := opens_arg_slice (opens_slice (opens_int Try.underlying5) Try.underlying32 (by kernel_rfl) (by omega) (by decide +kernel)) Try.underlying32 hv hd hw
  exact ⟨A, n, cap, l, rfl, hr.conv fun x cs _ hx => hx, fun x hx => bounds_u8 (h x hx)⟩
end
end Go.Proofs.Ytfidjhhpcjmioaa
