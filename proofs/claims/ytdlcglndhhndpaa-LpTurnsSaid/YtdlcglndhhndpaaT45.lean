/- The statement LpTurns: the frame, from the walk to the given row. No condition. -/
import Derived.Test.YtdlcglndhhndpaaRows
import Derived.Test.YtdlcglndhhndpaaT43
import Derived.Test.YtdlcglndhhndpaaT44
set_option linter.unusedVariables false
namespace Go.Proofs.Ytdlcglndhhndpaa.lpTurnsDone
open Go.ChangeShapes Go.WideShapes Go.ChangeAt Go.RowKit
theorem lpTurns_walk (A : Option Addr) (n cap : Nat) (l : List Fv) (A' : Option Addr) (m cap' : Nat) (ls : List Rv) (w : World) (hl : RdF w w.heap.size A n cap l) (hr : RdR w w.heap.size A' m cap' ls) : Calls Try.prog 7 #[.agg #[.slice A n cap, .slice A' m cap']] w fun e w' => e = .returned (.bool true) ∧ Below w.heap.size w w' := turns9_any A A' n cap m cap' l ls w hl hr
theorem own : ownKnob Try.prog.godebug = none := by kernel_rfl
theorem laidOut : laidOutB Try.prog = true := by kernel_rfl
set_option maxRecDepth 100000 in
theorem lifted (os : Os) (started : os.Started) (H : Type) (enc : TypeId × Value → H) :
    ReturnsInHanded {} Try.checked os 7 .any (Rows.lpTurnsSpec.pre6 enc Try.prog Try.f7 Rows.lpTurnsRow.domain false) (Rows.lpTurnsSpec.post enc Try.prog Try.f7 false true false false) := by
  refine returnsInHanded_of_change_sized (C := Try.checked) own started (by kernel_rfl) Try.func7
    (ChangeSpec.witness6 (enc := enc) (C := Try.checked) false ⟨#[], #[.agg #[.slice none 0 0, .slice none 0 0]], []⟩ 8 (by kernel_rfl) (by kernel_rfl) (by kernel_rfl) (by kernel_rfl)) ?_
  intro W base args ds gs before hval0 hW hcnd hsz0 _
  have hval : ∀ (j : Nat) t v, Try.f7.params[j]? = some t → args[j]? = some v → Value.okWide Try.prog W .any base t v := hval0
  have hsz : (DataW.weightsEach Try.prog (Try.f7.params.toList ++ Rows.lpTurnsSpec.plain.varTypes Try.prog) (ds ++ gs)).all (· ≤ reachBytes) = true := hsz0
  have hW' := hW
  obtain ⟨p, q, hA0, hV, rfl, hfz, hnd⟩ := hW
  have hA : DataW.TrodAll enc Try.prog W 0 (fun _ => true) true Try.f7.params.toList args.toList ds p := hA0
  rw [Try.params7] at hA hval hsz
  obtain ⟨v0, vs0, d0, ds0, p0, q0, hargs, rfl, rfl, h0, r0⟩ := trodAll_cons hA
  obtain ⟨rfl, rfl, rfl⟩ := trodAll_nil r0
  obtain rfl : args = #[v0] := by cases args; simp_all
  obtain ⟨rfl, rfl⟩ := trodVars_none hV
  have k0 := h0
  have wt0 : ∀ n ∈ d0.weights Try.prog 58, n ≤ reachBytes := fun n hn => by have := List.all_eq_true.1 hsz _ (DataW.weights_mem_each (j := 0) rfl rfl n hn); simpa using this
  obtain ⟨x0_0, x0_1, x0_2, x0_3, x0_4, x0_5, x0_6, x0_7, rfl, c0_0, c0_1⟩ := arg_prog (hval 0 58 v0 rfl rfl) h0 wt0
  clear hA0 hval0 hsz0 hsz hcnd
  refine (lpTurns_walk x0_0 x0_1 x0_2 x0_3 x0_4 x0_5 x0_6 x0_7 W c0_0 c0_1).mono fun e W' ⟨he, bel⟩ => ?_
  subst he
  exact ⟨_, rfl, _, _, _, [], _, [], hW', trodAll_mk1 (shut_bool Try.underlying4 _), (trodAll_cons_mk (shut_any laidOut (by kernel_rfl) (of_decide_eq_true (by kernel_rfl)) k0 bel) trodAll_mk0), rfl, bel.frame _, fun h => by cases h⟩
theorem over : Rows.lpTurnsRow.holds Try.pinned (OpenSpec.ofChange Rows.lpTurnsSpec) :=
  OpenClaim.holds_of_wide 7 Try.f7 rfl rfl rfl rfl rfl rfl rfl ⟨rfl, rfl, rfl, rfl, rfl⟩ rfl rfl rfl rfl rfl (by kernel_rfl) Try.func7 (by kernel_rfl)
    (of_decide_eq_true (by kernel_rfl)) (by unfold Func.isWrapper; first | (rw [if_pos (by decide +kernel)]; kernel_rfl) | (rw [if_neg (by decide +kernel)]; exact ⟨rfl, rfl⟩))
    (fun os started H enc _ => lifted os started H enc)
end Go.Proofs.Ytdlcglndhhndpaa.lpTurnsDone
namespace Go.Proofs.Ytdlcglndhhndpaa
theorem lpTurns_holds : Rows.LpTurnsSaid := lpTurnsDone.over
#print axioms lpTurns_holds
end Go.Proofs.Ytdlcglndhhndpaa
