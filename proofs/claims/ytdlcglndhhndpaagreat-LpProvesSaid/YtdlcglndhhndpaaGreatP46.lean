/- Laws and walks; conditions stand in each theorem. -/
import Derived.Test.YtdlcglndhhndpaaGreatRows
import Derived.Test.YtdlcglndhhndpaaGreatP45
set_option linter.unusedVariables false
set_option maxRecDepth 100000
namespace Go.Proofs.YtdlcglndhhndpaaGreat.lpProvesDone
open Go.ChangeShapes Go.WideShapes Go.ChangeAt Go.RowKit
theorem lpProves_walk (A : Option Addr) (n cap : Nat) (l : List Fv) (A' : Option Addr) (m cap' : Nat) (ls : List Rv) (X : Option Addr) (nx cx : Nat) (a : List Fv) (w : World) (hl : RdF w w.heap.size A n cap l) (hr : RdR w w.heap.size A' m cap' ls) (hx : RdF w w.heap.size X nx cx a) :
 Calls Tryz.prog 5 #[.agg #[.slice A n cap, .slice A' m cap'], .slice X nx cx] w fun e w' => e = .returned (.bool true) ∧ Below w.heap.size w w' := prov9_any A A' X n cap m cap' nx cx l ls a w hl hr hx
theorem own : ownKnob Tryz.prog.godebug = none := by kernel_rfl
theorem laidOut : laidOutB Tryz.prog = true := by kernel_rfl
theorem lifted (os : Os) (started : os.Started) (H : Type) (enc : TypeId × Value → H) :
 ReturnsInHanded {} Tryz.checked os 5 .any (Rows.lpProvesSpec.pre6 enc Tryz.prog Tryz.f5 Rows.lpProvesRow.domain false) (Rows.lpProvesSpec.post enc Tryz.prog Tryz.f5 false true false false) := by
 refine returnsInHanded_of_change_sized (C := Tryz.checked) own started (by kernel_rfl) Tryz.func5
  (ChangeSpec.witness6 (enc := enc) (C := Tryz.checked) false ⟨#[], #[.agg #[.slice none 0 0, .slice none 0 0], .slice none 0 0], []⟩ 8 (by kernel_rfl) (by kernel_rfl) (by kernel_rfl) (by kernel_rfl)) ?_
 intro W base args ds gs before hval0 hW hcnd hsz0 _
 have hval : ∀ (j : Nat) t v, Tryz.f5.params[j]? = some t → args[j]? = some v → Value.okWide Tryz.prog W .any base t v := hval0
 have hsz : (DataW.weightsEach Tryz.prog (Tryz.f5.params.toList ++ Rows.lpProvesSpec.plain.varTypes Tryz.prog) (ds ++ gs)).all (· ≤ reachBytes) = true := hsz0
 have hW' := hW
 obtain ⟨p, q, hA0, hV, rfl, hfz, hnd⟩ := hW
 have hA : DataW.TrodAll enc Tryz.prog W 0 (fun _ => true) true Tryz.f5.params.toList args.toList ds p := hA0
 rw [Tryz.params5] at hA hval hsz
 obtain ⟨v0, vs0, d0, ds0, p0, q0, hargs, rfl, rfl, h0, r0⟩ := trodAll_cons hA
 obtain ⟨v1, vs1, d1, ds1, p1, q1, rfl, rfl, rfl, h1, r1⟩ := trodAll_cons r0
 obtain ⟨rfl, rfl, rfl⟩ := trodAll_nil r1
 obtain rfl : args = #[v0, v1] := by cases args; simp_all
 obtain ⟨rfl, rfl⟩ := trodVars_none hV
 have k0 := h0
 have wt0 : ∀ n ∈ d0.weights Tryz.prog 38, n ≤ reachBytes := fun n hn => by have := List.all_eq_true.1 hsz _ (DataW.weights_mem_each (j := 0) rfl rfl n hn); simpa using this
 obtain ⟨x0_0, x0_1, x0_2, x0_3, x0_4, x0_5, x0_6, x0_7, rfl, c0_0, c0_1⟩ := arg_prog (hval 0 38 v0 rfl rfl) h0 wt0
 have k1 := h1
 have wt1 : ∀ n ∈ d1.weights Tryz.prog 23, n ≤ reachBytes := fun n hn => by have := List.all_eq_true.1 hsz _ (DataW.weights_mem_each (j := 1) rfl rfl n hn); simpa using this
 obtain ⟨x1_0, x1_1, x1_2, x1_3, rfl, c1_0⟩ := arg_fracs (hval 1 23 v1 rfl rfl) h1 wt1
 clear hA0 hval0 hsz0 hsz hcnd
 refine (lpProves_walk x0_0 x0_1 x0_2 x0_3 x0_4 x0_5 x0_6 x0_7 x1_0 x1_1 x1_2 x1_3 W c0_0 c0_1 c1_0).mono fun e W' ⟨he, bel⟩ => ?_
 subst he
 exact ⟨_, rfl, _, _, _, [], _, [], hW', trodAll_mk1 (shut_bool Tryz.underlying4 _), (trodAll_cons_mk (shut_any laidOut (by kernel_rfl) (of_decide_eq_true (by kernel_rfl)) k0 bel) (trodAll_cons_mk (shut_any laidOut (by kernel_rfl) (of_decide_eq_true (by kernel_rfl)) k1 bel) trodAll_mk0)), rfl, bel.frame _, fun h => by cases h⟩
theorem over : Rows.lpProvesRow.holds Tryz.pinned (OpenSpec.ofChange Rows.lpProvesSpec) :=
 OpenClaim.holds_of_wide 5 Tryz.f5 rfl rfl rfl rfl rfl rfl rfl ⟨rfl, rfl, rfl, rfl, rfl⟩ rfl rfl rfl rfl rfl (by kernel_rfl) Tryz.func5 (by kernel_rfl)
  (of_decide_eq_true (by kernel_rfl)) (by unfold Func.isWrapper; first | (rw [if_pos (by decide +kernel)]; kernel_rfl) | (rw [if_neg (by decide +kernel)]; exact ⟨rfl, rfl⟩))
  (fun os started H enc _ => lifted os started H enc)
end Go.Proofs.YtdlcglndhhndpaaGreat.lpProvesDone
namespace Go.Proofs.YtdlcglndhhndpaaGreat
theorem lpProves_holds : Rows.LpProvesSaid := lpProvesDone.over
#print axioms lpProves_holds
end Go.Proofs.YtdlcglndhhndpaaGreat
