/- The statement LpOne: the frame, from the walk to the given row. No condition. -/
import Derived.Test.YtdlcglndhhndpaaRows
import Derived.Test.YtdlcglndhhndpaaU08
import Derived.Test.YtdlcglndhhndpaaT33
import Derived.Test.YtdlcglndhhndpaaT21
import Derived.Test.YtdlcglndhhndpaaT40
import Derived.Test.YtdlcglndhhndpaaT07
import Derived.Test.YtdlcglndhhndpaaT09
set_option linter.unusedVariables false
namespace Go.Proofs.Ytdlcglndhhndpaa.lpOneDone
open Go.ChangeShapes Go.WideShapes Go.ChangeAt Go.RowKit
theorem lpOne_walk (A : Option Addr) (n cap : Nat) (l : List Fv) (A' : Option Addr) (m cap' : Nat) (ls : List Rv) (X : Option Addr) (nx cx : Nat) (a : List Fv) (Y : Option Addr) (ny cy : Nat) (b : List Fv) (w : World) (hl : RdF w w.heap.size A n cap l) (hr : RdR w w.heap.size A' m cap' ls) (hx : RdF w w.heap.size X nx cx a) (hy : RdF w w.heap.size Y ny cy b) :
    Calls Try.prog 9 #[.agg #[.slice A n cap, .slice A' m cap'], .slice X nx cx, .slice Y ny cy] w fun e w' => e = .returned (.bool true) ∧ Below w.heap.size w w' := one9_any A A' X Y n cap m cap' nx cx ny cy l ls a b w hl hr hx hy
theorem own : ownKnob Try.prog.godebug = none := by kernel_rfl
theorem laidOut : laidOutB Try.prog = true := by kernel_rfl
set_option maxRecDepth 100000 in
theorem lifted (os : Os) (started : os.Started) (H : Type) (enc : TypeId × Value → H) :
    ReturnsInHanded {} Try.checked os 9 .any (Rows.lpOneSpec.pre6 enc Try.prog Try.f9 Rows.lpOneRow.domain false) (Rows.lpOneSpec.post enc Try.prog Try.f9 false true false false) := by
  refine returnsInHanded_of_change_sized (C := Try.checked) own started (by kernel_rfl) Try.func9
    (ChangeSpec.witness6 (enc := enc) (C := Try.checked) false ⟨#[], #[.agg #[.slice none 0 0, .slice none 0 0], .slice none 0 0, .slice none 0 0], []⟩ 8 (by kernel_rfl) (by kernel_rfl) (by kernel_rfl) (by kernel_rfl)) ?_
  intro W base args ds gs before hval0 hW hcnd hsz0 _
  have hval : ∀ (j : Nat) t v, Try.f9.params[j]? = some t → args[j]? = some v → Value.okWide Try.prog W .any base t v := hval0
  have hsz : (DataW.weightsEach Try.prog (Try.f9.params.toList ++ Rows.lpOneSpec.plain.varTypes Try.prog) (ds ++ gs)).all (· ≤ reachBytes) = true := hsz0
  have hW' := hW
  obtain ⟨p, q, hA0, hV, rfl, hfz, hnd⟩ := hW
  have hA : DataW.TrodAll enc Try.prog W 0 (fun _ => true) true Try.f9.params.toList args.toList ds p := hA0
  rw [Try.params9] at hA hval hsz
  obtain ⟨v0, vs0, d0, ds0, p0, q0, hargs, rfl, rfl, h0, r0⟩ := trodAll_cons hA
  obtain ⟨v1, vs1, d1, ds1, p1, q1, rfl, rfl, rfl, h1, r1⟩ := trodAll_cons r0
  obtain ⟨v2, vs2, d2, ds2, p2, q2, rfl, rfl, rfl, h2, r2⟩ := trodAll_cons r1
  obtain ⟨rfl, rfl, rfl⟩ := trodAll_nil r2
  obtain rfl : args = #[v0, v1, v2] := by cases args; simp_all
  obtain ⟨rfl, rfl⟩ := trodVars_none hV
  have k0 := h0
  have wt0 : ∀ n ∈ d0.weights Try.prog 58, n ≤ reachBytes := fun n hn => by have := List.all_eq_true.1 hsz _ (DataW.weights_mem_each (j := 0) rfl rfl n hn); simpa using this
  obtain ⟨x0_0, x0_1, x0_2, x0_3, x0_4, x0_5, x0_6, x0_7, rfl, c0_0, c0_1⟩ := arg_prog (hval 0 58 v0 rfl rfl) h0 wt0
  have k1 := h1
  have wt1 : ∀ n ∈ d1.weights Try.prog 23, n ≤ reachBytes := fun n hn => by have := List.all_eq_true.1 hsz _ (DataW.weights_mem_each (j := 1) rfl rfl n hn); simpa using this
  obtain ⟨x1_0, x1_1, x1_2, x1_3, rfl, c1_0⟩ := arg_fracs (hval 1 23 v1 rfl rfl) h1 wt1
  have k2 := h2
  have wt2 : ∀ n ∈ d2.weights Try.prog 23, n ≤ reachBytes := fun n hn => by have := List.all_eq_true.1 hsz _ (DataW.weights_mem_each (j := 2) rfl rfl n hn); simpa using this
  obtain ⟨x2_0, x2_1, x2_2, x2_3, rfl, c2_0⟩ := arg_fracs (hval 2 23 v2 rfl rfl) h2 wt2
  clear hA0 hval0 hsz0 hsz hcnd
  refine (lpOne_walk x0_0 x0_1 x0_2 x0_3 x0_4 x0_5 x0_6 x0_7 x1_0 x1_1 x1_2 x1_3 x2_0 x2_1 x2_2 x2_3 W c0_0 c0_1 c1_0 c2_0).mono fun e W' ⟨he, bel⟩ => ?_
  subst he
  exact ⟨_, rfl, _, _, _, [], _, [], hW', trodAll_mk1 (shut_bool Try.underlying4 _), (trodAll_cons_mk (shut_any laidOut (by kernel_rfl) (of_decide_eq_true (by kernel_rfl)) k0 bel) (trodAll_cons_mk (shut_any laidOut (by kernel_rfl) (of_decide_eq_true (by kernel_rfl)) k1 bel) (trodAll_cons_mk (shut_any laidOut (by kernel_rfl) (of_decide_eq_true (by kernel_rfl)) k2 bel) trodAll_mk0))), rfl, bel.frame _, fun h => by cases h⟩
theorem over : Rows.lpOneRow.holds Try.pinned (OpenSpec.ofChange Rows.lpOneSpec) :=
  OpenClaim.holds_of_wide 9 Try.f9 rfl rfl rfl rfl rfl rfl rfl ⟨rfl, rfl, rfl, rfl, rfl⟩ rfl rfl rfl rfl rfl (by kernel_rfl) Try.func9 (by kernel_rfl)
    (of_decide_eq_true (by kernel_rfl)) (by unfold Func.isWrapper; first | (rw [if_pos (by decide +kernel)]; kernel_rfl) | (rw [if_neg (by decide +kernel)]; exact ⟨rfl, rfl⟩))
    (fun os started H enc _ => lifted os started H enc)
end Go.Proofs.Ytdlcglndhhndpaa.lpOneDone
namespace Go.Proofs.Ytdlcglndhhndpaa
theorem lpOne_holds : Rows.LpOneSaid := lpOneDone.over
#print axioms lpOne_holds
end Go.Proofs.Ytdlcglndhhndpaa
