/- The statement LpScales: the frame, from the walk to the given row. No condition. -/
import Derived.Test.YtdlcglndhhndpaaRows
import Derived.Test.YtdlcglndhhndpaaS05
import Derived.Test.YtdlcglndhhndpaaS06
import Derived.Test.YtdlcglndhhndpaaT41
import Derived.Test.YtdlcglndhhndpaaT42
import Derived.Test.YtdlcglndhhndpaaT40
import Derived.Test.YtdlcglndhhndpaaT33
import Derived.Test.YtdlcglndhhndpaaT43
import Derived.Test.YtdlcglndhhndpaaT44
set_option linter.unusedVariables false
namespace Go.Proofs.Ytdlcglndhhndpaa.lpScalesDone
open Go.ChangeShapes Go.WideShapes Go.ChangeAt Go.RowKit
theorem lpScales_walk (A : Option Addr) (n cap : Nat) (l : List Fv) (A' : Option Addr) (m cap' : Nat) (ls : List Rv) (i1 i2 i3 : Int) (s t : Int) (A2 B2 : Option Addr) (n2 c2 m2 d2 : Nat) (l2 k2 : List Int) (w : World) (hl : RdF w w.heap.size A n cap l) (hr : RdR w w.heap.size A' m cap' ls) (h1 : 0 ≤ i1 ∧ i1 ≤ 255) (h2 : 0 ≤ i2 ∧ i2 ≤ 255) (h3 : 0 ≤ i3 ∧ i3 ≤ 255) (r2 : RdI w w.heap.size A2 n2 c2 l2) (q2 : RdI w w.heap.size B2 m2 d2 k2) :
    Calls Try.prog 8 #[.agg #[.slice A n cap, .slice A' m cap'], .int .u8 i1, .int .u8 i2, .int .u8 i3, .agg #[.int .i64 s, .slice A2 n2 c2, .int .i64 t, .slice B2 m2 d2]] w fun e w' => e = .returned (.bool true) ∧ Below w.heap.size w w' := scales9_any A A' n cap m cap' l ls i1 i2 i3 ⟨s, A2, n2, c2, l2, t, B2, m2, d2, k2⟩ w hl hr h1 h2 h3 r2 q2
theorem own : ownKnob Try.prog.godebug = none := by kernel_rfl
theorem laidOut : laidOutB Try.prog = true := by kernel_rfl
set_option maxRecDepth 100000 in
theorem lifted (os : Os) (started : os.Started) (H : Type) (enc : TypeId × Value → H) :
    ReturnsInHanded {} Try.checked os 8 .any (Rows.lpScalesSpec.pre6 enc Try.prog Try.f8 Rows.lpScalesRow.domain false) (Rows.lpScalesSpec.post enc Try.prog Try.f8 false true false false) := by
  refine returnsInHanded_of_change_sized (C := Try.checked) own started (by kernel_rfl) Try.func8
    (ChangeSpec.witness6 (enc := enc) (C := Try.checked) false ⟨#[], #[.agg #[.slice none 0 0, .slice none 0 0], .int .u8 0, .int .u8 0, .int .u8 0, .agg #[.int .i64 0, .slice none 0 0, .int .i64 0, .slice none 0 0]], []⟩ 8 (by kernel_rfl) (by kernel_rfl) (by kernel_rfl) (by kernel_rfl)) ?_
  intro W base args ds gs before hval0 hW hcnd hsz0 _
  have hval : ∀ (j : Nat) t v, Try.f8.params[j]? = some t → args[j]? = some v → Value.okWide Try.prog W .any base t v := hval0
  have hsz : (DataW.weightsEach Try.prog (Try.f8.params.toList ++ Rows.lpScalesSpec.plain.varTypes Try.prog) (ds ++ gs)).all (· ≤ reachBytes) = true := hsz0
  have hW' := hW
  obtain ⟨p, q, hA0, hV, rfl, hfz, hnd⟩ := hW
  have hA : DataW.TrodAll enc Try.prog W 0 (fun _ => true) true Try.f8.params.toList args.toList ds p := hA0
  rw [Try.params8] at hA hval hsz
  obtain ⟨v0, vs0, d0, ds0, p0, q0, hargs, rfl, rfl, h0, r0⟩ := trodAll_cons hA
  obtain ⟨v1, vs1, d1, ds1, p1, q1, rfl, rfl, rfl, h1, r1⟩ := trodAll_cons r0
  obtain ⟨v2, vs2, d2, ds2, p2, q2, rfl, rfl, rfl, h2, r2⟩ := trodAll_cons r1
  obtain ⟨v3, vs3, d3, ds3, p3, q3, rfl, rfl, rfl, h3, r3⟩ := trodAll_cons r2
  obtain ⟨v4, vs4, d4, ds4, p4, q4, rfl, rfl, rfl, h4, r4⟩ := trodAll_cons r3
  obtain ⟨rfl, rfl, rfl⟩ := trodAll_nil r4
  obtain rfl : args = #[v0, v1, v2, v3, v4] := by cases args; simp_all
  obtain ⟨rfl, rfl⟩ := trodVars_none hV
  have k0 := h0
  have wt0 : ∀ n ∈ d0.weights Try.prog 58, n ≤ reachBytes := fun n hn => by have := List.all_eq_true.1 hsz _ (DataW.weights_mem_each (j := 0) rfl rfl n hn); simpa using this
  obtain ⟨x0_0, x0_1, x0_2, x0_3, x0_4, x0_5, x0_6, x0_7, rfl, c0_0, c0_1⟩ := arg_prog (hval 0 58 v0 rfl rfl) h0 wt0
  obtain ⟨a1, rfl, rfl, rfl, w1⟩ := open_int Try.underlying5 (hval 1 5 v1 rfl rfl) h1
  have b1 := bounds_u8 w1
  obtain ⟨a2, rfl, rfl, rfl, w2⟩ := open_int Try.underlying5 (hval 2 5 v2 rfl rfl) h2
  have b2 := bounds_u8 w2
  obtain ⟨a3, rfl, rfl, rfl, w3⟩ := open_int Try.underlying5 (hval 3 5 v3 rfl rfl) h3
  have b3 := bounds_u8 w3
  have k4 := h4
  have wt4 : ∀ n ∈ d4.weights Try.prog 40, n ≤ reachBytes := fun n hn => by have := List.all_eq_true.1 hsz _ (DataW.weights_mem_each (j := 4) rfl rfl n hn); simpa using this
  obtain ⟨x4_0, x4_1, x4_2, x4_3, x4_4, x4_5, x4_6, x4_7, x4_8, x4_9, rfl, c4_0, c4_1⟩ := arg_frc (hval 4 40 v4 rfl rfl) h4 wt4
  clear hA0 hval0 hsz0 hsz hcnd
  refine (lpScales_walk x0_0 x0_1 x0_2 x0_3 x0_4 x0_5 x0_6 x0_7 a1 a2 a3 x4_0 x4_1 x4_2 x4_3 x4_4 x4_5 x4_6 x4_7 x4_8 x4_9 W c0_0 c0_1 b1 b2 b3 c4_0 c4_1).mono fun e W' ⟨he, bel⟩ => ?_
  subst he
  exact ⟨_, rfl, _, _, _, [], _, [], hW', trodAll_mk1 (shut_bool Try.underlying4 _), (trodAll_cons_mk (shut_any laidOut (by kernel_rfl) (of_decide_eq_true (by kernel_rfl)) k0 bel) (trodAll_cons_mk (shut_int Try.underlying5 w1) (trodAll_cons_mk (shut_int Try.underlying5 w2) (trodAll_cons_mk (shut_int Try.underlying5 w3) (trodAll_cons_mk (shut_any laidOut (by kernel_rfl) (of_decide_eq_true (by kernel_rfl)) k4 bel) trodAll_mk0))))), rfl, bel.frame _, fun h => by cases h⟩
theorem over : Rows.lpScalesRow.holds Try.pinned (OpenSpec.ofChange Rows.lpScalesSpec) :=
  OpenClaim.holds_of_wide 8 Try.f8 rfl rfl rfl rfl rfl rfl rfl ⟨rfl, rfl, rfl, rfl, rfl⟩ rfl rfl rfl rfl rfl (by kernel_rfl) Try.func8 (by kernel_rfl)
    (of_decide_eq_true (by kernel_rfl)) (by unfold Func.isWrapper; first | (rw [if_pos (by decide +kernel)]; kernel_rfl) | (rw [if_neg (by decide +kernel)]; exact ⟨rfl, rfl⟩))
    (fun os started H enc _ => lifted os started H enc)
end Go.Proofs.Ytdlcglndhhndpaa.lpScalesDone
namespace Go.Proofs.Ytdlcglndhhndpaa
theorem lpScales_holds : Rows.LpScalesSaid := lpScalesDone.over
#print axioms lpScales_holds
end Go.Proofs.Ytdlcglndhhndpaa
