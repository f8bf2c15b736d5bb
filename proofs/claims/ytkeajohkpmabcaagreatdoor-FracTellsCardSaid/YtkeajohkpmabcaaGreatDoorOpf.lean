/- Arguments of the statements of layer 5, opened; the variable that the library's search reads. Conditions stand in each theorem. -/
import Derived.Test.YtkeajohkpmabcaaGreatDoorOps
import Derived.Test.YtkeajohkpmabcaaGreatDoorT
import Derived.Handed
import Derived.Shelf.Vars
namespace Go.Proofs.YtkeajohkpmabcaaGreatDoor
open Go.ChangeShapes Go.WideShapes Go.ChangeAt Go.RowKit Go.Deep
set_option linter.unusedVariables false
set_option linter.unusedSimpArgs false

section
variable {H : Type} {enc : TypeId × Value → H} {w : World}
abbrev bgE : Enc (Int × List Int) := prE 1 (flat fun x => [.int .i64 x]) (slE 1 (flat fun x => [.int .i64 x]))
set_option maxRecDepth 100000 in
theorem op_frac : Opens enc Tryz.prog w 43 4 (prE 2 bgE bgE) (fun _ : (Int × List Int) × (Int × List Int) => True) := by
  have h := opens_struct (enc := enc) (w := w) Tryz.underlying43 (sz := 4) (by kernel_rfl)
    (opens_fields (s := 2) (s' := 2) op_big rfl (by kernel_rfl) (opens_field op_big rfl (by kernel_rfl)))
  intro fuel cs y h1 h2
  obtain ⟨a, x, b, _⟩ := h fuel cs y h1 h2
  exact ⟨a, x, b, trivial⟩
theorem bg_cells {w : World} {B : Nat} {x : Int × List Int} {cs : List Value} (h : bgE w B x cs) : ∃ A n cap, cs = [.int .i64 x.1, .slice A n cap] ∧ RdI w B A n cap x.2 := by
  obtain ⟨h1, A, n, cap, h2, h3⟩ := h
  refine ⟨A, n, cap, ?_, h3⟩
  have h1 : cs.take 1 = [.int .i64 x.1] := h1
  rw [← List.take_append_drop 1 cs, h1, h2]
  rfl
variable {r : Reach} {b0 : Nat} {v : Value} {d : DataW H} {p : List MemPlace}
set_option maxRecDepth 100000 in
theorem arg_frac (hv : Value.okWide Tryz.prog w r b0 43 v) (hd : DataW.Trod enc Tryz.prog w 0 (fun _ => true) true 43 v d p) (hw : ∀ n ∈ d.weights Tryz.prog 43, n ≤ reachBytes) :
    ∃ s t A B n cap m cap' l k, v = .agg #[.int .i64 s, .slice A n cap, .int .i64 t, .slice B m cap'] ∧ RdI w w.heap.size A n cap l ∧ RdI w w.heap.size B m cap' k := by
  obtain ⟨cs, x, rfl, hr, _⟩ := opens_arg_struct op_frac Tryz.underlying43 hv hd hw
  obtain ⟨h1, h2⟩ := hr
  obtain ⟨A, n, cap, e1, r1⟩ := bg_cells h1
  obtain ⟨B, m, cap', e2, r2⟩ := bg_cells h2
  refine ⟨x.1.1, x.2.1, A, B, n, cap, m, cap', x.1.2, x.2.2, ?_, r1, r2⟩
  have e : cs.toList = [.int .i64 x.1.1, .slice A n cap, .int .i64 x.2.1, .slice B m cap'] := by
    rw [← List.take_append_drop 2 cs.toList, e1, e2]
    rfl
  cases cs
  simp only at e
  subst e
  rfl
end
set_option maxRecDepth 100000 in
theorem max_of {W : World} (h : W.ShapedOpen Tryz.prog) : ∃ m, W.cell? ⟨0, 0, none⟩ = some (.int .i64 m) :=
  cell_of_shapedOpen_int (P := Tryz.prog) (g := 0) (t := 3) (zero := #[.int .i64 0]) h (of_decide_eq_true (by kernel_rfl)) (by kernel_rfl) rfl (by kernel_rfl) (by kernel_rfl) Tryz.underlying3
theorem cell_lt {W : World} {p : Addr} {v : Value} (h : W.cell? p = some v) : p.block < W.heap.size := by
  unfold World.cell? at h
  by_cases hb : p.block < W.heap.size
  · exact hb
  · rw [Array.getElem?_eq_none (by omega)] at h
    simp at h
theorem tabM_of {W : World} (h : laidMetH Tryz.prog laidAll5 W) (hs : W.ShapedOpen Tryz.prog) : TabM W := by
  obtain ⟨m, hm⟩ := max_of hs
  exact ⟨tab_of h, m, fun W' hb => (hb.cell (p := ⟨0, 0, none⟩) (cell_lt hm)).trans hm⟩
/-- a call from a world of the program's shape, as the form asks for it -/
theorem handed_shaped {H : Type} {enc : TypeId × Value → H} {a : Assume} {C : Checked} {os : Os} {f : FuncId} {fn : Func} {s : ChangeSpec} {conds : List PathCond} {apart fresh handsOn again : Bool} {X : World → Array Value → Prop}
    (hX : ∀ (w w' : World) (args : Array Value), w.heap = w'.heap → X w args → X w' args) (own : ownKnob C.prog.godebug = none) (started : os.Started) (noInit : C.prog.inits.idxOf? f = none) (hfn : C.prog.funcs[f]? = some fn)
    (witness : ∃ (w : World) (tape : Tape) (i : Input), w.os = os ∧ (w.forCall tape i).Shaped C.prog ∧ i.vars = [] ∧ Input.okWide C.prog (w.forCall tape i) .any w.heap.size f i ∧
      ((s.pre enc C.prog fn conds apart (w.forCall tape i).memory i.args ∧ X (w.forCall tape i).memory i.args) ∧ sizedMet enc C.prog fn (OpenSpec.ofChange s) apart (w.forCall tape i).memory i.args) ∧ a.holds C.prog (lone (Frame.enter C.prog f i.args .normal) [] (w.forCall tape i)))
    (walk : ∀ (W : World) (base : Nat) (args : Array Value) (ds gs : List (DataW H)) (before : List MemPlace),
      (∀ (j : Nat) t v, fn.params[j]? = some t → args[j]? = some v → Value.okWide C.prog W .any base t v) → DataW.Whole enc C.prog fn.params.toList s.vars apart W args.toList ds gs before →
      (DataW.weightsEach C.prog (fn.params.toList ++ s.plain.varTypes C.prog) (ds ++ gs)).all (· ≤ reachBytes) = true → X W args → W.ShapedOpen C.prog →
      Calls C.prog f args W fun e W' => ∃ v, e = .returned v ∧ s.post enc C.prog fn apart fresh handsOn again W args v W') :
    ReturnsInHanded a C os f .any (fun w args => (s.pre enc C.prog fn conds apart w args ∧ X w args) ∧ sizedMet enc C.prog fn (OpenSpec.ofChange s) apart w args) (s.post enc C.prog fn apart fresh handsOn again) := by
  refine returnsInHanded_of_calls own started noInit witness ?_
  intro w tape i _ hsh _ hok hpre _
  obtain ⟨_, _, _, fn', hfn', _, _, _, _, hval⟩ := hok
  have e : fn' = fn := Option.some.inj (hfn'.symm.trans hfn)
  subst e
  obtain ⟨⟨⟨ds, gs, before, hw, -⟩, hx⟩, hz⟩ := hpre
  refine (walk (w.forCall tape i) w.heap.size i.args ds gs before hval (DataW.Whole.of_heap (w' := w.forCall tape i) (by rfl) hw) (hz.weights hw) (hX _ _ _ (by rfl) hx) hsh).mono fun e W' ⟨v, he, hp⟩ => ?_
  subst he
  exact ChangeSpec.post_blind hp
end Go.Proofs.YtkeajohkpmabcaaGreatDoor
