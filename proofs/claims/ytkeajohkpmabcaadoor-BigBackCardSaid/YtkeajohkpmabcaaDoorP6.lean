/- Contracts of package big at numbers, and a literal of ints as a step. Conditions stand in each theorem. -/
import Derived.Test.YtkeajohkpmabcaaDoorP5
import Derived.Test.YtkeajohkpmabcaaDoorW17
import Derived.Test.YtkeajohkpmabcaaDoorW10
namespace Go.Proofs.YtkeajohkpmabcaaDoor
open Go.RowKit
set_option linter.unusedVariables false
set_option linter.unusedSimpArgs false

theorem resT {z : Int} (h : fits z = true) : resZ true z = z := by unfold resZ; rw [if_pos ⟨rfl, h⟩]
theorem errT {z : Int} (h : fits z = true) : errZ true z = 0 := by unfold errZ; rw [if_neg (by simp), if_pos h]
section
variable (x y : Int) (s : Int) (A : Option Addr) (n cap : Nat) (l : List Int) (t : Int) (A' : Option Addr) (n' cap' : Nat) (m : List Int) (W : World)
variable (hl : RdI W W.heap.size A n cap l) (hm : RdI W W.heap.size A' n' cap' m) (h1 : Std s l x) (h2 : Std t m y) (f1 : fits x = true) (f2 : fits y = true)
include hl hm h1 h2 f1 f2
theorem nGcd : Calls Tryd.prog 12 #[.agg #[.int .i64 s, .slice A n cap], .agg #[.int .i64 t, .slice A' n' cap']] W (BigE W (Int.gcd x y : Int) 0) := by
  have h := bGcd_any s t A A' n cap n' cap' l m W hl hm
  rw [h1.right f1, h2.right f2, h1.val, h2.val] at h
  have e1 : gcdZ (true && true) x y = (Int.gcd x y : Int) := by unfold gcdZ; simp
  have e2 : okE (true && true) = 0 := rfl
  rw [e1, e2] at h
  exact h
theorem nDiv (hy : y ≠ 0) : Calls Tryd.prog 15 #[.agg #[.int .i64 s, .slice A n cap], .agg #[.int .i64 t, .slice A' n' cap']] W (BigE2 W (fq x y) (fr x y) 0) := by
  have h := bDiv_any s t A A' n cap n' cap' l m W hl hm
  have ht : t ≠ 0 := fun e => by
    rcases h2.signs with ⟨-, -, h⟩ | ⟨-, h, -⟩ | ⟨-, h, -⟩
    · exact hy h
    · omega
    · omega
  rw [h1.right f1, h2.right f2, h1.val, h2.val, if_neg (by simp), if_neg ht] at h
  exact h
theorem nDiv0 (hy : y = 0) : Calls Tryd.prog 15 #[.agg #[.int .i64 s, .slice A n cap], .agg #[.int .i64 t, .slice A' n' cap']] W (BigE2 W 0 0 15) := by
  have h := bDiv_any s t A A' n cap n' cap' l m W hl hm
  have ht : t = 0 := by
    rcases h2.signs with ⟨-, h, -⟩ | ⟨-, -, h⟩ | ⟨-, -, h⟩ <;> omega
  rw [h1.right f1, h2.right f2, h1.val, h2.val, if_neg (by simp), if_pos ht] at h
  exact h
theorem nMul : Calls Tryd.prog 16 #[.agg #[.int .i64 s, .slice A n cap], .agg #[.int .i64 t, .slice A' n' cap']] W (BigE W (resZ true (x * y)) (errZ true (x * y))) := by
  have h := bMul_any s t A A' n cap n' cap' l m W hl hm
  rw [h1.right f1, h2.right f2, h1.val, h2.val] at h
  exact h
theorem nMulT (hf : fits (x * y) = true) : Calls Tryd.prog 16 #[.agg #[.int .i64 s, .slice A n cap], .agg #[.int .i64 t, .slice A' n' cap']] W (BigE W (x * y) 0) := by
  have h := bMul_any s t A A' n cap n' cap' l m W hl hm
  rw [h1.right f1, h2.right f2, h1.val, h2.val, Bool.true_and, resT hf, errT hf] at h
  exact h
theorem nAdd : Calls Tryd.prog 20 #[.agg #[.int .i64 s, .slice A n cap], .agg #[.int .i64 t, .slice A' n' cap']] W (BigE W (resZ true (x + y)) (errZ true (x + y))) := by
  have h := bAdd_any s t A A' n cap n' cap' l m W hl hm
  rw [h1.right f1, h2.right f2, h1.val, h2.val] at h
  exact h
theorem nAddT (hf : fits (x + y) = true) : Calls Tryd.prog 20 #[.agg #[.int .i64 s, .slice A n cap], .agg #[.int .i64 t, .slice A' n' cap']] W (BigE W (x + y) 0) := by
  have h := bAdd_any s t A A' n cap n' cap' l m W hl hm
  rw [h1.right f1, h2.right f2, h1.val, h2.val, Bool.true_and, resT hf, errT hf] at h
  exact h
theorem nSubT (hf : fits (x - y) = true) : Calls Tryd.prog 22 #[.agg #[.int .i64 s, .slice A n cap], .agg #[.int .i64 t, .slice A' n' cap']] W (BigE W (x - y) 0) := by
  have h := bSub_any s t A A' n cap n' cap' l m W hl hm
  rw [h1.right f1, h2.right f2, h1.val, h2.val, Bool.true_and, resT hf, errT hf] at h
  exact h
theorem nCompare : Calls Tryd.prog 23 #[.agg #[.int .i64 s, .slice A n cap], .agg #[.int .i64 t, .slice A' n' cap']] W fun e w' => e = .returned (.int .i64 (cmpI x y)) ∧ Below W.heap.size W w' := by
  have h := bcompare_any s t A A' n cap n' cap' l m W hl hm
  have e : cmpB s l t m = cmpI x y := by
    unfold cmpB
    rw [if_pos ⟨h1.right f1, h2.right f2⟩, h1.val, h2.val]
  rw [e] at h
  exact h
end
section
variable (x : Int) (s : Int) (A : Option Addr) (n cap : Nat) (l : List Int) (W : World) (hl : RdI W W.heap.size A n cap l) (h1 : Std s l x) (f1 : fits x = true)
include hl h1 f1
theorem nNeg : Calls Tryd.prog 13 #[.agg #[.int .i64 s, .slice A n cap]] W (BigR W (-x)) := by
  have h := bneg_any s A n cap l W hl
  have e : negZ s l = -x := by
    unfold negZ
    rw [if_pos (h1.right f1), h1.val]
  rw [e] at h
  exact h
theorem nRight : Calls Tryd.prog 11 #[.agg #[.int .i64 s, .slice A n cap]] W fun e w' => e = .returned (.bool true) ∧ Below W.heap.size W w' := by
  have h := bright_any s A n cap l W hl
  rw [h1.right f1] at h
  exact h
theorem nText (ht : Tab W) : Calls Tryd.prog 18 #[.agg #[.int .i64 s, .slice A n cap]] W fun e w' => ∃ T : ByteArray, e = .returned (.string T) ∧ T.data.toList = Lib.itoa x ∧ Below W.heap.size W w' := by
  have h := btext_any s A n cap l W hl ht
  have e : textB s l = ⟨(Lib.itoa x).toArray⟩ := by
    unfold textB
    rw [if_pos (h1.right f1), h1.val]
  rw [e] at h
  exact h.mono fun e w' ⟨h1, h2⟩ => ⟨_, h1, rfl, h2⟩
theorem nIntT (hx : -9223372036854775808 ≤ x ∧ x ≤ 9223372036854775807) : Calls Tryd.prog 24 #[.agg #[.int .i64 s, .slice A n cap]] W fun e w' => e = .returned (.tuple #[.int .i64 x, .bool true]) ∧ Below W.heap.size W w' := by
  have h := bInt_any s A n cap l W hl
  have e1 : intC s l = true := by unfold intC; rw [h1.right f1, h1.val, decide_eq_true hx]; rfl
  have e2 : intV s l = x := by unfold intV; rw [if_pos e1, h1.val]
  rw [e1, e2] at h
  exact h
theorem nIntF (hx : ¬ (-9223372036854775808 ≤ x ∧ x ≤ 9223372036854775807)) : Calls Tryd.prog 24 #[.agg #[.int .i64 s, .slice A n cap]] W fun e w' => e = .returned (.tuple #[.int .i64 0, .bool false]) ∧ Below W.heap.size W w' := by
  have h := bInt_any s A n cap l W hl
  have e1 : intC s l = false := by unfold intC; rw [h1.right f1, h1.val, decide_eq_false hx]; rfl
  rw [e1, intC_false e1] at h
  exact h
end
/-- two results that a callee has made -/
theorem St.ret2 {w W W' : World} {L : List Blk} {D : List Hl} (h : St w L D W) (hb : Below W.heap.size W W') {A A' : Option Addr} {n cap n' cap' : Nat} {l m : List Int} (hl : RdI W' W'.heap.size A n cap l) (hm : RdI W' W'.heap.size A' n' cap' m) (hA : FrA W.heap.size A) (hA' : FrA W.heap.size A') :
    St w L (⟨rdP A' n' cap' m, rdS A' n'⟩ :: ⟨rdP A n cap l, rdS A n⟩ :: D) W' := by
  have h1 := h.ret hb hl hA
  have h2 := h.ret hb hm hA'
  exact h1.add (h2.2.2.2 _ List.mem_cons_self)
/-- a literal of ints -/
theorem run_lit2 (x y : Int) (W : World) : (Instr.buildSlice 22 2 #[(0, .int .i64 x), (1, .int .i64 y)]).run Tryd.prog W = .ok (.slice (some ⟨W.heap.size, 0, none⟩) 2 2) (W.alloc (.cells #[.int .i64 x, .int .i64 y] 3)) := by kernel_rfl
theorem run_lit4 (x y z u : Int) (W : World) : (Instr.buildSlice 22 4 #[(0, .int .i64 x), (1, .int .i64 y), (2, .int .i64 z), (3, .int .i64 u)]).run Tryd.prog W = .ok (.slice (some ⟨W.heap.size, 0, none⟩) 4 4) (W.alloc (.cells #[.int .i64 x, .int .i64 y, .int .i64 z, .int .i64 u] 3)) := by kernel_rfl
theorem run_lit1 (x : Int) (W : World) : (Instr.buildSlice 22 1 #[(0, .int .i64 x)]).run Tryd.prog W = .ok (.slice (some ⟨W.heap.size, 0, none⟩) 1 1) (W.alloc (.cells #[.int .i64 x] 3)) := by kernel_rfl
theorem St.lit {w W : World} {L : List Blk} {D : List Hl} {ops : Array Oper} {rest : List Oper} {o : Oper} {a : Act} {Q : Exit → Act → World → Prop} (K : St w L D W) (hgd : o.guard = none) (ty : TypeId) (n : Nat) (parts : Array (Nat × Operand)) (ho : o.op = .buildSlice ty n parts) (ps : Array (Nat × Value)) (hps : parts.map (fun p => (p.1, a.eval p.2)) = ps) (cs : Array Value) (hrun : (Instr.buildSlice ty n ps).run Tryd.prog W = .ok (.slice (some ⟨W.heap.size, 0, none⟩) n n) (W.alloc (.cells cs 3))) (l : List Int) (hcs : cs = (l.flatMap iEnc).toArray) (hl : l.length = n) (hn : n ≤ 1000)
    (h : ∀ W' A, FrA w.heap.size A → St w L (⟨rdP A n n l, rdS A n⟩ :: D) W' → wpList Tryd.prog ops Q rest (a.put o.dst (.slice A n n)) W') : wpList Tryd.prog ops Q (o :: rest) a W := by
  refine wpList_plain hgd fun _ hK => ?_
  unfold Oper.wp execOp
  simp only [ho, Sem.run_bind, Sem.run_pure, Result.andThen_ok]
  have hr : RdI (W.alloc (.cells cs 3)) (W.alloc (.cells cs 3)).heap.size (some ⟨W.heap.size, 0, none⟩) n n l := Rd.litG iSized (w := W) 3 l cs n _ rfl hcs hl (by omega)
  have hf : FrA W.heap.size (some (⟨W.heap.size, 0, none⟩ : Addr)) := fun a e => by injection e with e; subst e; exact Nat.le_refl _
  have h1 := h _ _ (hf.mono K.1.size) (K.ret ((Below.refl _ _).alloc (Nat.le_refl _) _) hr hf)
  rw [hps, hrun]
  exact hK _ _ h1
end Go.Proofs.YtkeajohkpmabcaaDoor
