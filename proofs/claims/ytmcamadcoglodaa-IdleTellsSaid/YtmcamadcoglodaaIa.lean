/- Words for memory: one element appended; make. No condition. -/
import Derived.Test.YtmcamadcoglodaaIm
namespace Go.Proofs.Ytmcamadcoglodaa
open Go.RowKit
set_option linter.unusedVariables false
section
variable {P : Program} {α : Type} {sz : Nat} {enc : α → List Value}
/-- one element, just laid at block H, appended to a slice of the call's own -/
theorem wpList_app1 (hs : Sized sz enc) {ops : Array Oper} {rest : List Oper} {o : Oper} {a : Act} {Q : Exit → Act → World → Prop} (hgd : o.guard = none) (s x : Operand) (t : TypeId)
    (ho : o.op = .call { callee := .builtin .append, args := #[s, x], argTypes := #[t, t] })
    (base : Nat) (e : TypeId) (i : TypeInfo) (z : Value) (bytes : Nat) (ht : P.underlying t = some (.slice e)) (hi : P.info? e = some i) (hz : i.zero = some z)
    (hsize : i.size = sz) (hby : i.bytes = bytes) (hzs : z.cells.size = sz)
    {w : World} (v : Value) (l : List α) (hv : a.eval s = v) (hown : Own sz enc w base e v l) (y : α) (cs : Array Value) (hcs : cs = (enc y).toArray) (H : Nat) (hH : w.heap.size = H) (hx : a.eval x = .slice (some ⟨H, 0, none⟩) 1 1)
    (hlen : l.length ≤ 1000000) (hbb : bytes ≤ 1000) (hbase : base ≤ w.heap.size)
    (h : ∀ v' w', Own sz enc w' base e v' (l ++ [y]) → Kept (fun b => v.ownBlock = some b) w w' → (∀ g, v'.ownBlock = some g → v.ownBlock = some g ∨ w.heap.size ≤ g) → (∀ B w0, B ≤ base → Below B w0 w → Below B w0 w') → wpList P ops Q rest (a.put o.dst v') w') : wpList P ops Q (o :: rest) a (w.alloc (.cells cs e)) := by
  subst hH
  refine wpList_app (w.alloc (.cells cs e)) hs hgd s x t ho base e i z bytes ht hi hz hsize hby hzs v l hv (hown.alloc _) _ _ 1 1 [y] hx (Rd.new1 hs w y cs hcs e) (by unfold maxLen; omega) ?_ (by simp; omega) ?_
  · have : (l.length + 1) * bytes ≤ (1000000 + 1) * 1000 := Nat.mul_le_mul (by omega) hbb
    omega
  · intro v' w' ho' hg' hx'
    have hk : Kept (fun b => v.ownBlock = some b) w w' := ((Kept.refl (fun b => v.ownBlock = some b) w).alloc _).trans (grown_kept hg') (fun _ _ h => h)
    refine h v' w' ho' hk (fun g hg => ?_) (fun B w0 hB hb => ?_)
    · rcases hx' with hx' | hx'
      · exact Or.inl (hx' ▸ hg)
      · rw [hx'] at hg; injection hg with hg; right; rw [← hg]; simp
    · exact Own.grow (hown.alloc _) hB (hb.alloc (by omega) _) (by simp; omega) hg'
end
/-- what a make leaves -/
theorem Own.made {w : World} {base n H : Nat} {e : TypeId} {cs : Array Value} (hH : w.heap.size = H) (hcs : cs = madeCells (Value.int .i64 0).cells (n * 1)) (hb : base ≤ w.heap.size) (hm : n ≤ 140737488351232) :
    Own 1 iEnc (w.alloc (.cells cs e)) base e (.slice (some ⟨H, 0, none⟩) n n) (ofF n (fun _ => (0 : Int))) := by
  subst hH
  subst hcs
  rw [← ofF_rep]
  refine Own.lit iSized hb (List.replicate n (0 : Int)) _ ?_ (by simp) hm
  have := madeCells_rep iSized (0 : Int) (.int .i64 0) rfl n
  rw [← this]
end Go.Proofs.Ytmcamadcoglodaa
