/- Words for memory: one element appended onto a full slice that stays readable. No condition. -/
import Derived.Test.YthmnkmomgaamlaaLa
import Derived.ArgAppend
namespace Go.Proofs.Ythmnkmomgaamlaa
open Go.RowKit
set_option linter.unusedVariables false
section
variable {P : Program} {α : Type} {sz : Nat} {enc : α → List Value}
theorem flatMap_one (hs : Sized sz enc) (l : List α) : ∀ u ∈ l.flatMap enc, u.oneCell' = true := by
  intro u hu
  obtain ⟨x, _, hx⟩ := List.mem_flatMap.1 hu
  exact (hs.2 x).2 u hx
theorem wpList_grow1 (hs : Sized sz enc) {ops : Array Oper} {rest : List Oper} {o : Oper} {a : Act} {Q : Exit → Act → World → Prop} (hgd : o.guard = none) (s x : Operand) (t : TypeId)
    (ho : o.op = .call { callee := .builtin .append, args := #[s, x], argTypes := #[t, t] })
    (e : TypeId) (i : TypeInfo) (z : Value) (bytes : Nat) (ht : P.underlying t = some (.slice e)) (hi : P.info? e = some i) (hz : i.zero = some z)
    (hsize : i.size = sz) (hby : i.bytes = bytes) (hzs : z.cells.size = sz)
    {w : World} {B : Nat} {A : Option Addr} {n cap : Nat} {l : List α} (hr : Rd sz (flat enc) w B A n cap l) (hB : B ≤ w.heap.size) (hv : a.eval s = .slice A n cap) (hn : 0 < n) (hfull : cap < n + 1) (y : α) (cs : Array Value) (hcs : cs = (enc y).toArray) (H : Nat) (hH : w.heap.size = H) (hx : a.eval x = .slice (some ⟨H, 0, none⟩) 1 1)
    (hlen : n ≤ 1000000) (hbb : bytes ≤ 1000)
    (h : ∀ v' w', Own sz enc w' w.heap.size e v' (l ++ [y]) → Below w.heap.size w w' → wpList P ops Q rest (a.put o.dst v') w') : wpList P ops Q (o :: rest) a (w.alloc (.cells cs e)) := by
  subst hH
  obtain ⟨b, off, rfl, hb, hc⟩ := hr.cells hs hn
  have hl := hr.len
  have h1 : (n + 1) * bytes ≤ (1000000 + 1) * 1000 := Nat.mul_le_mul (by omega) hbb
  refine wpList_append_grows (w.alloc (.cells cs e)) hgd s x t ho e i z sz bytes ht hi hz hsize hby hzs hs.1 _ n cap (l.flatMap enc) hv (fun h => by cases h) (by rw [flatMap_len hs, hl]) (fun b' hb' j u hj => ?_) ⟨w.heap.size, 0, none⟩ 1 1 (enc y) hx (by rw [(hs.2 y).1, Nat.one_mul]) (fun j u hj => ?_) (hs.2 y).2 hfull (by unfold maxLen; omega) (by omega) (fun v' w' r1 r2 => ?_)
  · injection hb' with hb'
    subst hb'
    rw [Addr.add_lit]
    exact (World.cell?_alloc_lt _ _ _ (by show b < _; omega)).trans (hc j u hj)
  · rw [Addr.add_lit, Nat.zero_add]
    subst hcs
    simpa using hj
  · refine h v' w' ?_ ?_
    · have : Own sz enc w' (w.alloc (.cells cs e)).heap.size e v' (l ++ [y]) := by
        unfold Own
        rw [List.length_append, hl, List.flatMap_append]
        simpa using r1
      exact this.mono (by simp)
    · exact ((Below.refl w.heap.size w).alloc (Nat.le_refl _) _).grown r2 (by simp) (fun k hk => by cases hk)
/-- one element appended, inside a region that draws its order -/
theorem step_app1 (hs : Sized sz enc) {ops : Array Oper} {o : Oper} {a : Act} {K : Act → World → Prop} {Q : Exit → Act → World → Prop} {E : Prop} (hgd : o.guard = none) (s x : Operand) (t : TypeId)
    (ho : o.op = .call { callee := .builtin .append, args := #[s, x], argTypes := #[t, t] })
    (base : Nat) (e : TypeId) (i : TypeInfo) (z : Value) (bytes : Nat) (ht : P.underlying t = some (.slice e)) (hi : P.info? e = some i) (hz : i.zero = some z)
    (hsize : i.size = sz) (hby : i.bytes = bytes) (hzs : z.cells.size = sz)
    {w : World} (v : Value) (l : List α) (hv : a.eval s = v) (hown : Own sz enc w base e v l) (y : α) (cs : Array Value) (hcs : cs = (enc y).toArray) (H : Nat) (hH : w.heap.size = H) (hx : a.eval x = .slice (some ⟨H, 0, none⟩) 1 1)
    (hlen : l.length ≤ 1000000) (hbb : bytes ≤ 1000) (hbase : base ≤ w.heap.size)
    (h : ∀ v' w', Own sz enc w' base e v' (l ++ [y]) → Kept (fun b => v.ownBlock = some b) w w' → (∀ g, v'.ownBlock = some g → v.ownBlock = some g ∨ w.heap.size ≤ g) → (∀ B w0, B ≤ base → Below B w0 w → Below B w0 w') → K (a.put o.dst v') w') :
    if Region.wanted o (yielded ops a.tmps) = true then Oper.wp P o a (w.alloc (.cells cs e)) K Q else E := by
  subst hH
  have h1 : (l.length + 1) * bytes ≤ (1000000 + 1) * 1000 := Nat.mul_le_mul (by omega) hbb
  refine step_app (w.alloc (.cells cs e)) hs hgd s x t ho base e i z bytes ht hi hz hsize hby hzs v l hv (hown.alloc _) _ _ 1 1 [y] hx (Rd.new1 hs w y cs hcs e) (by unfold maxLen; omega) (by omega) (by simp; omega) ?_
  intro v' w' ho' hg' hx'
  have hk : Kept (fun b => v.ownBlock = some b) w w' := ((Kept.refl (fun b => v.ownBlock = some b) w).alloc _).trans (grown_kept hg') (fun _ _ h => h)
  refine h v' w' ho' hk (fun g hg => ?_) (fun B w0 hB hb => ?_)
  · rcases hx' with hx' | hx'
    · exact Or.inl (hx' ▸ hg)
    · rw [hx'] at hg; injection hg with hg; right; rw [← hg]; simp
  · exact Own.grow (hown.alloc _) hB (hb.alloc (by omega) _) (by simp; omega) hg'
end
end Go.Proofs.Ythmnkmomgaamlaa
