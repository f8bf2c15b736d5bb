/- Laws and walks; conditions stand in each theorem. -/
import Derived.Test.YtdlcglndhhndpaaGreatL14
set_option linter.unusedSimpArgs false
set_option linter.unusedVariables false
namespace Go.Proofs.YtdlcglndhhndpaaGreat
open Go.RowKit
theorem ZL88 {p : Prop} (h : p := by
 first
  | (rcases g3 with g3 | g3
     · exact Or.inl (g3 ▸ hg)
     · rw [g3] at hg
       injection hg with hg
       right
       omega)
  | fail) : p := h
section
variable {P : Program} {o : Oper} {a : Act} {KK : Act → World → Prop} {Q : Exit → Act → World → Prop} {w W : World} {L X : List Blk} {D : List Hl}
theorem St.litOp (K : St w L D W) (ty : TypeId) (x : Operand) (ho : o.op = .buildSlice ty 1 #[(0, x)]) (u : Value) (hx : a.eval x = u) (cs : Array Value) (e : TypeId) (hrun : (Instr.buildSlice ty 1 #[(0, u)]).run P W = .ok (.slice (some ⟨W.heap.size, 0, none⟩) 1 1) (W.alloc (.cells cs e)))
 (h : ∀ b W', St w ((b, cs, e) :: L) D W' → KK (a.put o.dst (.slice (some ⟨b, 0, none⟩) 1 1)) W') : o.wp P a W KK Q := by
 unfold Oper.wp execOp
 simp [ho, hx, hrun, Oper.upon]
 exact h _ _ (K.new cs e)
theorem St.appOp {α : Type} {sz : Nat} {enc : α → List Value} {e : TypeId} {v : Value} {l : List α} (K : St w (X ++ L) D W) (ho : OwL sz enc e v l X) (hs : Sized sz enc) (s x : Operand) (t : TypeId)
 (hop : o.op = .call { callee := .builtin .append, args := #[s, x], argTypes := #[t, t] }) (z : Array Value) (bytes : Nat) (ht : P.underlying t = some (.slice e)) (hi : (P.info? e).map (fun i => (i.zero.map (·.cells), i.size, i.bytes)) = some (some z, sz, bytes)) (hz : z.size = sz)
 (hv : a.eval s = v) (y : α) (b : Nat) (e' : TypeId) (hb : ((b, (enc y).toArray, e') : Blk) ∈ L) (hx : a.eval x = .slice (some ⟨b, 0, none⟩) 1 1) (hlen : l.length ≤ 1000000) (hbb : bytes ≤ 1000)
 (h : ∀ v' X' W', OwL sz enc e v' (l ++ [y]) X' → St w (X' ++ L) D W' → KK (a.put o.dst v') W') : o.wp P a W KK Q := by
 obtain ⟨i, h1, h2⟩ := Option.map_eq_some_iff.1 hi
 simp only [Prod.mk.injEq] at h2
 obtain ⟨h2, h3, h4⟩ := h2
 obtain ⟨zv, h5, h6⟩ := Option.map_eq_some_iff.1 h2
 have hB := K.blk (List.mem_append_right X hb)
 have hr : Rd sz (flat enc) W W.heap.size (some ⟨b, 0, none⟩) 1 1 [y] := ⟨rfl, Nat.le_refl _, ⟨by omega, by omega⟩, fun _ => ⟨b, 0, rfl, hB.lt, fun k hk => by
  have hk0 : k = 0 := by simp at hk; exact hk
  subst hk0
  exact ⟨enc y, rfl, (hs.2 y).1, fun j u hu => by
   rw [Nat.zero_add, Nat.zero_mul, Nat.zero_add]
   exact hB.cell (by rw [List.getElem?_toArray]; exact hu)⟩⟩⟩
 have hbyt : (l.length + 1) * bytes ≤ (1000000 + 1) * 1000 := Nat.mul_le_mul (by omega) hbb
 obtain ⟨v', W', hrun, g1, g2, g3⟩ := run_app (P := P) W hs w.heap.size t o.type e i zv bytes ht h1 h5 h3 h4 (by rw [h6, hz]) v l (ho.own hs K) W.heap.size (some ⟨b, 0, none⟩) 1 1 [y] hr (by unfold maxLen; omega) (by omega) K.1.size
 obtain ⟨X', hX, K'⟩ := ho.of hs K g1 (grown_kept g2) (fun g hg => by
  exact ZL88)
 unfold Oper.wp execOp
 simp only [hop, resolve, invoke, builtin, Sem.run_bind, Sem.run_pure, Result.andThen_ok, List.map_toArray, List.map_cons, List.map_nil, hv, hx, hrun]
 exact h v' X' W' hX K'
end
theorem wpAnyT.two {P : Program} {ops : Array Oper} {Q : Exit → Act → World → Prop} {md : Region.Mode} {S : World → Prop} {n i j : Nat} {oi oj : Oper} {fuel : Nat} {listed : Array Bool} {a : Act} {w : World} (hi : ops[i]? = some oi) (hj : ops[j]? = some oj) (hg : oi.guard = none) (hg' : oj.guard = none) (hB : (decide (i ≠ n) && decide (j ≠ n) && decide (Region.ready md ops listed = [i, j])) = true)
 (h : ∀ K : Act → World → Prop, Hid (∀ a' w', S w' → (S w' → wpAnyT P md ops Q S n fuel (listed.setIfInBounds i true) a' w') → K a' w') → oi.wp P a w K Q)
 (h' : ∀ K : Act → World → Prop, Hid (∀ a' w', S w' → (S w' → wpAnyT P md ops Q S n fuel (listed.setIfInBounds j true) a' w') → K a' w') → oj.wp P a w K Q) : wpAnyT P md ops Q S n (fuel + 1) listed a w := by
 simp only [Bool.and_eq_true, decide_eq_true_eq] at hB
 refine ⟨(fun h0 => by rw [hB.2] at h0; cases h0), fun k hk => ?_⟩
 rw [hB.2] at hk
 have hw : ∀ o : Oper, o.guard = none → Region.wanted o (yielded ops a.tmps) = true := fun o hg => by simp [Region.wanted, hg]
 rcases List.mem_cons.1 hk with rfl | hk
 · unfold wpOp
   simp only [hi, hw oi hg, if_true]
   exact Or.inl (h _ (Lib.hid fun a' w' hS hW => ⟨fun _ => hS, hW hS⟩))
 · rw [List.mem_singleton] at hk
   subst hk
   unfold wpOp
   simp only [hj, hw oj hg', if_true]
   exact Or.inl (h' _ (Lib.hid fun a' w' hS hW => ⟨fun _ => hS, hW hS⟩))
end Go.Proofs.YtdlcglndhhndpaaGreat
