/- Arguments opened, whatever their make: ints, Booleans, slices and structs, one in another, read as plain data. No condition. -/
import Derived.Test.YtmcamadcoglodaaOpen
import Derived.Deep.Slices
import Derived.ChangeSame
namespace Go.Proofs.Ytmcamadcoglodaa
open Go.ChangeShapes Go.WideShapes Go.ChangeAt Go.RowKit Go.Deep
set_option linter.unusedVariables false

theorem addr_add (b off k : Nat) : (⟨b, off, none⟩ : Addr).add k = ⟨b, off + k, none⟩ := by
  unfold Addr.add; split
  · rename_i h0; rw [h0]; rfl
  · rfl
/-- a slice in a cell -/
def slE {α : Type} (sz : Nat) (R : Enc α) : Enc (List α) := fun w B l cs => ∃ A n cap, cs = [.slice A n cap] ∧ Rd sz R w B A n cap l
theorem slE_lasts {α : Type} {sz : Nat} {R : Enc α} (hR : Lasts R) : Lasts (slE sz R) := fun w w' B B' x cs ⟨A, n, cap, h, hr⟩ hB hk => ⟨A, n, cap, h, hr.keep hR hB hk⟩
/-- one part behind another -/
def prE {α β : Type} (s : Nat) (R : Enc α) (S : Enc β) : Enc (α × β) := fun w B x cs => R w B x.1 (cs.take s) ∧ S w B x.2 (cs.drop s)
theorem prE_lasts {α β : Type} {s : Nat} {R : Enc α} {S : Enc β} (hR : Lasts R) (hS : Lasts S) : Lasts (prE s R S) := fun w w' B B' x cs ⟨h1, h2⟩ hB hk => ⟨hR _ _ _ _ _ _ h1 hB hk, hS _ _ _ _ _ _ h2 hB hk⟩
theorem Rd.conv {α : Type} {sz : Nat} {R S : Enc α} {w : World} {B : Nat} {A : Option Addr} {n cap : Nat} {l : List α} (h : Rd sz R w B A n cap l) (hc : ∀ x cs, cs.length = sz → R w B x cs → S w B x cs) : Rd sz S w B A n cap l := by
  refine ⟨h.1, h.2.1, h.2.2.1, fun hn => ?_⟩
  obtain ⟨b, off, rfl, hb, hk⟩ := h.2.2.2 hn
  refine ⟨b, off, rfl, hb, fun k hk' => ?_⟩
  obtain ⟨cs, hr, hl, hj⟩ := hk k hk'
  exact ⟨cs, hc _ _ hl hr, hl, hj⟩

section
variable {H : Type} (enc : TypeId × Value → H) (P : Program) (w : World)

/-- a value of type t reads as a datum -/
def Opens {α : Type} (t : TypeId) (sz : Nat) (R : Enc α) (Wp : α → Prop) : Prop :=
  ∀ fuel cs y, DataW.trod enc P w 0 (fun _ => true) true fuel t cs = some y → (∀ n ∈ y.1.weights P t, n ≤ reachBytes) → cs.length = sz ∧ ∃ x, R w w.heap.size x cs ∧ Wp x
/-- the fields of a struct from one on -/
def OpensFs {α : Type} (fs : List Field) (off sz : Nat) (R : Enc α) (Wp : α → Prop) : Prop :=
  ∀ n (cs : List Value) (ys : List (DataW H × List MemPlace)), ys.length = fs.length → (∀ (j : Nat) (f : Field), fs[j]? = some f → DataW.trod enc P w 0 (fun _ => true) true n f.type ((cs.drop f.offset).take (P.cellsOf f.type)) = ys[j]?) →
    (∀ k ∈ DataW.weightsEach P (fs.map (·.type)) (ys.map (·.1)), k ≤ reachBytes) → ((cs.drop off).take sz).length = sz ∧ ∃ x, R w w.heap.size x ((cs.drop off).take sz) ∧ Wp x
variable {enc P w}

theorem opens_int {t : TypeId} {k : IntKind} (ht : P.underlying t = some (.int k)) : Opens enc P w t 1 (flat fun x => [.int k x]) (fun x => (Lit.int k x).wf = true) := fun fuel cs y h _ => by
  obtain ⟨n, rfl, _, hw⟩ := DataW.trod_int ht h
  exact ⟨rfl, n, rfl, hw⟩
theorem opens_bool {t : TypeId} (ht : P.underlying t = some .bool) : Opens enc P w t 1 (flat fun x => [.bool x]) (fun _ => True) := fun fuel cs y h _ => by
  obtain ⟨n, rfl, _⟩ := DataW.trod_bool ht h
  exact ⟨rfl, n, rfl, trivial⟩
theorem weightsAll_mem {e : TypeId} {d : DataW H} {n : Nat} (hn : n ∈ d.weights P e) : ∀ {l : List (DataW H)}, d ∈ l → n ∈ DataW.weightsAll P e l
  | [], h => by cases h
  | x :: l, h => by
    simp only [DataW.weightsAll, List.mem_append]
    rcases List.mem_cons.1 h with rfl | h
    · exact Or.inl hn
    · exact Or.inr (weightsAll_mem hn h)
theorem opens_slice {α : Type} [Inhabited α] {t e : TypeId} {sz : Nat} {R : Enc α} {Wp : α → Prop} (he : Opens enc P w e sz R Wp) (ht : P.underlying t = some (.slice e)) (hc : P.cellsOf e = sz) (hsz : 0 < sz) (hby : 0 < P.bytesOf e) :
    Opens enc P w t 1 (slE sz R) (fun l => ∀ x ∈ l, Wp x) := fun fuel cs y h hwt => by
  rcases open_slice ht h with ⟨rfl, _⟩ | ⟨a, len, cap, m, n, D, Pl, rfl, hb, hl, hm, hmm, rfl, hx⟩
  · exact ⟨rfl, [], ⟨none, 0, 0, rfl, Rd.nil⟩, by simp⟩
  · simp only [if_true] at hmm
    subst hmm
    simp only [DataW.weights, ht] at hwt
    have hlen : len ≤ 140737488351232 := by
      have h1 := hwt _ (List.mem_cons_self ..)
      simp only [List.length_map, List.length_range, reachBytes] at h1
      have h2 : len * 1 ≤ (len + (m - len)) * P.bytesOf e := Nat.mul_le_mul (by omega) hby
      omega
    have each : ∀ i, i < len → ∃ q : α × List Value, (w.cells? 0 (a.add (i * P.cellsOf e)) (P.cellsOf e) = some q.2 ∧ q.2.length = sz) ∧ R w w.heap.size q.1 q.2 ∧ Wp q.1 := fun i hi => by
      obtain ⟨cs', h1, h2⟩ := hx i (by omega)
      obtain ⟨hl', x, hr, hw⟩ := he _ _ _ h2 (fun k hk => hwt k (List.mem_cons_of_mem _ (List.mem_append.2 (Or.inl (weightsAll_mem hk (List.mem_map.2 ⟨i, List.mem_range.2 hi, rfl⟩))))))
      exact ⟨(x, cs'), ⟨h1, hl'⟩, hr, hw⟩
    obtain ⟨q, hq⟩ := choose_lt each
    refine ⟨rfl, (List.range len).map fun i => (q i).1, ⟨some a, len, m, rfl, by simp, hl, ⟨by unfold maxLen at hm; exact hm, hlen⟩, fun hn => ?_⟩, fun x hx => ?_⟩
    · obtain ⟨b, off, spot⟩ := a
      have hat : ∀ i, i < len → ∀ j u, (q i).2[j]? = some u → w.cell? ((⟨b, off, spot⟩ : Addr).add (i * sz + j)) = some u := fun i hi j u hu => by
        obtain ⟨_, hcl, hat⟩ := World.cells?_some (hq i hi).1.1
        have hj : j < (q i).2.length := (List.getElem?_eq_some_iff.1 hu).1
        have h1 := hat j (by omega)
        rw [hu, hc, add_add] at h1
        exact h1
      have h0 : ∃ u, (q 0).2[0]? = some u := ⟨(q 0).2[0]'(by rw [(hq 0 hn).1.2]; exact hsz), List.getElem?_eq_getElem _⟩
      obtain ⟨u, hu⟩ := h0
      have hs : spot = none := by
        have h2 := World.cell?_spot (hat 0 hn 0 u hu)
        simpa [Addr.add] using h2
      subst hs
      have hcell : ∀ i, i < len → ∀ j u, (q i).2[j]? = some u → w.cell? ⟨b, off + i * sz + j, none⟩ = some u := fun i hi j u hu => by
        have h1 := hat i hi j u hu
        rw [addr_add] at h1
        rw [Nat.add_assoc]; exact h1
      have h1 := hcell 0 hn 0 u hu
      refine ⟨b, off, rfl, World.block_lt_of_cell? w _ h1, fun k hk => ?_⟩
      simp only [List.length_map, List.length_range] at hk
      refine ⟨(q k).2, ?_, (hq k hk).1.2, fun j u hu => hcell k hk j u hu⟩
      simp only [List.getElem_map, List.getElem_range]
      exact (hq k hk).2.1
    · obtain ⟨i, hi, rfl⟩ := List.mem_map.1 hx
      exact (hq i (List.mem_range.1 hi)).2.2
theorem opens_field {α : Type} {f : Field} {off s : Nat} {R : Enc α} {Wp : α → Prop} (h : Opens enc P w f.type s R Wp) (ho : f.offset = off) (hc : P.cellsOf f.type = s) : OpensFs enc P w [f] off s R Wp := fun n cs ys hy hf hw => by
  obtain ⟨y, rfl⟩ : ∃ y, ys = [y] := List.length_eq_one_iff.1 hy
  have h1 := hf 0 f rfl
  rw [ho, hc] at h1
  exact h _ _ _ h1 (fun k hk => hw k (by simpa [DataW.weightsEach] using hk))
theorem opens_fields {α β : Type} {f : Field} {fs : List Field} {off s s' : Nat} {R : Enc α} {S : Enc β} {Wp : α → Prop} {Wq : β → Prop} (h : Opens enc P w f.type s R Wp) (ho : f.offset = off) (hc : P.cellsOf f.type = s) (hs : OpensFs enc P w fs (off + s) s' S Wq) :
    OpensFs enc P w (f :: fs) off (s + s') (prE s R S) (fun x => Wp x.1 ∧ Wq x.2) := fun n cs ys hy hf hw => by
  match ys, hy with
  | y :: ys, hy =>
    have h1 := hf 0 f rfl
    rw [ho, hc] at h1
    simp only [List.map_cons, DataW.weightsEach, List.mem_append] at hw
    obtain ⟨a1, x, a2, a3⟩ := h _ _ _ h1 (fun k hk => hw k (Or.inl hk))
    obtain ⟨b1, z, b2, b3⟩ := hs n cs ys (by simpa using hy) (fun j g hg => by have := hf (j + 1) g (by simpa using hg); simpa using this) (fun k hk => hw k (Or.inr hk))
    have e1 : ((cs.drop off).take (s + s')).take s = (cs.drop off).take s := by rw [List.take_take, Nat.min_eq_left (by omega)]
    have e2 : ((cs.drop off).take (s + s')).drop s = (cs.drop (off + s)).take s' := by rw [List.drop_take, List.drop_drop, Nat.add_sub_cancel_left]
    refine ⟨?_, (x, z), ⟨by rw [e1]; exact a2, by rw [e2]; exact b2⟩, a3, b3⟩
    simp only [List.length_take, List.length_drop] at a1 b1 ⊢
    omega
theorem opens_struct {α : Type} {t : TypeId} {fs : Array Field} {sz : Nat} {R : Enc α} {Wp : α → Prop} (ht : P.underlying t = some (.struct fs)) (hc : P.cellsOf t = sz) (h : OpensFs enc P w fs.toList 0 sz R Wp) : Opens enc P w t sz R Wp := fun fuel cs y hy hw => by
  obtain ⟨xs, n, rfl, rfl, hl, hxl, hf⟩ := DataW.trod_struct ht hy
  simp only [DataW.weights, ht] at hw
  have h1 := h n cs xs (by simpa using hxl) (fun j f hj => hf j f (by simpa using hj)) hw
  have e : (cs.drop 0).take sz = cs := by rw [List.drop_zero, List.take_of_length_le (by omega)]
  rw [e] at h1
  exact h1
/-- an argument that is a slice -/
theorem opens_arg_slice {α : Type} {t : TypeId} {sz : Nat} {R : Enc α} {Wp : List α → Prop} {e : TypeId} {r : Reach} {b0 : Nat} {v : Value} {d : DataW H} {p : List MemPlace} (h : Opens enc P w t 1 (slE sz R) Wp) (ht : P.underlying t = some (.slice e)) (hv : Value.okWide P w r b0 t v)
    (hd : DataW.Trod enc P w 0 (fun _ => true) true t v d p) (hw : ∀ n ∈ d.weights P t, n ≤ reachBytes) : ∃ A n cap l, v = .slice A n cap ∧ Rd sz R w w.heap.size A n cap l ∧ Wp l := by
  obtain ⟨A, n, cap, rfl⟩ := okWide_slice ht hv
  obtain ⟨fuel, hf⟩ := hd
  obtain ⟨_, l, ⟨A', n', cap', he, hr⟩, hwp⟩ := h _ _ _ hf hw
  simp [Value.cells] at he
  obtain ⟨rfl, rfl, rfl⟩ := he
  exact ⟨A, n, cap, l, rfl, hr, hwp⟩
/-- an argument that is a struct -/
theorem opens_arg_struct {α : Type} {t : TypeId} {sz : Nat} {R : Enc α} {Wp : α → Prop} {fs : Array Field} {r : Reach} {b0 : Nat} {v : Value} {d : DataW H} {p : List MemPlace} (h : Opens enc P w t sz R Wp) (ht : P.underlying t = some (.struct fs)) (hv : Value.okWide P w r b0 t v)
    (hd : DataW.Trod enc P w 0 (fun _ => true) true t v d p) (hw : ∀ n ∈ d.weights P t, n ≤ reachBytes) : ∃ cs x, v = .agg cs ∧ R w w.heap.size x cs.toList ∧ Wp x := by
  obtain ⟨cs, rfl, _⟩ := okWide_struct ht hv
  obtain ⟨fuel, hf⟩ := hd
  obtain ⟨_, x, hr, hwp⟩ := h _ _ _ hf hw
  exact ⟨cs, x, rfl, hr, hwp⟩
theorem shut_any {t : TypeId} {W' : World} {v : Value} {d : DataW H} {p : List MemPlace} (hl : laidOutB P = true) (hr : P.readableRec t = true) (hrow : t < P.types.size) (h : DataW.Trod enc P w 0 (fun _ => true) true t v d p) (hb : Below w.heap.size w W') :
    DataW.Trod enc P W' 0 (fun b => decide (b < w.heap.size)) true t v d p :=
  Below.trod hl hr hrow h hb (by obtain ⟨m, hm⟩ := h; exact DataW.trod_lt m _ _ _ hm)
end
end Go.Proofs.Ytmcamadcoglodaa
