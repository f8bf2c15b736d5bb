/- Words for memory: slices read as lists, slices of the call's own, copies, appends, frames, arguments opened. No condition. -/
import Derived.WalkKit
import Derived.Laws.OwnMore
import Derived.Deep.Draws
import Derived.Deep.AppendLies
import Derived.Lib.Hide
import Derived.ProofKit
import Derived.OpenShut
import Derived.ShutString
import Derived.ChangeOld
import Derived.Below
import Derived.SizedLaws
import Derived.Deep.SlicePairs
import Derived.Deep.Slices
import Derived.ChangeSame
import Derived.Maps.AppendAt
import Derived.RegionTactic
import Derived.OwnWalk
import Derived.Laws.CopyRow
import Derived.Laws.CopyOwn
import Derived.Deep.RegionHeld3
import Derived.Test.YtkeajohkpmabcaaDoorProg
import Derived.LoopTactic
import Derived.Deep.QuietTactic
import Derived.BigQuiet
import Derived.Deep.LoopGhost
import Derived.IntWalk
import Derived.Handy
import Derived.Shelf.Abstract
import Derived.Lib.MinMax
import Derived.ArgAppend
namespace Go.Proofs.YtkeajohkpmabcaaDoor
set_option linter.unusedVariables false
section
open Go.RowKit

/-- what stands in the cells of one element -/
abbrev Enc (α : Type) := World → Nat → α → List Value → Prop

/-- a slice value of n elements of sz cells each, that reads as the list l, below block B -/
def Rd {α : Type} (sz : Nat) (R : Enc α) (w : World) (B : Nat) (A : Option Addr) (n cap : Nat) (l : List α) : Prop :=
  l.length = n ∧ n ≤ cap ∧ (cap ≤ 9223372036854775807 ∧ n ≤ 140737488351232) ∧ (0 < n → ∃ b off, A = some ⟨b, off, none⟩ ∧ b < B ∧
    ∀ k (h : k < l.length), ∃ cs, R w B l[k] cs ∧ cs.length = sz ∧ ∀ j u, cs[j]? = some u → w.cell? ⟨b, off + k * sz + j, none⟩ = some u)

/-- the elements' reading lasts -/
def Lasts {α : Type} (R : Enc α) : Prop := ∀ w w' B B' x cs, R w B x cs → B ≤ B' → (∀ p : Addr, p.block < B → w'.cell? p = w.cell? p) → R w' B' x cs

def flat {α : Type} (enc : α → List Value) : Enc α := fun _ _ x cs => cs = enc x
theorem flat_lasts {α : Type} (enc : α → List Value) : Lasts (flat enc) := fun _ _ _ _ _ _ h _ _ => h

section
variable {α : Type} {sz : Nat} {R : Enc α} {w w' : World} {B B' C : Nat} {A : Option Addr} {n cap : Nat} {l : List α}
theorem Rd.keep (hR : Lasts R) (h : Rd sz R w B A n cap l) (hB : B ≤ B') (hk : ∀ p : Addr, p.block < B → w'.cell? p = w.cell? p) : Rd sz R w' B' A n cap l := by
  refine ⟨h.1, h.2.1, h.2.2.1, fun hn => ?_⟩
  obtain ⟨b, off, rfl, hb, hc⟩ := h.2.2.2 hn
  refine ⟨b, off, rfl, by omega, fun k hk' => ?_⟩
  obtain ⟨cs, hr, hl, hj⟩ := hc k hk'
  exact ⟨cs, hR _ _ _ _ _ _ hr hB hk, hl, fun j u hu => (hk _ hb).trans (hj j u hu)⟩

theorem Rd.below (hR : Lasts R) (h : Rd sz R w B A n cap l) (hb : Below C w w') (hC : B ≤ C) (hB : B ≤ B') : Rd sz R w' B' A n cap l :=
  h.keep hR hB fun _ hp => hb.cell (by omega)

/-- the usual case: what reads in w reads in whatever w has become -/
theorem Rd.up (hR : Lasts R) (h : Rd sz R w w.heap.size A n cap l) (hb : Below w.heap.size w w') : Rd sz R w' w'.heap.size A n cap l :=
  h.below hR hb (Nat.le_refl _) hb.size

theorem Rd.nil : Rd sz R w B none 0 0 ([] : List α) := ⟨rfl, by omega, ⟨by omega, by omega⟩, fun h => absurd h (by omega)⟩
theorem Rd.len (h : Rd sz R w B A n cap l) : l.length = n := h.1
theorem Rd.caps (h : Rd sz R w B A n cap l) : n ≤ cap ∧ cap ≤ 9223372036854775807 ∧ n ≤ 140737488351232 := ⟨h.2.1, h.2.2.1⟩
theorem Rd.take (h : Rd sz R w B A n cap l) {k : Nat} (hk : k ≤ n) : Rd sz R w B A k cap (l.take k) := by
  refine ⟨by rw [List.length_take, h.1]; omega, by have := h.2.1; omega, ⟨h.2.2.1.1, by have := h.2.2.1; omega⟩, fun hn => ?_⟩
  obtain ⟨b, off, rfl, hb, hc⟩ := h.2.2.2 (by omega)
  refine ⟨b, off, rfl, hb, fun j hj => ?_⟩
  simp only [List.length_take] at hj
  obtain ⟨cs, hr, hl, hj'⟩ := hc j (by omega)
  exact ⟨cs, by rw [List.getElem_take]; exact hr, hl, hj'⟩
end

/-- ints -/
def iEnc : Int → List Value := fun x => [.int .i64 x]
abbrev RdI := Rd 1 (flat iEnc)
theorem Rd.atI {w : World} {B : Nat} {A : Option Addr} {n cap : Nat} {l : List Int} (h : RdI w B A n cap l) {k : Nat} (hk : k < n) :
    ∃ b off x, A = some ⟨b, off, none⟩ ∧ b < B ∧ l[k]? = some x ∧ w.cell? ⟨b, off + k, none⟩ = some (.int .i64 x) := by
  obtain ⟨b, off, rfl, hb, hc⟩ := h.2.2.2 (by omega)
  have hl := h.1
  obtain ⟨cs, rfl, hl, hj⟩ := hc k (by omega)
  exact ⟨b, off, l[k], rfl, hb, List.getElem?_eq_getElem (by omega), by simpa [iEnc] using hj 0 _ rfl⟩

/-- pairs of ints -/
def pEnc : Int × Int → List Value := fun x => [.int .i64 x.1, .int .i64 x.2]
abbrev RdP := Rd 2 (flat pEnc)
theorem Rd.atP {w : World} {B : Nat} {A : Option Addr} {n cap : Nat} {l : List (Int × Int)} (h : RdP w B A n cap l) {k : Nat} (hk : k < n) :
    ∃ b off x y, A = some ⟨b, off, none⟩ ∧ b < B ∧ l[k]? = some (x, y) ∧ w.cell? ⟨b, off + k * 2, none⟩ = some (.int .i64 x) ∧ w.cell? ⟨b, off + k * 2 + 1, none⟩ = some (.int .i64 y) := by
  obtain ⟨b, off, rfl, hb, hc⟩ := h.2.2.2 (by omega)
  have hl := h.1
  obtain ⟨cs, rfl, hl, hj⟩ := hc k (by omega)
  exact ⟨b, off, l[k].1, l[k].2, rfl, hb, List.getElem?_eq_getElem (by omega), by simpa [pEnc] using hj 0 _ rfl, by simpa [pEnc] using hj 1 _ rfl⟩
end
section
open Go.ChangeShapes Go.WideShapes Go.ChangeAt Go.RowKit Go.Deep

section
variable {H : Type} {enc : TypeId × Value → H} {P : Program} {w : World}
theorem cells_int {t : TypeId} {k : IntKind} {n : Nat} {v : Value} {y : DataW H × List MemPlace} (ht : P.underlying t = some (.int k)) (h : DataW.trod enc P w 0 (fun _ => true) true n t [v] = some y) : v = .int k (intOf v) ∧ (Lit.int k (intOf v)).wf = true := by
  obtain ⟨a, e0, _, wa⟩ := DataW.trod_int ht h
  simp at e0
  subst e0
  exact ⟨rfl, wa⟩

theorem open_rdp {t e : TypeId} {f0 f1 : Field} {A : Option Addr} {n cap : Nat} {d : DataW H} {p : List MemPlace} (ht : P.underlying t = some (.slice e)) (he : P.underlying e = some (.struct #[f0, f1]))
    (ce : P.cellsOf e = 2) (o0 : f0.offset = 0) (o1 : f1.offset = 1) (c0 : P.cellsOf f0.type = 1) (c1 : P.cellsOf f1.type = 1) (u0 : P.underlying f0.type = some (.int .i64)) (u1 : P.underlying f1.type = some (.int .i64))
    (h : DataW.Trod enc P w 0 (fun _ => true) true t (.slice A n cap) d p) (hb : ∀ el sp, d = .slice el sp → el.length ≤ 140737488351232) :
    ∃ l, RdP w w.heap.size A n cap l ∧ ∀ s ∈ l, (-9223372036854775808 ≤ s.1 ∧ s.1 ≤ 9223372036854775807) ∧ (-9223372036854775808 ≤ s.2 ∧ s.2 ≤ 9223372036854775807) := by
  obtain ⟨fuel, hf⟩ := h
  rcases open_slice_pairs ht he ce o0 o1 c0 c1 hf with ⟨hcs, _⟩ | ⟨a, len, cap', m, k, V0, V1, D0, D1, P0, P1, hcs, _, hl, hm, hmm, hx, hc⟩
  · simp [Value.cells] at hcs
    obtain ⟨rfl, rfl, rfl⟩ := hcs
    exact ⟨[], Rd.nil, by simp⟩
  · simp [Value.cells] at hcs
    obtain ⟨rfl, rfl, rfl⟩ := hcs
    simp only [if_true] at hmm
    subst hmm
    simp only [Prod.mk.injEq] at hx
    have hlen := hb _ _ hx.1
    simp at hlen
    refine ⟨(List.range n).map fun i => (intOf (V0 i), intOf (V1 i)), ⟨by simp, hl, ⟨by unfold maxLen at hm; exact hm, hlen⟩, fun hn => ?_⟩, fun s hs => ?_⟩
    · obtain ⟨b, off, spot⟩ := a
      have hspot : spot = none := by
        obtain ⟨h1, _⟩ := hc 0 (by omega)
        simpa [Addr.add] using World.cell?_spot h1
      subst hspot
      have hlt : b < w.heap.size := World.block_lt_of_cell? w _ (hc 0 (by omega)).1
      refine ⟨b, off, rfl, hlt, fun i hi => ⟨_, rfl, rfl, fun j u hu => ?_⟩⟩
      simp at hi
      obtain ⟨h1, h2, h3, h4⟩ := hc i (by omega)
      obtain ⟨e0, _⟩ := cells_int u0 h3
      obtain ⟨e1, _⟩ := cells_int u1 h4
      have ha : ∀ k : Nat, (⟨b, off, none⟩ : Addr).add k = ⟨b, off + k, none⟩ := fun k => by
        unfold Addr.add; split
        · rename_i h0; rw [h0]; rfl
        · rfl
      rw [ha] at h1 h2
      simp [pEnc] at hu
      match j, hu with
      | 0, hu => simp at hu; rw [← hu, ← e0]; exact h1
      | 1, hu => simp at hu; rw [← hu, ← e1]; exact h2
      | j + 2, hu => simp at hu
    · obtain ⟨i, hi, rfl⟩ := List.mem_map.1 hs
      have hi := List.mem_range.1 hi
      obtain ⟨_, _, h3, h4⟩ := hc i (by omega)
      exact ⟨bounds_i64 (cells_int u0 h3).2, bounds_i64 (cells_int u1 h4).2⟩
end
end
section
open Go.ChangeShapes Go.WideShapes Go.ChangeAt Go.RowKit Go.Deep

theorem addr_add (b off k : Nat) : (⟨b, off, none⟩ : Addr).add k = ⟨b, off + k, none⟩ := by
  unfold Addr.add; split
  · rename_i h0; rw [h0]; rfl
  · rfl
/-- a slice in a cell -/
def slE {α : Type} (sz : Nat) (R : Enc α) : Enc (List α) := fun w B l cs => ∃ A n cap, cs = [.slice A n cap] ∧ Rd sz R w B A n cap l
theorem slE_lasts {α : Type} {sz : Nat} {R : Enc α} (hR : Lasts R) : Lasts (slE sz R) := fun w w' B B' x cs ⟨A, n, cap, h, hr⟩ hB hk => ⟨A, n, cap, h, hr.keep hR hB hk⟩
/-- one part behind another -/
def prE {α β : Type} (s : Nat) (R : Enc α) (S : Enc β) : Enc (α × β) := fun w B x cs => R w B x.1 (cs.take s) ∧ S w B x.2 (cs.drop s)
theorem prE_lasts {α β : Type} {s : Nat} {R : Enc α} {S : Enc β} (hR : Lasts R) (hS : Lasts S) : Lasts (prE s R S) := fun w w' B B' x cs ⟨h1, h2⟩ hB hk => ⟨hR _ _ _ _ _ _ h1 hB hk, hS _ _ _ _ _ _ h2 hB hk⟩
theorem Rd.conv {α : Type} {sz : Nat} {R S : Enc α} {w : World} {B : Nat} {A : Option Addr} {n cap : Nat} {l : List α} (h : Rd sz R w B A n cap l) (hc : ∀ x cs, cs.length = sz → R w B x cs → S w B x cs) : Rd sz S w B A n cap l := by
  refine ⟨h.1, h.2.1, h.2.2.1, fun hn => ?_⟩
  obtain ⟨b, off, rfl, hb, hk⟩ := h.2.2.2 hn
  refine ⟨b, off, rfl, hb, fun k hk' => ?_⟩
  obtain ⟨cs, hr, hl, hj⟩ := hk k hk'
  exact ⟨cs, hc _ _ hl hr, hl, hj⟩

section
variable {H : Type} (enc : TypeId × Value → H) (P : Program) (w : World)

/-- a value of type t reads as a datum -/
def Opens {α : Type} (t : TypeId) (sz : Nat) (R : Enc α) (Wp : α → Prop) : Prop :=
  ∀ fuel cs y, DataW.trod enc P w 0 (fun _ => true) true fuel t cs = some y → (∀ n ∈ y.1.weights P t, n ≤ reachBytes) → cs.length = sz ∧ ∃ x, R w w.heap.size x cs ∧ Wp x
/-- the fields of a struct from one on -/
def OpensFs {α : Type} (fs : List Field) (off sz : Nat) (R : Enc α) (Wp : α → Prop) : Prop :=
  ∀ n (cs : List Value) (ys : List (DataW H × List MemPlace)), ys.length = fs.length → (∀ (j : Nat) (f : Field), fs[j]? = some f → DataW.trod enc P w 0 (fun _ => true) true n f.type ((cs.drop f.offset).take (P.cellsOf f.type)) = ys[j]?) →
    (∀ k ∈ DataW.weightsEach P (fs.map (·.type)) (ys.map (·.1)), k ≤ reachBytes) → ((cs.drop off).take sz).length = sz ∧ ∃ x, R w w.heap.size x ((cs.drop off).take sz) ∧ Wp x
variable {enc P w}

theorem opens_int {t : TypeId} {k : IntKind} (ht : P.underlying t = some (.int k)) : Opens enc P w t 1 (flat fun x => [.int k x]) (fun x => (Lit.int k x).wf = true) := fun fuel cs y h _ => by
  obtain ⟨n, rfl, _, hw⟩ := DataW.trod_int ht h
  exact ⟨rfl, n, rfl, hw⟩
theorem opens_bool {t : TypeId} (ht : P.underlying t = some .bool) : Opens enc P w t 1 (flat fun x => [.bool x]) (fun _ => True) := fun fuel cs y h _ => by
  obtain ⟨n, rfl, _⟩ := DataW.trod_bool ht h
  exact ⟨rfl, n, rfl, trivial⟩
theorem weightsAll_mem {e : TypeId} {d : DataW H} {n : Nat} (hn : n ∈ d.weights P e) : ∀ {l : List (DataW H)}, d ∈ l → n ∈ DataW.weightsAll P e l
  | [], h => by cases h
  | x :: l, h => by
    simp only [DataW.weightsAll, List.mem_append]
    rcases List.mem_cons.1 h with rfl | h
    · exact Or.inl hn
    · exact Or.inr (weightsAll_mem hn h)
theorem opens_slice {α : Type} [Inhabited α] {t e : TypeId} {sz : Nat} {R : Enc α} {Wp : α → Prop} (he : Opens enc P w e sz R Wp) (ht : P.underlying t = some (.slice e)) (hc : P.cellsOf e = sz) (hsz : 0 < sz) (hby : 0 < P.bytesOf e) :
    Opens enc P w t 1 (slE sz R) (fun l => ∀ x ∈ l, Wp x) := fun fuel cs y h hwt => by
  rcases open_slice ht h with ⟨rfl, _⟩ | ⟨a, len, cap, m, n, D, Pl, rfl, hb, hl, hm, hmm, rfl, hx⟩
  · exact ⟨rfl, [], ⟨none, 0, 0, rfl, Rd.nil⟩, by simp⟩
  · simp only [if_true] at hmm
    subst hmm
    simp only [DataW.weights, ht] at hwt
    have hlen : len ≤ 140737488351232 := by
      have h1 := hwt _ (List.mem_cons_self ..)
      simp only [List.length_map, List.length_range, reachBytes] at h1
      have h2 : len * 1 ≤ (len + (m - len)) * P.bytesOf e := Nat.mul_le_mul (by omega) hby
      omega
    have each : ∀ i, i < len → ∃ q : α × List Value, (w.cells? 0 (a.add (i * P.cellsOf e)) (P.cellsOf e) = some q.2 ∧ q.2.length = sz) ∧ R w w.heap.size q.1 q.2 ∧ Wp q.1 := fun i hi => by
      obtain ⟨cs', h1, h2⟩ := hx i (by omega)
      obtain ⟨hl', x, hr, hw⟩ := he _ _ _ h2 (fun k hk => hwt k (List.mem_cons_of_mem _ (List.mem_append.2 (Or.inl (weightsAll_mem hk (List.mem_map.2 ⟨i, List.mem_range.2 hi, rfl⟩))))))
      exact ⟨(x, cs'), ⟨h1, hl'⟩, hr, hw⟩
    obtain ⟨q, hq⟩ := choose_lt each
    refine ⟨rfl, (List.range len).map fun i => (q i).1, ⟨some a, len, m, rfl, by simp, hl, ⟨by unfold maxLen at hm; exact hm, hlen⟩, fun hn => ?_⟩, fun x hx => ?_⟩
    · obtain ⟨b, off, spot⟩ := a
      have hat : ∀ i, i < len → ∀ j u, (q i).2[j]? = some u → w.cell? ((⟨b, off, spot⟩ : Addr).add (i * sz + j)) = some u := fun i hi j u hu => by
        obtain ⟨_, hcl, hat⟩ := World.cells?_some (hq i hi).1.1
        have hj : j < (q i).2.length := (List.getElem?_eq_some_iff.1 hu).1
        have h1 := hat j (by omega)
        rw [hu, hc, add_add] at h1
        exact h1
      have h0 : ∃ u, (q 0).2[0]? = some u := ⟨(q 0).2[0]'(by rw [(hq 0 hn).1.2]; exact hsz), List.getElem?_eq_getElem _⟩
      obtain ⟨u, hu⟩ := h0
      have hs : spot = none := by
        have h2 := World.cell?_spot (hat 0 hn 0 u hu)
        simpa [Addr.add] using h2
      subst hs
      have hcell : ∀ i, i < len → ∀ j u, (q i).2[j]? = some u → w.cell? ⟨b, off + i * sz + j, none⟩ = some u := fun i hi j u hu => by
        have h1 := hat i hi j u hu
        rw [addr_add] at h1
        rw [Nat.add_assoc]; exact h1
      have h1 := hcell 0 hn 0 u hu
      refine ⟨b, off, rfl, World.block_lt_of_cell? w _ h1, fun k hk => ?_⟩
      simp only [List.length_map, List.length_range] at hk
      refine ⟨(q k).2, ?_, (hq k hk).1.2, fun j u hu => hcell k hk j u hu⟩
      simp only [List.getElem_map, List.getElem_range]
      exact (hq k hk).2.1
    · obtain ⟨i, hi, rfl⟩ := List.mem_map.1 hx
      exact (hq i (List.mem_range.1 hi)).2.2
theorem opens_field {α : Type} {f : Field} {off s : Nat} {R : Enc α} {Wp : α → Prop} (h : Opens enc P w f.type s R Wp) (ho : f.offset = off) (hc : P.cellsOf f.type = s) : OpensFs enc P w [f] off s R Wp := fun n cs ys hy hf hw => by
  obtain ⟨y, rfl⟩ : ∃ y, ys = [y] := List.length_eq_one_iff.1 hy
  have h1 := hf 0 f rfl
  rw [ho, hc] at h1
  exact h _ _ _ h1 (fun k hk => hw k (by simpa [DataW.weightsEach] using hk))
theorem opens_fields {α β : Type} {f : Field} {fs : List Field} {off s s' : Nat} {R : Enc α} {S : Enc β} {Wp : α → Prop} {Wq : β → Prop} (h : Opens enc P w f.type s R Wp) (ho : f.offset = off) (hc : P.cellsOf f.type = s) (hs : OpensFs enc P w fs (off + s) s' S Wq) :
    OpensFs enc P w (f :: fs) off (s + s') (prE s R S) (fun x => Wp x.1 ∧ Wq x.2) := fun n cs ys hy hf hw => by
  match ys, hy with
  | y :: ys, hy =>
    have h1 := hf 0 f rfl
    rw [ho, hc] at h1
    simp only [List.map_cons, DataW.weightsEach, List.mem_append] at hw
    obtain ⟨a1, x, a2, a3⟩ := h _ _ _ h1 (fun k hk => hw k (Or.inl hk))
    obtain ⟨b1, z, b2, b3⟩ := hs n cs ys (by simpa using hy) (fun j g hg => by have := hf (j + 1) g (by simpa using hg); simpa using this) (fun k hk => hw k (Or.inr hk))
    have e1 : ((cs.drop off).take (s + s')).take s = (cs.drop off).take s := by rw [List.take_take, Nat.min_eq_left (by omega)]
    have e2 : ((cs.drop off).take (s + s')).drop s = (cs.drop (off + s)).take s' := by rw [List.drop_take, List.drop_drop, Nat.add_sub_cancel_left]
    refine ⟨?_, (x, z), ⟨by rw [e1]; exact a2, by rw [e2]; exact b2⟩, a3, b3⟩
    simp only [List.length_take, List.length_drop] at a1 b1 ⊢
    omega
theorem opens_struct {α : Type} {t : TypeId} {fs : Array Field} {sz : Nat} {R : Enc α} {Wp : α → Prop} (ht : P.underlying t = some (.struct fs)) (hc : P.cellsOf t = sz) (h : OpensFs enc P w fs.toList 0 sz R Wp) : Opens enc P w t sz R Wp := fun fuel cs y hy hw => by
  obtain ⟨xs, n, rfl, rfl, hl, hxl, hf⟩ := DataW.trod_struct ht hy
  simp only [DataW.weights, ht] at hw
  have h1 := h n cs xs (by simpa using hxl) (fun j f hj => hf j f (by simpa using hj)) hw
  have e : (cs.drop 0).take sz = cs := by rw [List.drop_zero, List.take_of_length_le (by omega)]
  rw [e] at h1
  exact h1
/-- an argument that is a slice -/
theorem opens_arg_slice {α : Type} {t : TypeId} {sz : Nat} {R : Enc α} {Wp : List α → Prop} {e : TypeId} {r : Reach} {b0 : Nat} {v : Value} {d : DataW H} {p : List MemPlace} (h : Opens enc P w t 1 (slE sz R) Wp) (ht : P.underlying t = some (.slice e)) (hv : Value.okWide P w r b0 t v)
    (hd : DataW.Trod enc P w 0 (fun _ => true) true t v d p) (hw : ∀ n ∈ d.weights P t, n ≤ reachBytes) : ∃ A n cap l, v = .slice A n cap ∧ Rd sz R w w.heap.size A n cap l ∧ Wp l := by
  obtain ⟨A, n, cap, rfl⟩ := okWide_slice ht hv
  obtain ⟨fuel, hf⟩ := hd
  obtain ⟨_, l, ⟨A', n', cap', he, hr⟩, hwp⟩ := h _ _ _ hf hw
  simp [Value.cells] at he
  obtain ⟨rfl, rfl, rfl⟩ := he
  exact ⟨A, n, cap, l, rfl, hr, hwp⟩
/-- an argument that is a struct -/
theorem opens_arg_struct {α : Type} {t : TypeId} {sz : Nat} {R : Enc α} {Wp : α → Prop} {fs : Array Field} {r : Reach} {b0 : Nat} {v : Value} {d : DataW H} {p : List MemPlace} (h : Opens enc P w t sz R Wp) (ht : P.underlying t = some (.struct fs)) (hv : Value.okWide P w r b0 t v)
    (hd : DataW.Trod enc P w 0 (fun _ => true) true t v d p) (hw : ∀ n ∈ d.weights P t, n ≤ reachBytes) : ∃ cs x, v = .agg cs ∧ R w w.heap.size x cs.toList ∧ Wp x := by
  obtain ⟨cs, rfl, _⟩ := okWide_struct ht hv
  obtain ⟨fuel, hf⟩ := hd
  obtain ⟨_, x, hr, hwp⟩ := h _ _ _ hf hw
  exact ⟨cs, x, rfl, hr, hwp⟩
theorem shut_any {t : TypeId} {W' : World} {v : Value} {d : DataW H} {p : List MemPlace} (hl : laidOutB P = true) (hr : P.readableRec t = true) (hrow : t < P.types.size) (h : DataW.Trod enc P w 0 (fun _ => true) true t v d p) (hb : Below w.heap.size w W') :
    DataW.Trod enc P W' 0 (fun b => decide (b < w.heap.size)) true t v d p :=
  Below.trod hl hr hrow h hb (by obtain ⟨m, hm⟩ := h; exact DataW.trod_lt m _ _ _ hm)
end
end
section
open Go.RowKit

/-- an encoding of one length -/
def Sized {α : Type} (sz : Nat) (enc : α → List Value) : Prop := 0 < sz ∧ ∀ x, (enc x).length = sz ∧ ∀ u ∈ enc x, u.oneCell' = true

section
variable {α : Type} {sz : Nat} {enc : α → List Value}
theorem flatMap_len (hs : Sized sz enc) : ∀ l : List α, (l.flatMap enc).length = l.length * sz
  | [] => by simp
  | x :: l => by rw [List.flatMap_cons, List.length_append, flatMap_len hs l, (hs.2 x).1, List.length_cons, Nat.add_mul]; omega
theorem flatMap_get (hs : Sized sz enc) : ∀ (l : List α) (k j : Nat), j < sz → (l.flatMap enc)[k * sz + j]? = (l[k]?).bind fun x => (enc x)[j]?
  | [], k, j, _ => by simp
  | x :: l, 0, j, hj => by
    rw [List.flatMap_cons, List.getElem?_append_left (by rw [(hs.2 x).1]; omega)]
    simp
  | x :: l, k + 1, j, hj => by
    rw [List.flatMap_cons, List.getElem?_append_right (by rw [(hs.2 x).1, Nat.add_mul]; omega), (hs.2 x).1, show (k + 1) * sz + j - sz = k * sz + j by rw [Nat.add_mul]; omega, flatMap_get hs l k j hj]
    simp
theorem flatMap_set (hs : Sized sz enc) : ∀ (l : List α) (k : Nat) (x : α) (j : Nat) (u : Value), l[k]? = some x → j < sz → ∀ y, enc y = (enc x).set j u → (l.flatMap enc).set (k * sz + j) u = (l.set k y).flatMap enc
  | [], k, x, j, u, h, _, y, _ => by simp at h
  | z :: l, 0, x, j, u, h, hj, y, hy => by
    simp at h; subst h
    rw [List.flatMap_cons, List.set_cons_zero, List.flatMap_cons, List.set_append_left _ _ (by rw [(hs.2 z).1]; omega), hy]
    simp
  | z :: l, k + 1, x, j, u, h, hj, y, hy => by
    rw [List.flatMap_cons, List.set_cons_succ, List.flatMap_cons, List.set_append_right _ _ (by rw [(hs.2 z).1, Nat.add_mul]; omega), (hs.2 z).1, show (k + 1) * sz + j - sz = k * sz + j by rw [Nat.add_mul]; omega,
      flatMap_set hs l k x j u (by simpa using h) hj y hy]

theorem iSized : Sized 1 iEnc := ⟨by omega, fun x => ⟨rfl, by intro u hu; simp [iEnc] at hu; subst hu; rfl⟩⟩
theorem pSized : Sized 2 pEnc := ⟨by omega, fun x => ⟨rfl, by intro u hu; simp [pEnc] at hu; rcases hu with rfl | rfl <;> rfl⟩⟩

/-- all cells of a slice at once -/
theorem Rd.cells (hs : Sized sz enc) {w : World} {B : Nat} {A : Option Addr} {n cap : Nat} {l : List α} (h : Rd sz (flat enc) w B A n cap l) (hn : 0 < n) :
    ∃ b off, A = some ⟨b, off, none⟩ ∧ b < B ∧ ∀ j u, (l.flatMap enc)[j]? = some u → w.cell? ⟨b, off + j, none⟩ = some u := by
  obtain ⟨b, off, rfl, hb, hc⟩ := h.2.2.2 hn
  refine ⟨b, off, rfl, hb, fun j u hu => ?_⟩
  have hsz := hs.1
  have hjl : j < (l.flatMap enc).length := by rw [List.getElem?_eq_some_iff] at hu; exact hu.1
  rw [flatMap_len hs] at hjl
  have hdm := Nat.div_add_mod j sz
  have hml := Nat.mod_lt j hsz
  have hk : j / sz < l.length := Nat.div_lt_of_lt_mul (by rw [Nat.mul_comm]; exact hjl)
  obtain ⟨cs, rfl, hl, hj⟩ := hc (j / sz) hk
  have e : j / sz * sz + j % sz = j := by rw [Nat.mul_comm]; exact hdm
  rw [← e, flatMap_get hs l _ _ hml, List.getElem?_eq_getElem hk] at hu
  have h2 := hj (j % sz) u (by simpa using hu)
  rw [show off + j / sz * sz + j % sz = off + j by omega] at h2
  exact h2

/-- a slice of the call's own that holds the list l -/
def Own (sz : Nat) (enc : α → List Value) (w : World) (base : Nat) (e : TypeId) (v : Value) (l : List α) : Prop := w.ownsRow base e sz v l.length (l.flatMap enc)

section
variable {w w' : World} {base : Nat} {e : TypeId} {v : Value} {l : List α}
theorem Own.nil : Own sz enc w base e (.slice none 0 0) ([] : List α) := World.ownsRow_nil _ _ _ _
theorem Own.alloc (h : Own sz enc w base e v l) (o : Obj) : Own sz enc (w.alloc o) base e v l := World.ownsRow.alloc h o
theorem Own.drew (h : Own sz enc w base e v l) : Own sz enc w.drew base e v l := h
theorem Own.kept {row : Option Nat} (h : Own sz enc w base e v l) (hg : w.grownBy w' row) (hne : v.ownBlock = none ∨ v.ownBlock ≠ row) : Own sz enc w' base e v l := World.ownsRow.kept h hg hne
/-- kept over a call that turns nothing old -/
theorem Own.below (h : Own sz enc w base e v l) (hb : Below w.heap.size w w') : Own sz enc w' base e v l := by
  refine ⟨h.1, ?_⟩
  rcases h.2 with h0 | ⟨g, cap, cur, hv, hg, hh, h2⟩
  · exact .inl h0
  · refine .inr ⟨g, cap, cur, hv, hg, (hb.block g ?_).trans hh, h2⟩
    exact (Array.getElem?_eq_some_iff.1 hh).1
theorem Own.mono {base' : Nat} (h : Own sz enc w base e v l) (hb : base' ≤ base) : Own sz enc w base' e v l := by
  refine ⟨h.1, ?_⟩
  rcases h.2 with h0 | ⟨g, cap, cur, hv, hg, h2⟩
  · exact .inl h0
  · exact .inr ⟨g, cap, cur, hv, by omega, h2⟩
theorem Own.lt (h : Own sz enc w base e v l) : ∀ k, v.ownBlock = some k → base ≤ k ∧ k < w.heap.size := World.ownsRow.lt h
theorem Own.grow (h : Own sz enc w base e v l) {w0 : World} {C : Nat} (hC : C ≤ base) (hb : Below C w0 w) (hB : C ≤ w.heap.size) (hg : w.grownBy w' v.ownBlock) : Below C w0 w' :=
  hb.grown hg hB fun k hk => Nat.le_trans hC (h.lt k hk).1
/-- its shape, and that it reads as its list -/
theorem Own.rd (hs : Sized sz enc) (h : Own sz enc w base e v l) (hn : l.length ≤ 140737488351232) : ∃ A cap, v = .slice A l.length cap ∧ Rd sz (flat enc) w w.heap.size A l.length cap l := by
  rcases h.2 with ⟨rfl, h0⟩ | ⟨g, cap, cur, hv, hg, hh, hnc, hcm, hcs, htake⟩
  · have : l = [] := List.eq_nil_of_length_eq_zero h0
    subst this
    exact ⟨none, 0, rfl, Rd.nil⟩
  · subst hv
    refine ⟨_, cap, rfl, rfl, hnc, ⟨by unfold maxLen at hcm; exact hcm, hn⟩, fun _ => ⟨g, 0, rfl, (Array.getElem?_eq_some_iff.1 hh).1, fun k hk => ⟨enc l[k], rfl, (hs.2 _).1, fun j u hu => ?_⟩⟩⟩
    have hj : j < sz := by rw [← (hs.2 l[k]).1]; exact (List.getElem?_eq_some_iff.1 hu).1
    have hkl : k * sz + j < l.length * sz := by
      have h1 := Nat.mul_le_mul_right sz (show k + 1 ≤ l.length from hk)
      rw [Nat.add_mul] at h1; omega
    have h1 := World.ownsRow.cellAt h (k * sz + j) hkl
    rw [Nat.zero_add, h1, flatMap_get hs l k j hj, List.getElem?_eq_getElem hk]
    simpa using hu
/-- an owned slice that is not empty: where it lies, and what may be done there -/
theorem Own.form (h : Own sz enc w base e v l) (hn : 0 < l.length) : ∃ g cap, v = .slice (some ⟨g, 0, none⟩) l.length cap ∧ base ≤ g ∧ g < w.heap.size ∧ l.length ≤ cap ∧ cap ≤ 9223372036854775807 ∧ (∀ j, w.frozen? ⟨g, j, none⟩ = false) ∧ v.ownBlock = some g := by
  rcases h.2 with ⟨rfl, h0⟩ | ⟨g, cap, cur, hv, hg, hh, hnc, hcm, hcs, htake⟩
  · omega
  · subst hv
    exact ⟨g, cap, rfl, hg, (Array.getElem?_eq_some_iff.1 hh).1, hnc, by unfold maxLen at hcm; exact hcm, fun j => World.ownsRow.frozenAt h j, rfl⟩
/-- a store into one cell of an element -/
theorem Own.stored (hs : Sized sz enc) {g cap n : Nat} (h : Own sz enc w base e (.slice (some ⟨g, 0, none⟩) n cap) l) (hln : l.length = n) {k j : Nat} {x y : α} {u : Value} (hk : l[k]? = some x) (hj : j < sz) (hy : enc y = (enc x).set j u) :
    Own sz enc (w.setCell ⟨g, k * sz + j, none⟩ u) base e (.slice (some ⟨g, 0, none⟩) n cap) (l.set k y) ∧ w.grownBy (w.setCell ⟨g, k * sz + j, none⟩ u) (some g) := by
  subst hln
  have h1 := World.ownsRow.stored h (k * sz + j) u
  rw [flatMap_set hs l k x j u hk hj y hy] at h1
  refine ⟨?_, h1.2⟩
  unfold Own
  rw [List.length_set]
  exact h1.1
end

/-- a literal -/
theorem Own.lit (hs : Sized sz enc) {w : World} {base n : Nat} {e : TypeId} (hb : base ≤ w.heap.size) (l : List α) (cs : Array Value) (hcs : cs = (l.flatMap enc).toArray) (hn : l.length = n) (hm : n ≤ 140737488351232) :
    Own sz enc (w.alloc (.cells cs e)) base e (.slice (some ⟨w.heap.size, 0, none⟩) n n) l := by
  subst hn
  have h := World.ownsRow_lit (e := e) (size := sz) w cs l.length hb (by unfold maxLen; omega) (by rw [hcs]; simp only [List.size_toArray]; exact flatMap_len hs l)
  unfold Own
  rw [hcs] at h ⊢
  simpa using h
/-- one element in a block of its own -/
theorem Rd.new1 (hs : Sized sz enc) (w : World) (x : α) (cs : Array Value) (hcs : cs = (enc x).toArray) (t : TypeId) : Rd sz (flat enc) (w.alloc (.cells cs t)) (w.heap.size + 1) (some ⟨w.heap.size, 0, none⟩) 1 1 [x] := by
  subst hcs
  refine ⟨rfl, by omega, ⟨by omega, by omega⟩, fun _ => ⟨w.heap.size, 0, rfl, by omega, fun k hk => ⟨enc x, ?_, (hs.2 x).1, fun j u hu => ?_⟩⟩⟩
  · have : k = 0 := by simpa using hk
    subst this
    rfl
  · have : k = 0 := by simpa using hk
    subst this
    simpa using hu

section
variable {P : Program} (w : World)
theorem run_append_nil (base : Nat) (t ty e : TypeId) (i : TypeInfo) (size : Nat) (ht : P.underlying t = some (.slice e)) (hi : P.info? e = some i)
    (v : Value) (n : Nat) (xs : List Value) (hown : w.ownsRow base e size v n xs) (A : Option Addr) (c : Nat) (hA : A = none) : (Builtin.append_ #[t, t] ty #[v, .slice A 0 c]).run P w = .ok v w := by
  subst hA
  rcases hown.2 with ⟨rfl, rfl⟩ | ⟨g, cap, cur, rfl, _, _, hnc, _⟩
  · simp [Builtin.append_, run_underlying ht, sizeOf, typeInfo, hi, Builtin.lenOf, Builtin.firstCells]
  · simp [Builtin.append_, run_underlying ht, sizeOf, typeInfo, hi, Builtin.lenOf, Builtin.firstCells, hnc, storeCells]

/-- append onto a slice of the call's own, of whatever reads as a list -/
theorem run_app (hs : Sized sz enc) (base : Nat) (t ty e : TypeId) (i : TypeInfo) (z : Value) (bytes : Nat) (ht : P.underlying t = some (.slice e)) (hi : P.info? e = some i) (hz : i.zero = some z)
    (hsize : i.size = sz) (hby : i.bytes = bytes) (hzs : z.cells.size = sz)
    (v : Value) (l : List α) (hown : Own sz enc w base e v l) (B : Nat) (A : Option Addr) (m c : Nat) (l2 : List α) (hr : Rd sz (flat enc) w B A m c l2)
    (h63 : l.length + m ≤ maxLen) (hbytes : (l.length + m) * bytes ≤ 140737488355328) (hbase : base ≤ w.heap.size) :
    ∃ v' w', (Builtin.append_ #[t, t] ty #[v, .slice A m c]).run P w = .ok v' w' ∧ Own sz enc w' base e v' (l ++ l2) ∧ w.grownBy w' v.ownBlock ∧ (v'.ownBlock = v.ownBlock ∨ v'.ownBlock = some w.heap.size) := by
  have hl2 := hr.len
  rcases A with _ | ad
  · have hm : m = 0 := by
      rcases Nat.eq_zero_or_pos m with h0 | h0
      · exact h0
      · obtain ⟨b, off, h, _⟩ := hr.2.2.2 h0
        cases h
    subst hm
    have hn : l2 = [] := List.eq_nil_of_length_eq_zero hl2
    subst hn
    exact ⟨v, w, run_append_nil w base t ty e i sz ht hi v _ _ hown none c rfl, by simpa using hown, World.grownBy.refl w _, .inl rfl⟩
  · have hcells : ∀ j u, (l2.flatMap enc)[j]? = some u → w.cell? (ad.add j) = some u := by
      intro j u hu
      rcases Nat.eq_zero_or_pos m with h0 | h0
      · have hn : l2 = [] := List.eq_nil_of_length_eq_zero (hl2.trans h0)
        subst hn
        simp at hu
      · obtain ⟨b, off, h, _, hc⟩ := hr.cells hs h0
        injection h with h
        subst h
        have h2 := hc j u hu
        simp only [Addr.add]
        split
        · rename_i hj0
          subst hj0
          simpa using h2
        · exact h2
    obtain ⟨v', w', hrun, h2, h3, _, h5⟩ := run_append_own_at (P := P) w base t ty e i z sz bytes ht hi hz hsize hby hzs hs.1 v l.length _ hown ad m c (l2.flatMap enc) (by rw [flatMap_len hs, hl2]) hcells
      (by intro u hu; obtain ⟨x, _, hx⟩ := List.mem_flatMap.1 hu; exact (hs.2 x).2 u hx) h63 hbytes hbase
    refine ⟨v', w', hrun, ?_, h3, h5⟩
    unfold Own
    rw [List.length_append, hl2, List.flatMap_append]
    exact h2

theorem wpList_app (hs : Sized sz enc) {ops : Array Oper} {rest : List Oper} {o : Oper} {a : Act} {Q : Exit → Act → World → Prop} (hgd : o.guard = none) (s x : Operand) (t : TypeId)
    (ho : o.op = .call { callee := .builtin .append, args := #[s, x], argTypes := #[t, t] })
    (base : Nat) (e : TypeId) (i : TypeInfo) (z : Value) (bytes : Nat) (ht : P.underlying t = some (.slice e)) (hi : P.info? e = some i) (hz : i.zero = some z)
    (hsize : i.size = sz) (hby : i.bytes = bytes) (hzs : z.cells.size = sz)
    (v : Value) (l : List α) (hv : a.eval s = v) (hown : Own sz enc w base e v l) (B : Nat) (A : Option Addr) (m c : Nat) (l2 : List α) (hx : a.eval x = .slice A m c) (hr : Rd sz (flat enc) w B A m c l2)
    (h63 : l.length + m ≤ maxLen) (hbytes : (l.length + m) * bytes ≤ 140737488355328) (hbase : base ≤ w.heap.size)
    (h : ∀ v' w', Own sz enc w' base e v' (l ++ l2) → w.grownBy w' v.ownBlock → (v'.ownBlock = v.ownBlock ∨ v'.ownBlock = some w.heap.size) → wpList P ops Q rest (a.put o.dst v') w') : wpList P ops Q (o :: rest) a w := by
  refine wpList_plain hgd fun _ hK => ?_
  obtain ⟨v', w', hrun, h2, h3, h4⟩ := run_app (P := P) w hs base t o.type e i z bytes ht hi hz hsize hby hzs v l hown B A m c l2 hr h63 hbytes hbase
  unfold Oper.wp execOp
  simp only [ho, resolve, invoke, builtin, Sem.run_bind, Sem.run_pure, Result.andThen_ok, List.map_toArray, List.map_cons, List.map_nil, hv, hx, hrun]
  exact hK _ _ (h v' w' h2 h3 h4)

/-- make([]T, n) -/
theorem madeCells_rep (hs : Sized sz enc) (x : α) (z : Value) (hz : z.cells = (enc x).toArray) (n : Nat) : (madeCells z.cells (n * sz)).toList = (List.replicate n x).flatMap enc := by
  have hsz := hs.1
  have hlen := (hs.2 x).1
  apply List.ext_getElem?
  intro j
  by_cases hj : j < n * sz
  · have hdm := Nat.div_add_mod j sz
    have hml := Nat.mod_lt j hsz
    have hk : j / sz < n := Nat.div_lt_of_lt_mul (by rw [Nat.mul_comm]; exact hj)
    have e : j / sz * sz + j % sz = j := by rw [Nat.mul_comm]; exact hdm
    have h2 := flatMap_get hs (List.replicate n x) (j / sz) (j % sz) hml
    rw [e] at h2
    rw [h2]
    simp only [madeCells, hz]
    simp [hj, hlen, hk]
    rw [List.getElem?_eq_getElem (by rw [hlen]; exact hml)]
    rfl
  · rw [List.getElem?_eq_none (by simp [madeCells]; omega), List.getElem?_eq_none (by rw [flatMap_len hs]; simp; omega)]

theorem wpList_mk (hs : Sized sz enc) (zx : α) {ops : Array Oper} {rest : List Oper} {o : Oper} {a : Act} {Q : Exit → Act → World → Prop}
    (hg : o.guard = none) (l c : Operand) (t : TypeId) (hop : o.op = Op.makeSlice t l c)
    (base : Nat) (e : TypeId) (i : TypeInfo) (z : Value) (h1 : P.underlying t = some (.slice e)) (h2 : P.info? e = some i) (h3 : i.zero = some z) (h4 : i.size = sz) (hzz : z.cells = (enc zx).toArray)
    (kl kc : IntKind) (L C : Int) (n : Nat) (hl : a.eval l = .int kl L) (hc : a.eval c = .int kc C) (hL : L = (n : Int)) (hC : C = (n : Int)) (b2 : i.bytes * n ≤ 281474976710656) (b3 : n ≤ maxLen) (b4 : base ≤ w.heap.size)
    (hK : ∀ w', Own sz enc w' base e (.slice (some ⟨w.heap.size, 0, none⟩) n n) (List.replicate n zx) → w.grownBy w' none → wpList P ops Q rest (a.put o.dst (.slice (some ⟨w.heap.size, 0, none⟩) n n)) w') :
    wpList P ops Q (o :: rest) a w :=
  wpList_make_full w hg l c t hop base e i z sz h1 h2 h3 h4 kl kc L C n hl hc hL hC b2 b3 b4 fun w' r1 r2 => hK w' (by
    unfold Own; rw [List.length_replicate, ← madeCells_rep hs zx z hzz]; exact r1) r2
end
end

/-- a list by a function of the index -/
def ofF {α : Type} (n : Nat) (f : Nat → α) : List α := (List.range n).map f
section
variable {α : Type} {n : Nat} {f g : Nat → α}
theorem ofF_len : (ofF n f).length = n := by simp [ofF]
theorem ofF_get {i : Nat} (h : i < n) : (ofF n f)[i]? = some (f i) := by
  unfold ofF; rw [List.getElem?_map, List.getElem?_range h]; rfl
theorem ofF_get_some {i : Nat} {x : α} (h : (ofF n f)[i]? = some x) : i < n ∧ x = f i := by
  by_cases hi : i < n
  · rw [ofF_get hi] at h; exact ⟨hi, (Option.some.inj h).symm⟩
  · rw [List.getElem?_eq_none (by rw [ofF_len]; omega)] at h; cases h
theorem ofF_congr (h : ∀ i, i < n → f i = g i) : ofF n f = ofF n g := List.map_congr_left fun i hi => h i (List.mem_range.1 hi)
theorem ofF_set (i : Nat) (x : α) : (ofF n f).set i x = ofF n (fun j => if j = i then x else f j) := by
  apply List.ext_getElem?
  intro j
  rw [List.getElem?_set]
  by_cases hj : j < n
  · rw [ofF_get hj, ofF_get hj, ofF_len]
    by_cases h : i = j
    · subst h; simp [hj]
    · rw [if_neg h, if_neg (fun e => h e.symm)]
  · rw [List.getElem?_eq_none (l := ofF n fun j => if j = i then x else f j) (by rw [ofF_len]; omega), List.getElem?_eq_none (l := ofF n f) (by rw [ofF_len]; omega)]
    rw [ofF_len]
    split
    · rename_i h; subst h; rw [if_neg hj]
    · rfl
theorem ofF_rep (x : α) : List.replicate n x = ofF n (fun _ => x) := by
  apply List.ext_getElem?
  intro j
  by_cases hj : j < n
  · rw [ofF_get hj]; simp [hj]
  · rw [List.getElem?_eq_none (by simpa using hj), List.getElem?_eq_none (by rw [ofF_len]; omega)]
theorem ofF_succ : ofF (n + 1) f = ofF n f ++ [f n] := by simp [ofF, List.range_succ]
theorem ofF_mem {x : α} (h : x ∈ ofF n f) : ∃ i, i < n ∧ x = f i := by
  obtain ⟨i, hi, rfl⟩ := List.mem_map.1 h
  exact ⟨i, List.mem_range.1 hi, rfl⟩
end
section
variable {w : World} {base : Nat} {e : TypeId} {g n cap : Nat}
theorem Own.cellI {f : Nat → Int} (h : Own 1 iEnc w base e (.slice (some ⟨g, 0, none⟩) n cap) (ofF n f)) {i : Nat} (hi : i < n) : w.cell? ⟨g, i, none⟩ = some (.int .i64 (f i)) ∧ w.frozen? ⟨g, i, none⟩ = false := by
  unfold Own at h
  rw [ofF_len] at h
  refine ⟨?_, World.ownsRow.frozenAt h i⟩
  have h1 := World.ownsRow.cellAt h i (by omega)
  have h2 := flatMap_get iSized (ofF n f) i 0 (by omega)
  rw [ofF_get hi] at h2
  rw [show i * 1 + 0 = i by omega] at h2
  rw [h1, h2]
  rfl
theorem Own.setI {f : Nat → Int} (h : Own 1 iEnc w base e (.slice (some ⟨g, 0, none⟩) n cap) (ofF n f)) {i : Nat} (hi : i < n) (x : Int) :
    Own 1 iEnc (w.setCell ⟨g, i, none⟩ (.int .i64 x)) base e (.slice (some ⟨g, 0, none⟩) n cap) (ofF n (fun j => if j = i then x else f j)) := by
  have h1 := (Own.stored (k := i) (j := 0) (y := x) (u := .int .i64 x) iSized h ofF_len (ofF_get hi) (by omega) rfl).1
  rw [ofF_set] at h1
  simpa using h1
theorem Own.cellP {f : Nat → Int × Int} (h : Own 2 pEnc w base e (.slice (some ⟨g, 0, none⟩) n cap) (ofF n f)) {i : Nat} (hi : i < n) :
    w.cell? ⟨g, i * 2, none⟩ = some (.int .i64 (f i).1) ∧ w.cell? ⟨g, i * 2 + 1, none⟩ = some (.int .i64 (f i).2) ∧ w.frozen? ⟨g, i * 2, none⟩ = false ∧ w.frozen? ⟨g, i * 2 + 1, none⟩ = false := by
  unfold Own at h
  rw [ofF_len] at h
  refine ⟨?_, ?_, World.ownsRow.frozenAt h _, World.ownsRow.frozenAt h _⟩
  · have h1 := World.ownsRow.cellAt h (i * 2) (by omega)
    have h2 := flatMap_get pSized (ofF n f) i 0 (by omega)
    rw [ofF_get hi] at h2
    rw [Nat.add_zero] at h2
    rw [h1, h2]
    rfl
  · have h1 := World.ownsRow.cellAt h (i * 2 + 1) (by omega)
    have h2 := flatMap_get pSized (ofF n f) i 1 (by omega)
    rw [ofF_get hi] at h2
    rw [h1, h2]
    rfl
theorem Own.setX {f : Nat → Int × Int} (h : Own 2 pEnc w base e (.slice (some ⟨g, 0, none⟩) n cap) (ofF n f)) {i : Nat} (hi : i < n) (x : Int) :
    Own 2 pEnc (w.setCell ⟨g, i * 2, none⟩ (.int .i64 x)) base e (.slice (some ⟨g, 0, none⟩) n cap) (ofF n (fun j => if j = i then (x, (f i).2) else f j)) := by
  have h1 := (Own.stored (k := i) (j := 0) (y := (x, (f i).2)) (u := .int .i64 x) pSized h ofF_len (ofF_get hi) (by omega) rfl).1
  rw [ofF_set] at h1
  exact h1
theorem Own.setY {f : Nat → Int × Int} (h : Own 2 pEnc w base e (.slice (some ⟨g, 0, none⟩) n cap) (ofF n f)) {i : Nat} (hi : i < n) (x : Int) :
    Own 2 pEnc (w.setCell ⟨g, i * 2 + 1, none⟩ (.int .i64 x)) base e (.slice (some ⟨g, 0, none⟩) n cap) (ofF n (fun j => if j = i then ((f i).1, x) else f j)) := by
  have h1 := (Own.stored (k := i) (j := 1) (y := ((f i).1, x)) (u := .int .i64 x) pSized h ofF_len (ofF_get hi) (by omega) rfl).1
  rw [ofF_set] at h1
  exact h1
end
end
section
open Go.RowKit
section
variable {α : Type} {sz : Nat} {enc : α → List Value}
theorem flatMap_take (hs : Sized sz enc) : ∀ (l : List α) (k : Nat), (l.take k).flatMap enc = (l.flatMap enc).take (k * sz)
  | [], k => by simp
  | x :: l, 0 => by simp
  | x :: l, k + 1 => by
    rw [List.take_succ_cons, List.flatMap_cons, List.flatMap_cons, List.take_append, (hs.2 x).1, flatMap_take hs l k, List.take_of_length_le (l := enc x) (i := (k + 1) * sz) (by rw [(hs.2 x).1, Nat.add_mul]; omega), show (k + 1) * sz - sz = k * sz by rw [Nat.add_mul]; omega]
theorem flatMap_drop (hs : Sized sz enc) : ∀ (l : List α) (k : Nat), (l.drop k).flatMap enc = (l.flatMap enc).drop (k * sz)
  | [], k => by simp
  | x :: l, 0 => by simp
  | x :: l, k + 1 => by
    rw [List.drop_succ_cons, List.flatMap_cons, List.drop_append, (hs.2 x).1, flatMap_drop hs l k, (List.drop_eq_nil_of_le (by rw [(hs.2 x).1, Nat.add_mul]; omega) : (enc x).drop ((k + 1) * sz) = []), show (k + 1) * sz - sz = k * sz by rw [Nat.add_mul]; omega, List.nil_append]
theorem grown_row (w : World) (g : Nat) (cs : Array Value) : w.grownBy (w.setRow g cs) (some g) :=
  ⟨rfl, rfl, rfl, by simp [World.setRow], fun i _ hne => setRow_other w g i cs (fun e => hne (by rw [e]))⟩

variable {P : Program} {w : World}
theorem run_cp (hs : Sized sz enc) {base : Nat} {e dT sT ty : TypeId} {i : TypeInfo} (hu : P.underlying dT = some (.slice e)) (hi : P.info? e = some i) (hsz : i.size = sz)
    {g n cap : Nat} {l : List α} (hown : Own sz enc w base e (.slice (some ⟨g, 0, none⟩) n cap) l) (hln : l.length = n)
    (dp : Option Addr) (dLen dCap k m : Nat) (B : Nat) (A : Option Addr) (sLen c : Nat) (l2 : List α) (hr : Rd sz (flat enc) w B A sLen c l2) (hm : m = Nat.min sLen dLen) (hfit : k + m ≤ n)
    (hd : dp = some ⟨g, k * sz, none⟩ ∨ m = 0 ∧ ∃ o, dp = some ⟨g, o, none⟩) :
    ∃ w', (Builtin.copy_ #[dT, sT] ty #[.slice dp dLen dCap, .slice A sLen c]).run P w = .ok (goInt m) w' ∧ Own sz enc w' base e (.slice (some ⟨g, 0, none⟩) n cap) (l.take k ++ l2.take m ++ l.drop (k + m)) ∧ w.grownBy w' (some g) := by
  have hkm : (k + m) * sz = k * sz + m * sz := Nat.add_mul _ _ _
  have hle : (k + m) * sz ≤ n * sz := Nat.mul_le_mul_right sz hfit
  have hl2 := hr.len
  have hms : m ≤ sLen := by rw [hm]; exact Nat.min_le_left _ _
  rcases hown.2 with ⟨h, _⟩ | ⟨g', cap', cur, hv, hg, hh, hnc, hcm, hcs, htake⟩
  · cases h
  · injection hv with e1 e2 e3
    injection e1 with e1
    injection e1 with e1
    subst e1 e3
    rw [hln] at hnc htake
    by_cases h0 : m = 0
    · refine ⟨w, ?_, ?_, World.grownBy.refl w _⟩
      · obtain ⟨o, ho⟩ : ∃ o, dp = some ⟨g, o, none⟩ := by
          rcases hd with h | ⟨_, h⟩
          · exact ⟨_, h⟩
          · exact h
        subst ho
        have hn0 : Nat.min sLen dLen = 0 := by omega
        rcases A with _ | ad
        · simp [Builtin.copy_, run_underlying hu, Builtin.lenOf, Builtin.firstCells, sizeOf, typeInfo, hi, hn0, h0, storeCells]
        · simp [Builtin.copy_, run_underlying hu, Builtin.lenOf, Builtin.firstCells, sizeOf, typeInfo, hi, hn0, h0, storeCells, loadCells, loadCellsFrom]
      · subst h0
        simpa using hown
    · have hdp : dp = some ⟨g, k * sz, none⟩ := by
        rcases hd with h | ⟨h, _⟩
        · exact h
        · exact absurd h h0
      subst hdp
      obtain ⟨b, off, rfl, hb, hc⟩ := hr.cells hs (by omega)
      have hlen : ((l2.take m).flatMap enc).length = m * sz := by rw [flatMap_len hs, List.length_take]; congr 1; omega
      have hfitc : k * sz + ((l2.take m).flatMap enc).length ≤ cur.size := by
        have := Nat.mul_le_mul_right sz hnc
        omega
      have hld := run_loadCells_list (P := P) w ⟨b, off, none⟩ ((l2.take m).flatMap enc) (fun j v hj => by
        have h1 : (l2.flatMap enc)[j]? = some v := by
          rw [flatMap_take hs, List.getElem?_take] at hj
          split at hj
          · exact hj
          · cases hj
        have h2 := hc j v h1
        have e : (⟨b, off, none⟩ : Addr).add j = ⟨b, off + j, none⟩ := by
          unfold Addr.add
          split
          · rename_i h0; rw [h0]; rfl
          · rfl
        rw [e]; exact h2)
      have hst := run_storeCells_at P g (k * sz) e ((l2.take m).flatMap enc) 0 cur w hh (by simpa using hfitc) (fun u hu => by
        obtain ⟨x, _, hx⟩ := List.mem_flatMap.1 hu; exact (hs.2 x).2 u hx)
      rw [hlen] at hld
      rw [Nat.add_zero] at hst
      refine ⟨w.setRow g (cur.toList.take (k * sz) ++ (l2.take m).flatMap enc ++ cur.toList.drop (k * sz + ((l2.take m).flatMap enc).length)).toArray, ?_, ?_, grown_row w g _⟩
      · simp [Builtin.copy_, run_underlying hu, Builtin.lenOf, Builtin.firstCells, sizeOf, typeInfo, hi, hsz, ← hm, hld, hst]
      · have hnew : (cur.toList.take (k * sz) ++ (l2.take m).flatMap enc ++ cur.toList.drop (k * sz + ((l2.take m).flatMap enc).length)).take (n * sz) = (l.take k ++ l2.take m ++ l.drop (k + m)).flatMap enc := by
          have h1 : (cur.toList.take (k * sz)).length = k * sz := by rw [List.length_take, Array.length_toList]; omega
          rw [List.flatMap_append, List.flatMap_append, flatMap_take hs l k, flatMap_drop hs l (k + m), ← htake, List.take_take, Nat.min_eq_left (by omega : k * sz ≤ n * sz), List.drop_take, hlen, ← hkm]
          rw [List.take_append, List.length_append, h1, hlen, ← hkm, List.take_of_length_le (l := _ ++ _) (by rw [List.length_append, h1, hlen]; omega)]
        have hlnew : (l.take k ++ l2.take m ++ l.drop (k + m)).length = n := by
          rw [List.length_append, List.length_append, List.length_take, List.length_take, List.length_drop, hln, hl2]; omega
        refine ⟨flatMap_len hs _, .inr ⟨g, cap, _, by rw [hlnew], hg, setRow_heap w g cur _ e _ hh, by rw [hlnew]; exact hnc, hcm, ?_, by rw [hlnew]; exact hnew⟩⟩
        simp only [List.size_toArray, List.length_append, List.length_take, List.length_drop, Array.length_toList, hlen]
        omega

theorem wpList_cp (w : World) (hs : Sized sz enc) {ops : Array Oper} {rest : List Oper} {o : Oper} {a : Act} {Q : Exit → Act → World → Prop} (hgd : o.guard = none) (d s : Operand) (dT sT : TypeId)
    (ho : o.op = .call { callee := .builtin .copy, args := #[d, s], argTypes := #[dT, sT] })
    {base : Nat} {e : TypeId} {i : TypeInfo} (hu : P.underlying dT = some (.slice e)) (hi : P.info? e = some i) (hsz : i.size = sz)
    {g n cap : Nat} {l : List α} (hown : Own sz enc w base e (.slice (some ⟨g, 0, none⟩) n cap) l) (hln : l.length = n)
    (dp : Option Addr) (dLen dCap k m : Nat) (hdv : a.eval d = .slice dp dLen dCap) (B : Nat) (A : Option Addr) (sLen c : Nat) (l2 : List α) (hsv : a.eval s = .slice A sLen c) (hr : Rd sz (flat enc) w B A sLen c l2) (hm : m = Nat.min sLen dLen) (hfit : k + m ≤ n)
    (hd : dp = some ⟨g, k * sz, none⟩ ∨ m = 0 ∧ ∃ o, dp = some ⟨g, o, none⟩)
    (h : ∀ w', Own sz enc w' base e (.slice (some ⟨g, 0, none⟩) n cap) (l.take k ++ l2.take m ++ l.drop (k + m)) → w.grownBy w' (some g) → wpList P ops Q rest (a.put o.dst (goInt m)) w') : wpList P ops Q (o :: rest) a w := by
  refine wpList_plain hgd fun _ hK => ?_
  obtain ⟨w', hrun, h2, h3⟩ := run_cp (P := P) (w := w) (ty := o.type) (sT := sT) hs hu hi hsz hown hln dp dLen dCap k m B A sLen c l2 hr hm hfit hd
  unfold Oper.wp execOp
  simp only [ho, resolve, invoke, builtin, Sem.run_bind, Sem.run_pure, Result.andThen_ok, List.map_toArray, List.map_cons, List.map_nil, hdv, hsv, hrun]
  exact hK _ _ (h w' h2 h3)
theorem step_cp (w : World) (hs : Sized sz enc) {ops : Array Oper} {o : Oper} {a : Act} {K : Act → World → Prop} {Q : Exit → Act → World → Prop} {E : Prop} (hgd : o.guard = none) (d s : Operand) (dT sT : TypeId)
    (ho : o.op = .call { callee := .builtin .copy, args := #[d, s], argTypes := #[dT, sT] })
    {base : Nat} {e : TypeId} {i : TypeInfo} (hu : P.underlying dT = some (.slice e)) (hi : P.info? e = some i) (hsz : i.size = sz)
    {g n cap : Nat} {l : List α} (hown : Own sz enc w base e (.slice (some ⟨g, 0, none⟩) n cap) l) (hln : l.length = n)
    (dp : Option Addr) (dLen dCap k m : Nat) (hdv : a.eval d = .slice dp dLen dCap) (B : Nat) (A : Option Addr) (sLen c : Nat) (l2 : List α) (hsv : a.eval s = .slice A sLen c) (hr : Rd sz (flat enc) w B A sLen c l2) (hm : m = Nat.min sLen dLen) (hfit : k + m ≤ n)
    (hd : dp = some ⟨g, k * sz, none⟩ ∨ m = 0 ∧ ∃ o, dp = some ⟨g, o, none⟩)
    (h : ∀ w', Own sz enc w' base e (.slice (some ⟨g, 0, none⟩) n cap) (l.take k ++ l2.take m ++ l.drop (k + m)) → w.grownBy w' (some g) → K (a.put o.dst (goInt m)) w') : 
    if Region.wanted o (yielded ops a.tmps) = true then Oper.wp P o a w K Q else E := by
  have hw : Region.wanted o (yielded ops a.tmps) = true := by simp [Region.wanted, hgd]
  rw [if_pos hw]
  obtain ⟨w', hrun, h2, h3⟩ := run_cp (P := P) (w := w) (ty := o.type) (sT := sT) hs hu hi hsz hown hln dp dLen dCap k m B A sLen c l2 hr hm hfit hd
  unfold Oper.wp execOp
  simp only [ho, resolve, invoke, builtin, Sem.run_bind, Sem.run_pure, Result.andThen_ok, List.map_toArray, List.map_cons, List.map_nil, hdv, hsv, hrun]
  exact h w' h2 h3
end
end
section
open Go.RowKit
section
variable {P : Program} {α : Type} {sz : Nat} {enc : α → List Value} (w : World)
theorem step_app (hs : Sized sz enc) {ops : Array Oper} {o : Oper} {a : Act} {K : Act → World → Prop} {Q : Exit → Act → World → Prop} {E : Prop} (hgd : o.guard = none) (s x : Operand) (t : TypeId)
    (ho : o.op = .call { callee := .builtin .append, args := #[s, x], argTypes := #[t, t] })
    (base : Nat) (e : TypeId) (i : TypeInfo) (z : Value) (bytes : Nat) (ht : P.underlying t = some (.slice e)) (hi : P.info? e = some i) (hz : i.zero = some z)
    (hsize : i.size = sz) (hby : i.bytes = bytes) (hzs : z.cells.size = sz)
    (v : Value) (l : List α) (hv : a.eval s = v) (hown : Own sz enc w base e v l) (B : Nat) (A : Option Addr) (m c : Nat) (l2 : List α) (hx : a.eval x = .slice A m c) (hr : Rd sz (flat enc) w B A m c l2)
    (h63 : l.length + m ≤ maxLen) (hbytes : (l.length + m) * bytes ≤ 140737488355328) (hbase : base ≤ w.heap.size)
    (h : ∀ v' w', Own sz enc w' base e v' (l ++ l2) → w.grownBy w' v.ownBlock → (v'.ownBlock = v.ownBlock ∨ v'.ownBlock = some w.heap.size) → K (a.put o.dst v') w') :
    if Region.wanted o (yielded ops a.tmps) = true then Oper.wp P o a w K Q else E := by
  have hw : Region.wanted o (yielded ops a.tmps) = true := by simp [Region.wanted, hgd]
  rw [if_pos hw]
  obtain ⟨v', w', hrun, h2, h3, h4⟩ := run_app (P := P) w hs base t o.type e i z bytes ht hi hz hsize hby hzs v l hown B A m c l2 hr h63 hbytes hbase
  unfold Oper.wp execOp
  simp only [ho, resolve, invoke, builtin, Sem.run_bind, Sem.run_pure, Result.andThen_ok, List.map_toArray, List.map_cons, List.map_nil, hv, hx, hrun]
  exact h v' w' h2 h3 h4
end
end
section
open Go.RowKit

theorem grown_set (w : World) (g j : Nat) (u : Value) : w.grownBy (w.setCell ⟨g, j, none⟩ u) (some g) :=
  ⟨rfl, rfl, rfl, by simp [World.setCell], fun i _ hne => Below.heap_setCell w ⟨g, j, none⟩ u i (fun e => hne (by rw [e]))⟩
/-- nothing old has turned but the blocks of S -/
structure Kept (S : Nat → Prop) (w w' : World) : Prop where
  os : w'.os = w.os
  tape : w'.tape = w.tape
  output : w'.output = w.output
  size : w.heap.size ≤ w'.heap.size
  block : ∀ i, i < w.heap.size → ¬ S i → w'.heap[i]? = w.heap[i]?
section
variable {S T : Nat → Prop} {w w' w'' : World}
theorem Kept.refl (S : Nat → Prop) (w : World) : Kept S w w := ⟨rfl, rfl, rfl, Nat.le_refl _, fun _ _ _ => rfl⟩
theorem Kept.trans (h : Kept S w w') (k : Kept T w' w'') (hT : ∀ i, i < w.heap.size → T i → S i) : Kept S w w'' :=
  ⟨k.os.trans h.os, k.tape.trans h.tape, k.output.trans h.output, Nat.le_trans h.size k.size, fun i hi hs => (k.block i (Nat.lt_of_lt_of_le hi h.size) (fun ht => hs (hT i hi ht))).trans (h.block i hi hs)⟩
theorem Kept.mono (h : Kept S w w') (hT : ∀ i, i < w.heap.size → S i → T i) : Kept T w w' := ⟨h.os, h.tape, h.output, h.size, fun i hi ht => h.block i hi (fun hs => ht (hT i hi hs))⟩
theorem below_kept {C : Nat} (h : Below C w w') : Kept (fun i => C ≤ i) w w' := ⟨h.os, h.tape, h.output, h.size, fun i hi hs => h.block i (by omega)⟩
theorem below_keptAll (h : Below w.heap.size w w') : Kept (fun _ => False) w w' := ⟨h.os, h.tape, h.output, h.size, fun i hi _ => h.block i hi⟩
theorem Kept.below {C : Nat} (h : Kept S w w') (hC : C ≤ w.heap.size) (hS : ∀ i, S i → C ≤ i) : Below C w w' := ⟨h.os, h.tape, h.output, h.size, fun i hi => h.block i (by omega) (fun hs => by have := hS i hs; omega)⟩
theorem grown_kept {o : Option Nat} (h : w.grownBy w' o) : Kept (fun i => o = some i) w w' := ⟨h.os, h.tape, h.output, h.size, fun i hi hs => h.block i hi (fun e => hs e.symm)⟩
theorem Kept.drewN (h : Kept S w w') (n : Nat) : Kept S w (w'.drewN n) := ⟨h.os, h.tape, h.output, h.size, h.block⟩
theorem Kept.drew (h : Kept S w w') : Kept S w w'.drew := ⟨h.os, h.tape, h.output, h.size, h.block⟩
theorem Kept.setCell (h : Kept S w w') {b o : Nat} (v : Value) (hb : S b ∨ w.heap.size ≤ b) : Kept S w (w'.setCell ⟨b, o, none⟩ v) := by
  have hg := grown_set w' b o v
  exact h.trans (grown_kept hg) (fun i hi e => by
    injection e with e; subst e
    rcases hb with hb | hb
    · exact hb
    · omega)
theorem Kept.alloc (h : Kept S w w') (o : Obj) : Kept S w (w'.alloc o) :=
  h.trans (below_keptAll ((Below.refl w'.heap.size w').alloc (Nat.le_refl _) o)) (fun _ _ h => False.elim h)
theorem Kept.cell (h : Kept S w w') {p : Addr} (hp : p.block < w.heap.size) (hs : ¬ S p.block) : w'.cell? p = w.cell? p := by
  have := h.block p.block hp hs
  unfold World.cell?
  rw [this]
theorem Kept.frozen (h : Kept S w w') {p : Addr} (hp : p.block < w.heap.size) (hs : ¬ S p.block) : w'.frozen? p = w.frozen? p := by
  have := h.block p.block hp hs
  unfold World.frozen?
  rw [this]
variable {α : Type} {sz : Nat} {enc : α → List Value} {base : Nat} {e : TypeId} {v : Value} {l : List α}
theorem Own.keptS (h : Own sz enc w base e v l) (hk : Kept S w w') (hv : ∀ g, v.ownBlock = some g → ¬ S g) : Own sz enc w' base e v l := by
  refine ⟨h.1, ?_⟩
  rcases h.2 with h0 | ⟨g, cap, cur, rfl, hg, hh, h2⟩
  · exact .inl h0
  · exact .inr ⟨g, cap, cur, rfl, hg, (hk.block g (Array.getElem?_eq_some_iff.1 hh).1 (hv g rfl)).trans hh, h2⟩
theorem Rd.keptS {B B' : Nat} {A : Option Addr} {n cap : Nat} (h : Rd sz (flat enc) w B A n cap l) (hk : Kept S w w') (hB : B ≤ w.heap.size) (hB' : B ≤ B') (hA : 0 < n → ∀ b off, A = some ⟨b, off, none⟩ → ¬ S b) : Rd sz (flat enc) w' B' A n cap l := by
  refine ⟨h.1, h.2.1, h.2.2.1, fun hn => ?_⟩
  obtain ⟨b, off, rfl, hb, hc⟩ := h.2.2.2 hn
  refine ⟨b, off, rfl, by omega, fun k hk' => ?_⟩
  obtain ⟨cs, hr, hl, hj⟩ := hc k hk'
  exact ⟨cs, hr, hl, fun j u hu => (hk.cell (p := ⟨b, off + k * sz + j, none⟩) (by show b < _; omega) (hA hn b off rfl)).trans (hj j u hu)⟩
end
end
section
open Go.RowKit

theorem below_drewN {B : Nat} {a w : World} (h : Below B a w) (n : Nat) : Below B a (w.drewN n) := ⟨h.os, h.tape, h.output, h.size, h.block⟩
theorem info_parts {o : Option TypeInfo} {z : Value} {s b : Nat} (h : o.map (fun i => (i.zero, i.size, i.bytes)) = some (some z, s, b)) : ∃ i, o = some i ∧ i.zero = some z ∧ i.size = s ∧ i.bytes = b := by
  cases o with
  | none => cases h
  | some i => simp at h; exact ⟨i, rfl, h.1, h.2.1, h.2.2⟩
theorem new_cell {w : World} {cs : Array Value} {T : TypeId} {H j : Nat} {u : Value} (hH : w.heap.size = H) (hu : cs[j]? = some u) : (w.alloc (.cells cs T)).cell? ⟨H, j, none⟩ = some u := by
  subst hH; simp [hu]
theorem Own.drewN {α : Type} {sz : Nat} {enc : α → List Value} {w : World} {base : Nat} {e : TypeId} {v : Value} {l : List α} (h : Own sz enc w base e v l) (n : Nat) : Own sz enc (w.drewN n) base e v l := h
theorem Rd.drewN {α : Type} {sz : Nat} {R : Enc α} {w : World} {B : Nat} {A : Option Addr} {n cap : Nat} {l : List α} (hR : Lasts R) (h : Rd sz R w B A n cap l) (k : Nat) : Rd sz R (w.drewN k) B A n cap l :=
  h.keep hR (Nat.le_refl _) fun _ _ => rfl
theorem ofF_more {α : Type} {n : Nat} {f : Nat → α} {x : α} : ofF n f ++ [x] = ofF (n + 1) (fun j => if j < n then f j else x) := by
  rw [ofF_succ, if_neg (Nat.lt_irrefl n), ofF_congr (g := f) (fun i hi => if_pos hi)]
theorem dr_more {w wr : World} (h : ∃ q, wr = w.drewN q) (r : Nat) : ∃ q, wr.drewN r = w.drewN q := by
  obtain ⟨q, rfl⟩ := h
  exact ⟨q + r, by rw [World.drewN_drewN]⟩
theorem dr_cell {w wr : World} (h : ∃ q, wr = w.drewN q) (a : Addr) : wr.cell? a = w.cell? a := by
  obtain ⟨q, rfl⟩ := h; rfl
theorem dr_rd {α : Type} {sz : Nat} {R : Enc α} {w wr : World} {B : Nat} {A : Option Addr} {n cap : Nat} {l : List α} (hR : Lasts R) (h : Rd sz R w B A n cap l) (hd : ∃ q, wr = w.drewN q) : Rd sz R wr B A n cap l := by
  obtain ⟨q, rfl⟩ := hd
  exact h.keep hR (Nat.le_refl _) fun _ _ => rfl
theorem dr_zero (w : World) : ∃ q, w = w.drewN q := ⟨0, rfl⟩
theorem Rd.litG {α : Type} {sz : Nat} {enc : α → List Value} (hs : Sized sz enc) {w : World} (e : TypeId) (l : List α) (cs : Array Value) (n H : Nat) (hH : w.heap.size = H) (hcs : cs = (l.flatMap enc).toArray) (hn : l.length = n) (hm : n ≤ 140737488351232) : Rd sz (flat enc) (w.alloc (.cells cs e)) (w.alloc (.cells cs e)).heap.size (some ⟨H, 0, none⟩) n n l := by
  subst hH
  obtain ⟨A, c, h1, h2⟩ := (Own.lit (e := e) hs (Nat.le_refl w.heap.size) l cs hcs hn hm).rd hs (by rw [hn]; exact hm)
  injection h1 with h1 h3 h4
  subst h1 h4
  rw [hn] at h2
  exact h2
theorem mul_bd2 {a b A B : Int} (h1 : 0 ≤ a) (h2 : a ≤ A) (h3 : 0 ≤ b) (h4 : b ≤ B) : 0 ≤ a * b ∧ a * b ≤ A * B :=
  ⟨Int.mul_nonneg h1 h3, Int.mul_le_mul h2 h4 h3 (by omega)⟩
abbrev RdII := Rd 1 (slE 1 (flat iEnc))
theorem ii_lasts : Lasts (slE 1 (flat iEnc)) := slE_lasts (flat_lasts _)
theorem Rd.atII {w : World} {B : Nat} {A : Option Addr} {n cap : Nat} {l : List (List Int)} (h : RdII w B A n cap l) {k : Nat} (hk : k < n) :
    ∃ b off A' n' cap' x, A = some ⟨b, off, none⟩ ∧ b < B ∧ l[k]? = some x ∧ w.cell? ⟨b, off + k, none⟩ = some (.slice A' n' cap') ∧ RdI w B A' n' cap' x := by
  obtain ⟨b, off, rfl, hb, hc⟩ := h.2.2.2 (by omega)
  have hl := h.1
  obtain ⟨cs, ⟨A', n', cap', rfl, hr⟩, _, hj⟩ := hc k (by omega)
  exact ⟨b, off, A', n', cap', l[k], rfl, hb, List.getElem?_eq_getElem (by omega), by simpa using hj 0 _ rfl, hr⟩
/-- an element of a list, and a row of a table -/
def gi (l : List Int) (k : Nat) : Int := l.getD k 0
theorem gi_eq {l : List Int} {k : Nat} {x : Int} (h : l[k]? = some x) : gi l k = x := by simp [gi, List.getD, h]
def clAt (cl : List (List Int)) (k : Nat) : List Int := cl.getD k []
theorem clAt_eq {cl : List (List Int)} {k : Nat} {l : List Int} (h : cl[k]? = some l) : clAt cl k = l := by simp [clAt, List.getD, h]
def tb (cl : List (List Int)) (r k : Nat) : Int := gi (clAt cl r) k
def fs (D : Nat → Nat → Int) (i k : Nat) (x : Int) : Nat → Nat → Int := fun a b => if a = i ∧ b = k then x else D a b
theorem fs_same (D : Nat → Nat → Int) (i k : Nat) (x : Int) : fs D i k x i k = x := by simp [fs]
theorem fs_other (D : Nat → Nat → Int) (i k : Nat) (x : Int) {a b : Nat} (h : ¬ (a = i ∧ b = k)) : fs D i k x a b = D a b := by simp [fs, h]
def inB (lo hi x : Int) : Bool := decide (lo ≤ x) && decide (x ≤ hi)
/-- the columns of a table -/
def wid (cl : List (List Int)) : Nat := (clAt cl 0).length
def rowC (cl : List (List Int)) (i : Nat) : Bool := decide ((clAt cl i).length = wid cl) && (clAt cl i).all (inB 0 1000000000)
/-- what Right says -/
def rightC (cl : List (List Int)) : Bool := decide (1 ≤ cl.length ∧ cl.length ≤ 20) && (decide (cl.length ≤ wid cl ∧ wid cl ≤ 40) && (List.range cl.length).all (rowC cl))
def fewC (cl : List (List Int)) : Bool := (cl.take 5).all (fun l => decide (l.length ≤ 6)) && decide (cl.length ≤ 4)
theorem int_info : (Tryd.prog.info? 3).map (fun i => (i.zero, i.size, i.bytes)) = some (some (.int .i64 0), 1, 8) := by kernel_rfl
theorem slices_info : (Tryd.prog.info? 22).map (fun i => (i.zero, i.size, i.bytes)) = some (some (.slice none 0 0), 1, 24) := by kernel_rfl
end
section
open Go.RowKit
section
variable {P : Program} {α : Type} {sz : Nat} {enc : α → List Value}
/-- one element, just laid at block H, appended to a slice of the call's own -/
theorem wpList_app1 (hs : Sized sz enc) {ops : Array Oper} {rest : List Oper} {o : Oper} {a : Act} {Q : Exit → Act → World → Prop} (hgd : o.guard = none) (s x : Operand) (t : TypeId)
    (ho : o.op = .call { callee := .builtin .append, args := #[s, x], argTypes := #[t, t] })
    (base : Nat) (e : TypeId) (i : TypeInfo) (z : Value) (bytes : Nat) (ht : P.underlying t = some (.slice e)) (hi : P.info? e = some i) (hz : i.zero = some z)
    (hsize : i.size = sz) (hby : i.bytes = bytes) (hzs : z.cells.size = sz)
    {w : World} (v : Value) (l : List α) (hv : a.eval s = v) (hown : Own sz enc w base e v l) (y : α) (cs : Array Value) (hcs : cs = (enc y).toArray) (H : Nat) (hH : w.heap.size = H) (hx : a.eval x = .slice (some ⟨H, 0, none⟩) 1 1)
    (hlen : l.length ≤ 1000000) (hbb : bytes ≤ 1000) (hbase : base ≤ w.heap.size)
    (h : ∀ v' w', Own sz enc w' base e v' (l ++ [y]) → Kept (fun b => v.ownBlock = some b) w w' → (∀ g, v'.ownBlock = some g → v.ownBlock = some g ∨ w.heap.size ≤ g) → (∀ B w0, B ≤ base → Below B w0 w → Below B w0 w') → wpList P ops Q rest (a.put o.dst v') w') : wpList P ops Q (o :: rest) a (w.alloc (.cells cs e)) := by
  subst hH
  refine wpList_app (w.alloc (.cells cs e)) hs hgd s x t ho base e i z bytes ht hi hz hsize hby hzs v l hv (hown.alloc _) _ _ 1 1 [y] hx (Rd.new1 hs w y cs hcs e) (by unfold maxLen; omega) ?_ (by simp; omega) ?_
  · have : (l.length + 1) * bytes ≤ (1000000 + 1) * 1000 := Nat.mul_le_mul (by omega) hbb
    omega
  · intro v' w' ho' hg' hx'
    have hk : Kept (fun b => v.ownBlock = some b) w w' := ((Kept.refl (fun b => v.ownBlock = some b) w).alloc _).trans (grown_kept hg') (fun _ _ h => h)
    refine h v' w' ho' hk (fun g hg => ?_) (fun B w0 hB hb => ?_)
    · rcases hx' with hx' | hx'
      · exact Or.inl (hx' ▸ hg)
      · rw [hx'] at hg; injection hg with hg; right; rw [← hg]; simp
    · exact Own.grow (hown.alloc _) hB (hb.alloc (by omega) _) (by simp; omega) hg'
end
/-- what a make leaves -/
theorem Own.made {w : World} {base n H : Nat} {e : TypeId} {cs : Array Value} (hH : w.heap.size = H) (hcs : cs = madeCells (Value.int .i64 0).cells (n * 1)) (hb : base ≤ w.heap.size) (hm : n ≤ 140737488351232) :
    Own 1 iEnc (w.alloc (.cells cs e)) base e (.slice (some ⟨H, 0, none⟩) n n) (ofF n (fun _ => (0 : Int))) := by
  subst hH
  subst hcs
  rw [← ofF_rep]
  refine Own.lit iSized hb (List.replicate n (0 : Int)) _ ?_ (by simp) hm
  have := madeCells_rep iSized (0 : Int) (.int .i64 0) rfl n
  rw [← this]
end
section
open Go.RowKit
section
variable {P : Program} {α : Type} {sz : Nat} {enc : α → List Value}
theorem flatMap_one (hs : Sized sz enc) (l : List α) : ∀ u ∈ l.flatMap enc, u.oneCell' = true := by
  intro u hu
  obtain ⟨x, _, hx⟩ := List.mem_flatMap.1 hu
  exact (hs.2 x).2 u hx
theorem wpList_grow1 (hs : Sized sz enc) {ops : Array Oper} {rest : List Oper} {o : Oper} {a : Act} {Q : Exit → Act → World → Prop} (hgd : o.guard = none) (s x : Operand) (t : TypeId)
    (ho : o.op = .call { callee := .builtin .append, args := #[s, x], argTypes := #[t, t] })
    (e : TypeId) (i : TypeInfo) (z : Value) (bytes : Nat) (ht : P.underlying t = some (.slice e)) (hi : P.info? e = some i) (hz : i.zero = some z)
    (hsize : i.size = sz) (hby : i.bytes = bytes) (hzs : z.cells.size = sz)
    {w : World} {B : Nat} {A : Option Addr} {n cap : Nat} {l : List α} (hr : Rd sz (flat enc) w B A n cap l) (hB : B ≤ w.heap.size) (hv : a.eval s = .slice A n cap) (hn : 0 < n) (hfull : cap < n + 1) (y : α) (cs : Array Value) (hcs : cs = (enc y).toArray) (H : Nat) (hH : w.heap.size = H) (hx : a.eval x = .slice (some ⟨H, 0, none⟩) 1 1)
    (hlen : n ≤ 1000000) (hbb : bytes ≤ 1000)
    (h : ∀ v' w', Own sz enc w' w.heap.size e v' (l ++ [y]) → Below w.heap.size w w' → wpList P ops Q rest (a.put o.dst v') w') : wpList P ops Q (o :: rest) a (w.alloc (.cells cs e)) := by
  subst hH
  obtain ⟨b, off, rfl, hb, hc⟩ := hr.cells hs hn
  have hl := hr.len
  have h1 : (n + 1) * bytes ≤ (1000000 + 1) * 1000 := Nat.mul_le_mul (by omega) hbb
  refine wpList_append_grows (w.alloc (.cells cs e)) hgd s x t ho e i z sz bytes ht hi hz hsize hby hzs hs.1 _ n cap (l.flatMap enc) hv (fun h => by cases h) (by rw [flatMap_len hs, hl]) (fun b' hb' j u hj => ?_) ⟨w.heap.size, 0, none⟩ 1 1 (enc y) hx (by rw [(hs.2 y).1, Nat.one_mul]) (fun j u hj => ?_) (hs.2 y).2 hfull (by unfold maxLen; omega) (by omega) (fun v' w' r1 r2 => ?_)
  · injection hb' with hb'
    subst hb'
    rw [Addr.add_lit]
    exact (World.cell?_alloc_lt _ _ _ (by show b < _; omega)).trans (hc j u hj)
  · rw [Addr.add_lit, Nat.zero_add]
    subst hcs
    simpa using hj
  · refine h v' w' ?_ ?_
    · have : Own sz enc w' (w.alloc (.cells cs e)).heap.size e v' (l ++ [y]) := by
        unfold Own
        rw [List.length_append, hl, List.flatMap_append]
        simpa using r1
      exact this.mono (by simp)
    · exact ((Below.refl w.heap.size w).alloc (Nat.le_refl _) _).grown r2 (by simp) (fun k hk => by cases hk)
/-- one element appended, inside a region that draws its order -/
theorem step_app1 (hs : Sized sz enc) {ops : Array Oper} {o : Oper} {a : Act} {K : Act → World → Prop} {Q : Exit → Act → World → Prop} {E : Prop} (hgd : o.guard = none) (s x : Operand) (t : TypeId)
    (ho : o.op = .call { callee := .builtin .append, args := #[s, x], argTypes := #[t, t] })
    (base : Nat) (e : TypeId) (i : TypeInfo) (z : Value) (bytes : Nat) (ht : P.underlying t = some (.slice e)) (hi : P.info? e = some i) (hz : i.zero = some z)
    (hsize : i.size = sz) (hby : i.bytes = bytes) (hzs : z.cells.size = sz)
    {w : World} (v : Value) (l : List α) (hv : a.eval s = v) (hown : Own sz enc w base e v l) (y : α) (cs : Array Value) (hcs : cs = (enc y).toArray) (H : Nat) (hH : w.heap.size = H) (hx : a.eval x = .slice (some ⟨H, 0, none⟩) 1 1)
    (hlen : l.length ≤ 1000000) (hbb : bytes ≤ 1000) (hbase : base ≤ w.heap.size)
    (h : ∀ v' w', Own sz enc w' base e v' (l ++ [y]) → Kept (fun b => v.ownBlock = some b) w w' → (∀ g, v'.ownBlock = some g → v.ownBlock = some g ∨ w.heap.size ≤ g) → (∀ B w0, B ≤ base → Below B w0 w → Below B w0 w') → K (a.put o.dst v') w') :
    if Region.wanted o (yielded ops a.tmps) = true then Oper.wp P o a (w.alloc (.cells cs e)) K Q else E := by
  subst hH
  have h1 : (l.length + 1) * bytes ≤ (1000000 + 1) * 1000 := Nat.mul_le_mul (by omega) hbb
  refine step_app (w.alloc (.cells cs e)) hs hgd s x t ho base e i z bytes ht hi hz hsize hby hzs v l hv (hown.alloc _) _ _ 1 1 [y] hx (Rd.new1 hs w y cs hcs e) (by unfold maxLen; omega) (by omega) (by simp; omega) ?_
  intro v' w' ho' hg' hx'
  have hk : Kept (fun b => v.ownBlock = some b) w w' := ((Kept.refl (fun b => v.ownBlock = some b) w).alloc _).trans (grown_kept hg') (fun _ _ h => h)
  refine h v' w' ho' hk (fun g hg => ?_) (fun B w0 hB hb => ?_)
  · rcases hx' with hx' | hx'
    · exact Or.inl (hx' ▸ hg)
    · rw [hx'] at hg; injection hg with hg; right; rw [← hg]; simp
  · exact Own.grow (hown.alloc _) hB (hb.alloc (by omega) _) (by simp; omega) hg'
end
end
end Go.Proofs.YtkeajohkpmabcaaDoor
