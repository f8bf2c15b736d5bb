/- Words for a call's own memory: blocks with what they hold, and lists that are read beside them; laws for operations that make a block or store into one. Conditions stand in each theorem. -/
import Derived.Test.YtkeajohkpmabcaaDoorG0
namespace Go.Proofs.YtkeajohkpmabcaaDoor
open Go.RowKit
set_option linter.unusedVariables false

def Hb (w : World) (g : Nat) (cs : Array Value) (t : TypeId) : Prop := w.heap[g]? = some (.cells cs t (0, 0))
theorem Hb.lt {w : World} {g : Nat} {cs : Array Value} {t : TypeId} (h : Hb w g cs t) : g < w.heap.size := (Array.getElem?_eq_some_iff.1 h).1
theorem Hb.of {w w' : World} {g : Nat} {cs : Array Value} {t : TypeId} (h : Hb w g cs t) (hb : w'.heap[g]? = w.heap[g]?) : Hb w' g cs t := hb.trans h
theorem Hb.new (w : World) (cs : Array Value) (t : TypeId) : Hb (w.alloc (.cells cs t)) w.heap.size cs t := by unfold Hb World.alloc; exact Array.getElem?_push_size
theorem Hb.cell {w : World} {g j : Nat} {cs : Array Value} {t : TypeId} {u : Value} (h : Hb w g cs t) (hj : cs[j]? = some u) : w.cell? ⟨g, j, none⟩ = some u := by
  unfold Hb at h
  simp [World.cell?, h, hj]
theorem Hb.thaw {w : World} {g j : Nat} {cs : Array Value} {t : TypeId} (h : Hb w g cs t) : w.frozen? ⟨g, j, none⟩ = false := by
  unfold Hb at h
  simp [World.frozen?, h]
theorem Hb.set {w : World} {g j : Nat} {cs : Array Value} {t : TypeId} (h : Hb w g cs t) (v : Value) : Hb (w.setCell ⟨g, j, none⟩ v) g (cs.setIfInBounds j v) t := by
  unfold Hb at h ⊢
  unfold World.setCell
  simp only
  rw [Array.getElem?_modify, if_pos rfl, h]
  rfl
/-- what is read beside the call's blocks: a fact on the world, and the blocks that it leans on -/
structure Hl where
  P : World → Prop
  S : Nat → Prop
abbrev Blk := Nat × Array Value × TypeId
def Hl.ok (h : Hl) (L : List Blk) (W : World) : Prop :=
  h.P W ∧ (∀ b, h.S b → b < W.heap.size ∧ ∀ p ∈ L, p.1 ≠ b) ∧ ∀ W' : World, W.heap.size ≤ W'.heap.size → (∀ b, h.S b → W'.heap[b]? = W.heap[b]?) → h.P W'
theorem Hl.ok.to {h : Hl} {L : List Blk} {W W' : World} (hk : h.ok L W) (hs : W.heap.size ≤ W'.heap.size) (hb : ∀ b, h.S b → W'.heap[b]? = W.heap[b]?) : h.ok L W' :=
  ⟨hk.2.2 W' hs hb, fun b hS => ⟨Nat.lt_of_lt_of_le (hk.2.1 b hS).1 hs, (hk.2.1 b hS).2⟩, fun W'' h1 h2 => hk.2.2 W'' (Nat.le_trans hs h1) (fun b hS => (h2 b hS).trans (hb b hS))⟩
/-- nothing old has turned; the call's blocks; what is read -/
def St (w : World) (L : List Blk) (D : List Hl) (W : World) : Prop :=
  Below w.heap.size w W ∧ (∀ p ∈ L, w.heap.size ≤ p.1 ∧ Hb W p.1 p.2.1 p.2.2) ∧ L.Pairwise (fun p q => p.1 ≠ q.1) ∧ ∀ h ∈ D, h.ok L W
section
variable {w W W' : World} {L L' : List Blk} {D : List Hl}
theorem St.start (w : World) : St w [] [] w := ⟨Below.refl _ _, (fun p h => by cases h), List.Pairwise.nil, fun h e => by cases e⟩
theorem St.keep (h : St w L D W) (hb : Below W.heap.size W W') : St w L D W' :=
  ⟨h.1.trans (hb.mono h.1.size), fun p hp => ⟨(h.2.1 p hp).1, (h.2.1 p hp).2.of (hb.block _ (h.2.1 p hp).2.lt)⟩, h.2.2.1, fun x hx => (h.2.2.2 x hx).to hb.size (fun b hS => hb.block _ ((h.2.2.2 x hx).2.1 b hS).1)⟩
theorem St.drew (h : St w L D W) : St w L D W.drew := h.keep (Below.refl _ _).drew
theorem St.drewN (h : St w L D W) (n : Nat) : St w L D (W.drewN n) := h.keep (below_drewN (Below.refl _ _) n)
/-- a new block -/
theorem St.new (h : St w L D W) (cs : Array Value) (t : TypeId) : St w ((W.heap.size, cs, t) :: L) D (W.alloc (.cells cs t)) := by
  have h1 := h.keep ((Below.refl W.heap.size W).alloc (Nat.le_refl _) (.cells cs t))
  refine ⟨h1.1, fun p hp => ?_, List.Pairwise.cons (fun q hq e => ?_) h1.2.2.1, fun x hx => ⟨(h1.2.2.2 x hx).1, fun b hS => ⟨((h1.2.2.2 x hx).2.1 b hS).1, fun p hp => ?_⟩, (h1.2.2.2 x hx).2.2⟩⟩
  · rcases List.mem_cons.1 hp with rfl | hp
    · exact ⟨h.1.size, Hb.new W cs t⟩
    · exact h1.2.1 p hp
  · have := (h.2.1 q hq).2.lt
    have e : W.heap.size = q.1 := e
    omega
  · rcases List.mem_cons.1 hp with rfl | hp
    · have := ((h.2.2.2 x hx).2.1 b hS).1
      show W.heap.size ≠ b
      omega
    · exact ((h1.2.2.2 x hx).2.1 b hS).2 p hp
/-- one more thing that is read -/
theorem St.add (h : St w L D W) {x : Hl} (hx : x.ok L W) : St w L (x :: D) W :=
  ⟨h.1, h.2.1, h.2.2.1, fun y hy => by
    rcases List.mem_cons.1 hy with rfl | hy
    · exact hx
    · exact h.2.2.2 y hy⟩
def oldS (w : World) : Nat → Prop := fun b => b < w.heap.size
/-- what was there before the call -/
theorem St.old (h : St w L D W) {P : World → Prop} (hP : ∀ W' : World, w.heap.size ≤ W'.heap.size → (∀ b, b < w.heap.size → W'.heap[b]? = w.heap[b]?) → P W') : St w L (⟨P, oldS w⟩ :: D) W :=
  h.add ⟨hP W h.1.size (fun b hb => h.1.block b hb), fun b hS => ⟨Nat.lt_of_lt_of_le hS h.1.size, fun p hp => by have := (h.2.1 p hp).1; have hS : b < w.heap.size := hS; omega⟩, fun W' h1 h2 => hP W' (Nat.le_trans h.1.size h1) (fun b hb => (h2 b hb).trans (h.1.block b hb))⟩
theorem cell_of {w W : World} {p : Addr} (h : W.heap[p.block]? = w.heap[p.block]?) : W.cell? p = w.cell? p := by
  unfold World.cell?
  rw [h]
/-- a slice of ints that was there before the call -/
def rdP (A : Option Addr) (n cap : Nat) (l : List Int) : World → Prop := fun W => RdI W W.heap.size A n cap l
theorem St.oldRd (h : St w L D W) {A : Option Addr} {n cap : Nat} {l : List Int} (hl : RdI w w.heap.size A n cap l) : St w L (⟨rdP A n cap l, oldS w⟩ :: D) W :=
  h.old fun W' h1 h2 => hl.keep (flat_lasts _) h1 fun p hp => cell_of (h2 _ hp)
/-- .. of any elements -/
theorem St.oldR (h : St w L D W) {α : Type} {sz : Nat} {R : Enc α} (hR : Lasts R) {A : Option Addr} {n cap : Nat} {l : List α} (hl : Rd sz R w w.heap.size A n cap l) : St w L (⟨fun W => Rd sz R W W.heap.size A n cap l, oldS w⟩ :: D) W :=
  h.old fun W' h1 h2 => hl.keep hR h1 fun p hp => cell_of (h2 _ hp)
/-- .. and one that a callee has made -/
def rdS (A : Option Addr) (n : Nat) : Nat → Prop := fun b => 0 < n ∧ ∃ a, A = some a ∧ a.block = b
theorem St.ret (h : St w L D W) (hb : Below W.heap.size W W') {A : Option Addr} {n cap : Nat} {l : List Int} (hl : RdI W' W'.heap.size A n cap l) (hA : FrA W.heap.size A) : St w L (⟨rdP A n cap l, rdS A n⟩ :: D) W' := by
  refine (h.keep hb).add ⟨hl, fun b hS => ?_, fun W'' h1 h2 => ?_⟩
  · obtain ⟨hn, a, rfl, rfl⟩ := hS
    obtain ⟨b', off, e, hlt, -⟩ := hl.2.2.2 hn
    injection e with e
    subst e
    refine ⟨hlt, fun p hp => ?_⟩
    have h1 := (h.2.1 p hp).2.lt
    have h2 := hA _ rfl
    omega
  · refine ⟨hl.1, hl.2.1, hl.2.2.1, fun hn => ?_⟩
    obtain ⟨b', off, e, hlt, hc⟩ := hl.2.2.2 hn
    refine ⟨b', off, e, Nat.lt_of_lt_of_le hlt h1, fun k hk => ?_⟩
    obtain ⟨cs, hr, hlen, hj⟩ := hc k hk
    exact ⟨cs, hr, hlen, fun j u hu => (cell_of (p := ⟨b', off + k * 1 + j, none⟩) (h2 b' ⟨hn, _, e, rfl⟩)).trans (hj j u hu)⟩
theorem St.at (h : St w L D W) {P : World → Prop} {S : Nat → Prop} (hm : (⟨P, S⟩ : Hl) ∈ D) : P W := (h.2.2.2 _ hm).1
theorem St.rd (h : St w L D W) {A : Option Addr} {n cap : Nat} {l : List Int} {S : Nat → Prop} (hm : (⟨rdP A n cap l, S⟩ : Hl) ∈ D) : RdI W W.heap.size A n cap l := h.at hm
theorem St.blk (h : St w L D W) {b : Nat} {cs : Array Value} {t : TypeId} (hm : ((b, cs, t) : Blk) ∈ L) : Hb W b cs t := (h.2.1 _ hm).2
/-- the cells of all blocks, written out -/
def RawC (W : World) (b : Nat) : Nat → List Value → Prop
  | _, [] => True
  | j, u :: l => W.cell? ⟨b, j, none⟩ = some u ∧ RawC W b (j + 1) l
def Raw (W : World) : List Blk → Prop
  | [] => True
  | (b, cs, _) :: L => RawC W b 0 cs.toList ∧ Raw W L
theorem Hb.raw {b : Nat} {cs : Array Value} {t : TypeId} (h : Hb W b cs t) : ∀ (l : List Value) (j : Nat), cs.toList.drop j = l → RawC W b j l
  | [], _, _ => trivial
  | u :: l, j, e => ⟨h.cell (by
      have h1 : (cs.toList.drop j)[0]? = some u := by rw [e]; rfl
      rw [List.getElem?_drop, Nat.add_zero] at h1
      simpa using h1), h.raw l (j + 1) (by rw [← List.drop_drop, e]; rfl)⟩
theorem raw_of : ∀ {L : List Blk}, (∀ p ∈ L, w.heap.size ≤ p.1 ∧ Hb W p.1 p.2.1 p.2.2) → Raw W L
  | [], _ => trivial
  | (b, cs, t) :: L, h => ⟨(h _ (List.mem_cons_self ..)).2.raw _ 0 rfl, raw_of fun p hp => h p (List.mem_cons_of_mem _ hp)⟩
theorem St.raw (h : St w L D W) : Raw W L := raw_of h.2.1
/-- .. none of which is frozen -/
def RawZ (W : World) : List Blk → Prop
  | [] => True
  | (b, _, _) :: L => (∀ j, W.frozen? ⟨b, j, none⟩ = false) ∧ RawZ W L
theorem rawz_of : ∀ {L : List Blk}, (∀ p ∈ L, w.heap.size ≤ p.1 ∧ Hb W p.1 p.2.1 p.2.2) → RawZ W L
  | [], _ => trivial
  | (b, cs, t) :: L, h => ⟨fun j => (h _ (List.mem_cons_self ..)).2.thaw, rawz_of fun p hp => h p (List.mem_cons_of_mem _ hp)⟩
/-- .. and all are apart -/
def RawN : List Blk → Prop
  | [] => True
  | (b, _, _) :: L => (∀ p ∈ L, b ≠ p.1 ∧ p.1 ≠ b) ∧ RawN L
theorem rawn_of : ∀ {L : List Blk}, L.Pairwise (fun p q => p.1 ≠ q.1) → RawN L
  | [], _ => trivial
  | (b, _, _) :: L, h => ⟨fun p hp => ⟨(List.pairwise_cons.1 h).1 p hp, fun e => (List.pairwise_cons.1 h).1 p hp e.symm⟩, rawn_of (List.pairwise_cons.1 h).2⟩
theorem St.rawn (h : St w L D W) : RawN L := rawn_of h.2.2.1
theorem St.rawz (h : St w L D W) : RawZ W L := rawz_of h.2.1
/-- a block's content is another -/
inductive Upd (b : Nat) (cs : Array Value) (t : TypeId) (cs' : Array Value) : List Blk → List Blk → Prop
  | head (L : List Blk) : Upd b cs t cs' ((b, cs, t) :: L) ((b, cs', t) :: L)
  | tail (x : Blk) {L L' : List Blk} (h : Upd b cs t cs' L L') : Upd b cs t cs' (x :: L) (x :: L')
variable {b : Nat} {cs cs' : Array Value} {t : TypeId}
theorem Upd.mem (h : Upd b cs t cs' L L') : (b, cs, t) ∈ L := by
  induction h with
  | head L => exact List.mem_cons_self ..
  | tail x h ih => exact List.mem_cons_of_mem _ ih
theorem Upd.fsts (h : Upd b cs t cs' L L') : L'.map (·.1) = L.map (·.1) := by
  induction h with
  | head L => rfl
  | tail x h ih => simp [ih]
theorem Upd.back (h : Upd b cs t cs' L L') (hd : L.Pairwise (fun p q => p.1 ≠ q.1)) : ∀ p ∈ L', p = (b, cs', t) ∨ (p ∈ L ∧ p.1 ≠ b) := by
  induction h with
  | head L =>
    intro p hp
    rcases List.mem_cons.1 hp with rfl | hp
    · exact Or.inl rfl
    · exact Or.inr ⟨List.mem_cons_of_mem _ hp, fun e => (List.pairwise_cons.1 hd).1 p hp e.symm⟩
  | tail x h ih =>
    intro p hp
    rcases List.mem_cons.1 hp with rfl | hp
    · exact Or.inr ⟨List.mem_cons_self .., (List.pairwise_cons.1 hd).1 _ h.mem⟩
    · rcases ih (List.pairwise_cons.1 hd).2 p hp with h1 | ⟨h1, h2⟩
      · exact Or.inl h1
      · exact Or.inr ⟨List.mem_cons_of_mem _ h1, h2⟩
/-- the block b alone has turned -/
def OnlyB (b : Nat) (W W' : World) : Prop := W'.os = W.os ∧ W'.tape = W.tape ∧ W'.output = W.output ∧ W'.heap.size = W.heap.size ∧ ∀ k, k ≠ b → W'.heap[k]? = W.heap[k]?
theorem OnlyB.refl (b : Nat) (W : World) : OnlyB b W W := ⟨rfl, rfl, rfl, rfl, fun _ _ => rfl⟩
theorem OnlyB.trans {b : Nat} {W1 W2 W3 : World} (h : OnlyB b W1 W2) (h' : OnlyB b W2 W3) : OnlyB b W1 W3 :=
  ⟨h'.1.trans h.1, h'.2.1.trans h.2.1, h'.2.2.1.trans h.2.2.1, h'.2.2.2.1.trans h.2.2.2.1, fun k hk => (h'.2.2.2.2 k hk).trans (h.2.2.2.2 k hk)⟩
theorem OnlyB.set (W : World) (b j : Nat) (v : Value) : OnlyB b W (W.setCell ⟨b, j, none⟩ v) := ⟨rfl, rfl, rfl, by simp [World.setCell], fun k hk => Below.heap_setCell W ⟨b, j, none⟩ v k hk⟩
theorem St.upd (h : St w L D W) (hU : Upd b cs t cs' L L') (ho : OnlyB b W W') (hb : Hb W' b cs' t) : St w L' D W' := by
  obtain ⟨o1, o2, o3, o4, o5⟩ := ho
  have hbw := (h.2.1 _ hU.mem).1
  have hbl : Below w.heap.size w W' := h.1.trans ⟨o1, o2, o3, Nat.le_of_eq o4.symm, fun k hk => o5 k (by have hbw : w.heap.size ≤ b := hbw; omega)⟩
  refine ⟨hbl, fun p hp => ?_, ?_, fun x hx => ?_⟩
  · rcases hU.back h.2.2.1 p hp with rfl | ⟨h1, h2⟩
    · exact ⟨hbw, hb⟩
    · exact ⟨(h.2.1 p h1).1, (h.2.1 p h1).2.of (o5 _ h2)⟩
  · have h1 : (L.map (·.1)).Pairwise (· ≠ ·) := List.pairwise_map.2 h.2.2.1
    rw [← hU.fsts] at h1
    exact List.pairwise_map.1 h1
  · have hk := h.2.2.2 x hx
    have hk2 := hk.to (W' := W') (Nat.le_of_eq o4.symm) (fun c hS => o5 c (fun e => (hk.2.1 c hS).2 _ hU.mem e.symm))
    refine ⟨hk2.1, fun c hS => ⟨(hk2.2.1 c hS).1, fun p hp => ?_⟩, hk2.2.2⟩
    have h1 : p.1 ∈ L'.map (·.1) := List.mem_map.2 ⟨p, hp, rfl⟩
    rw [hU.fsts] at h1
    obtain ⟨q, hq, e⟩ := List.mem_map.1 h1
    rw [← e]
    exact (hk2.2.1 c hS).2 q hq
/-- some of the blocks, in whatever order -/
theorem St.pick (h : St w L D W) (hs : ∀ p ∈ L', p ∈ L) (hp : L'.Pairwise (fun p q => p.1 ≠ q.1)) : St w L' D W :=
  ⟨h.1, fun p hp => h.2.1 p (hs p hp), hp, fun x hx => ⟨(h.2.2.2 x hx).1, fun b hS => ⟨((h.2.2.2 x hx).2.1 b hS).1, fun p hp => ((h.2.2.2 x hx).2.1 b hS).2 p (hs p hp)⟩, (h.2.2.2 x hx).2.2⟩⟩
/-- .. and some of what is read -/
theorem St.less (h : St w L D W) {D' : List Hl} (hs : ∀ x ∈ D', x ∈ D) : St w L D' W := ⟨h.1, h.2.1, h.2.2.1, fun x hx => h.2.2.2 x (hs x hx)⟩
/-- two cells stored -/
theorem St.set2 (h : St w L D W) {x y u v : Value} (hU : Upd b #[x, y] t #[u, v] L L') : St w L' D ((W.setCell ⟨b, 0, none⟩ u).setCell ⟨b, 1, none⟩ v) :=
  h.upd hU ((OnlyB.set W b 0 u).trans (OnlyB.set _ b 1 v)) (((h.blk hU.mem).set (j := 0) u).set (j := 1) v)
end
/-- values laid over what a block holds, from a place on -/
def spl (cs : Array Value) (off : Nat) : List Value → Array Value
  | [] => cs
  | v :: vs => spl (cs.setIfInBounds off v) (off + 1) vs
theorem spl_size : ∀ (vs : List Value) (cs : Array Value) (off : Nat), (spl cs off vs).size = cs.size
  | [], _, _ => rfl
  | v :: vs, cs, off => by rw [spl, spl_size vs]; simp
section
variable {P : Program} {ops : Array Oper} {rest : List Oper} {o : Oper} {a : Act} {Q : Exit → Act → World → Prop}
theorem run_storeCells {b off : Nat} {t : TypeId} : ∀ (vs : List Value) (i : Nat) (W : World) (cs : Array Value), Hb W b cs t → off + i + vs.length ≤ cs.size → (∀ v ∈ vs, v.oneCell' = true) →
    ∃ W', (storeCells ⟨b, off, none⟩ vs i).run P W = .ok () W' ∧ Hb W' b (spl cs (off + i) vs) t ∧ OnlyB b W W'
  | [], i, W, cs, h, _, _ => ⟨W, by simp [storeCells], h, OnlyB.refl _ _⟩
  | v :: vs, i, W, cs, h, hl, h1 => by
    have hlt : off + i < cs.size := by simp only [List.length_cons] at hl; omega
    have hc : W.cell? ⟨b, off + i, none⟩ = some cs[off + i] := h.cell (Array.getElem?_eq_getElem hlt)
    have hst : (store (⟨b, off + i, none⟩ : Addr) v).run P W = .ok () (W.setCell ⟨b, off + i, none⟩ v) := by
      rw [run_store P W _ v _ (h1 v (List.mem_cons_self ..)), hc]
      simp [h.thaw]
    have ha : (⟨b, off, none⟩ : Addr).add i = ⟨b, off + i, none⟩ := addr_add b off i
    obtain ⟨W', r1, r2, r3⟩ := run_storeCells (off := off) vs (i + 1) (W.setCell ⟨b, off + i, none⟩ v) (cs.setIfInBounds (off + i) v) (h.set v) (by simp only [List.length_cons] at hl; simp; omega) (fun u hu => h1 u (List.mem_cons_of_mem _ hu))
    refine ⟨W', ?_, by rw [spl]; exact r2, (OnlyB.set _ _ _ _).trans r3⟩
    simp only [storeCells, ha, Sem.run_bind, hst, Result.andThen_ok]
    exact r1
variable {w W : World} {L L' : List Blk} {D : List Hl} {b off : Nat} {cs cs' : Array Value} {t : TypeId}
theorem run_storeVar_any (ty : TypeId) (v : Value) (hb : Hb W b cs t) (hi : (P.info? ty).map (·.size) = some v.cells.size) (hfit : off + v.cells.size ≤ cs.size) (h1 : ∀ u ∈ v.cells.toList, u.oneCell' = true) :
    ∃ W', (storeVar ty ⟨b, off, none⟩ v).run P W = .ok () W' ∧ Hb W' b (spl cs off v.cells.toList) t ∧ OnlyB b W W' := by
  obtain ⟨W', r1, r2, r3⟩ := run_storeCells (P := P) (off := off) v.cells.toList 0 W cs hb (by simpa using hfit) h1
  refine ⟨W', ?_, r2, r3⟩
  cases hq : P.info? ty with
  | none => simp [hq] at hi
  | some i =>
    have hs : i.size = v.cells.size := by simpa [hq] using hi
    simp [storeVar, sizeOf, typeInfo, hq, hs, r1]
/-- a store into one of the call's blocks -/
theorem St.store (K : St w L D W) (hgd : o.guard = none) (hd : o.dst = none) (ty : TypeId) (x y : Operand) (ho : o.op = .store ty x y) (v : Value) (hx : a.eval x = .pointer (some ⟨b, off, none⟩)) (hy : a.eval y = v) (vs : List Value) (hvs : v.cells.toList = vs)
    (hU : Upd b cs t cs' L L') (hcs : spl cs off vs = cs') (hi : (P.info? ty).map (·.size) = some vs.length) (hfit : off + vs.length ≤ cs.size) (h1 : ∀ u ∈ vs, u.oneCell' = true) (h : ∀ W', St w L' D W' → wpList P ops Q rest a W') : wpList P ops Q (o :: rest) a W := by
  subst hvs
  have hn : v.cells.toList.length = v.cells.size := by simp
  rw [hn] at hi hfit
  obtain ⟨W', r1, r2, r3⟩ := run_storeVar_any (P := P) (off := off) ty v (K.blk hU.mem) hi hfit h1
  rw [hcs] at r2
  refine wpList_plain hgd fun _ hK => ?_
  unfold Oper.wp execOp
  simp only [ho, hx, hy, Instr.storeAt, Instr.sureAddr, Sem.run_bind, Sem.run_pure, Result.andThen_ok, r1]
  have := h W' (K.upd hU r3 r2)
  have e : a.put o.dst undef = a := by rw [hd]; rfl
  exact hK _ _ (by first | exact this | (rw [e]; exact this))
theorem spl_get : ∀ (vs : List Value) (cs : Array Value) (off j : Nat), off + vs.length ≤ cs.size → (spl cs off vs)[j]? = if off ≤ j ∧ j < off + vs.length then vs[j - off]? else cs[j]?
  | [], cs, off, j, _ => by
    rw [spl, if_neg (by simp only [List.length_nil]; omega)]
  | v :: vs, cs, off, j, h => by
    simp only [List.length_cons] at h
    rw [spl, spl_get vs _ _ _ (by simp; omega)]
    simp only [List.length_cons]
    by_cases e : j = off
    · subst e
      rw [if_neg (by omega), if_pos (by omega), Array.getElem?_setIfInBounds_self_of_lt (by omega)]
      simp
    · rw [Array.getElem?_setIfInBounds_ne (by omega)]
      by_cases h1 : off + 1 ≤ j ∧ j < off + 1 + vs.length
      · rw [if_pos h1, if_pos (by omega), show j - off = (j - (off + 1)) + 1 by omega, List.getElem?_cons_succ]
      · rw [if_neg h1, if_neg (by omega)]
theorem spl_full {cs cs' : Array Value} (h : cs'.size = cs.size) : spl cs 0 cs'.toList = cs' := by
  apply Array.ext_getElem?
  intro j
  have hl : cs'.toList.length = cs'.size := by simp
  rw [spl_get _ _ _ _ (by omega)]
  by_cases hj : j < cs'.size
  · rw [if_pos (by omega)]; simp
  · rw [if_neg (by omega), Array.getElem?_eq_none (by omega), Array.getElem?_eq_none (by omega)]
/-- .. of the whole of one -/
theorem St.storeA (K : St w L D W) (hgd : o.guard = none) (hd : o.dst = none) (ty : TypeId) (x y : Operand) (ho : o.op = .store ty x y) (hx : a.eval x = .pointer (some ⟨b, 0, none⟩)) (hy : a.eval y = .agg cs')
    (hU : Upd b cs t cs' L L') {k : Nat} (hi : (P.info? ty).map (·.size) = some k) (hk : cs'.size = k) (hsz : cs'.size = cs.size) (h1 : cs'.toList.all (·.oneCell') = true) (h : ∀ W', St w L' D W' → wpList P ops Q rest a W') : wpList P ops Q (o :: rest) a W :=
  K.store (off := 0) hgd hd ty x y ho (.agg cs') hx hy cs'.toList rfl hU (spl_full hsz) (by rw [hi, ← hk]; simp) (by simp [hsz]) (fun u hu => List.all_eq_true.1 h1 u hu) h
/-- .. of a part, a struct -/
theorem St.storeP (K : St w L D W) (hgd : o.guard = none) (hd : o.dst = none) (ty : TypeId) (x y : Operand) (ho : o.op = .store ty x y) (vs : Array Value) (hx : a.eval x = .pointer (some ⟨b, off, none⟩)) (hy : a.eval y = .agg vs)
    (hU : Upd b cs t cs' L L') (hcs : spl cs off vs.toList = cs') {k : Nat} (hi : (P.info? ty).map (·.size) = some k) (hk : vs.size = k) (hfit : off + vs.size ≤ cs.size) (h1 : vs.toList.all (·.oneCell') = true) (h : ∀ W', St w L' D W' → wpList P ops Q rest a W') : wpList P ops Q (o :: rest) a W :=
  K.store (off := off) hgd hd ty x y ho (.agg vs) hx hy vs.toList rfl hU hcs (by rw [hi, ← hk]; simp) (by simpa using hfit) (fun u hu => List.all_eq_true.1 h1 u hu) h
/-- .. of one cell -/
theorem St.store1 (K : St w L D W) (hgd : o.guard = none) (hd : o.dst = none) (ty : TypeId) (x y : Operand) (ho : o.op = .store ty x y) (v : Value) (hx : a.eval x = .pointer (some ⟨b, off, none⟩)) (hy : a.eval y = v) (hv : v.cells = #[v])
    (hU : Upd b cs t cs' L L') (hcs : cs.setIfInBounds off v = cs') (hi : (P.info? ty).map (·.size) = some 1) (hfit : off < cs.size) (h1 : v.oneCell' = true) (h : ∀ W', St w L' D W' → wpList P ops Q rest a W') : wpList P ops Q (o :: rest) a W :=
  K.store (off := off) hgd hd ty x y ho v hx hy [v] (by rw [hv]) hU hcs hi (by simpa using Nat.succ_le_of_lt hfit) (fun u hu => by rw [List.mem_singleton.1 hu]; exact h1) h
theorem St.storeI (K : St w L D W) (hgd : o.guard = none) (hd : o.dst = none) (ty : TypeId) (x y : Operand) (ho : o.op = .store ty x y) (k : IntKind) (n : Int) (hx : a.eval x = .pointer (some ⟨b, off, none⟩)) (hy : a.eval y = .int k n)
    (hU : Upd b cs t cs' L L') (hcs : cs.setIfInBounds off (.int k n) = cs') (hi : (P.info? ty).map (·.size) = some 1) (hfit : off < cs.size) (h : ∀ W', St w L' D W' → wpList P ops Q rest a W') : wpList P ops Q (o :: rest) a W :=
  K.store1 hgd hd ty x y ho _ hx hy rfl hU hcs hi hfit rfl h
theorem St.storeB (K : St w L D W) (hgd : o.guard = none) (hd : o.dst = none) (ty : TypeId) (x y : Operand) (ho : o.op = .store ty x y) (n : Bool) (hx : a.eval x = .pointer (some ⟨b, off, none⟩)) (hy : a.eval y = .bool n)
    (hU : Upd b cs t cs' L L') (hcs : cs.setIfInBounds off (.bool n) = cs') (hi : (P.info? ty).map (·.size) = some 1) (hfit : off < cs.size) (h : ∀ W', St w L' D W' → wpList P ops Q rest a W') : wpList P ops Q (o :: rest) a W :=
  K.store1 hgd hd ty x y ho _ hx hy rfl hU hcs hi hfit rfl h
theorem St.storeS (K : St w L D W) (hgd : o.guard = none) (hd : o.dst = none) (ty : TypeId) (x y : Operand) (ho : o.op = .store ty x y) (A : Option Addr) (n c : Nat) (hx : a.eval x = .pointer (some ⟨b, off, none⟩)) (hy : a.eval y = .slice A n c)
    (hU : Upd b cs t cs' L L') (hcs : cs.setIfInBounds off (.slice A n c) = cs') (hi : (P.info? ty).map (·.size) = some 1) (hfit : off < cs.size) (h : ∀ W', St w L' D W' → wpList P ops Q rest a W') : wpList P ops Q (o :: rest) a W :=
  K.store1 hgd hd ty x y ho _ hx hy rfl hU hcs hi hfit rfl h
/-- a new block of zeros -/
theorem St.alloc (K : St w L D W) (hgd : o.guard = none) (ty : TypeId) (ho : o.op = .alloc ty) (cs : Array Value) (hz : (P.info? ty).map (fun i => i.zero.map (·.cells)) = some (some cs)) (h : ∀ W' b, St w ((b, cs, ty) :: L) D W' → wpList P ops Q rest (a.put o.dst (.pointer (some ⟨b, 0, none⟩))) W') : wpList P ops Q (o :: rest) a W := by
  refine wpList_plain hgd fun _ hK => ?_
  cases hq : P.info? ty with
  | none => simp [hq] at hz
  | some i =>
    cases hzz : i.zero with
    | none => simp [hq, hzz] at hz
    | some z =>
      have hc : z.cells = cs := by simpa [hq, hzz] using hz
      unfold Oper.wp execOp
      simp [ho, Instr.alloc, zeroValue, typeInfo, hq, hzz, newVar, newRow, hc]
      exact hK _ _ (h _ _ (K.new cs ty))
/-- .. and one that holds a value -/
theorem St.box (K : St w L D W) (hgd : o.guard = none) (ty : TypeId) (x : Operand) (ho : o.op = .box ty x) (hx : a.eval x = .agg cs) (h : ∀ W' b, St w ((b, cs, ty) :: L) D W' → wpList P ops Q rest (a.put o.dst (.pointer (some ⟨b, 0, none⟩))) W') : wpList P ops Q (o :: rest) a W := by
  refine wpList_plain hgd fun _ hK => ?_
  unfold Oper.wp execOp
  simp [ho, Instr.box, newVar, newRow, hx, Value.cells]
  exact hK _ _ (h _ _ (K.new cs ty))
end
theorem big_zero : (Tryd.prog.info? 24).map (fun i => i.zero.map (·.cells)) = some (some #[.int .i64 0, .slice none 0 0]) := by kernel_rfl
theorem big_size : (Tryd.prog.info? 24).map (·.size) = some 2 := by kernel_rfl
end Go.Proofs.YtkeajohkpmabcaaDoor
