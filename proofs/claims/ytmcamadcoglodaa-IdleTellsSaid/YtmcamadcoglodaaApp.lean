/- A slice that the call itself owns, as a list of data: append, make, a store, a reading. No condition. -/
import Derived.Test.YtmcamadcoglodaaMem
import Derived.Maps.AppendAt
import Derived.RegionTactic
import Derived.OwnWalk
import Derived.Laws.OwnMore
namespace Go.Proofs.Ytmcamadcoglodaa
open Go.RowKit

/-- an encoding of one length -/
def Sized {α : Type} (sz : Nat) (enc : α → List Value) : Prop := 0 < sz ∧ ∀ x, (enc x).length = sz ∧ ∀ u ∈ enc x, u.oneCell' = true

section
variable {α : Type} {sz : Nat} {enc : α → List Value}
theorem flatMap_len (hs : Sized sz enc) : ∀ l : List α, (l.flatMap enc).length = l.length * sz
  | [] => by simp
  | x :: l => by rw [List.flatMap_cons, List.length_append, flatMap_len hs l, (hs.2 x).1, List.length_cons, Nat.add_mul]; omega
theorem flatMap_get (hs : Sized sz enc) : ∀ (l : List α) (k j : Nat), j < sz → (l.flatMap enc)[k * sz + j]? = (l[k]?).bind fun x => (enc x)[j]?
  | [], k, j, _ => by simp
  | x :: l, 0, j, hj => by
    rw [List.flatMap_cons, List.getElem?_append_left (by rw [(hs.2 x).1]; omega)]
    simp
  | x :: l, k + 1, j, hj => by
    rw [List.flatMap_cons, List.getElem?_append_right (by rw [(hs.2 x).1, Nat.add_mul]; omega), (hs.2 x).1, show (k + 1) * sz + j - sz = k * sz + j by rw [Nat.add_mul]; omega, flatMap_get hs l k j hj]
    simp
theorem flatMap_set (hs : Sized sz enc) : ∀ (l : List α) (k : Nat) (x : α) (j : Nat) (u : Value), l[k]? = some x → j < sz → ∀ y, enc y = (enc x).set j u → (l.flatMap enc).set (k * sz + j) u = (l.set k y).flatMap enc
  | [], k, x, j, u, h, _, y, _ => by simp at h
  | z :: l, 0, x, j, u, h, hj, y, hy => by
    simp at h; subst h
    rw [List.flatMap_cons, List.set_cons_zero, List.flatMap_cons, List.set_append_left _ _ (by rw [(hs.2 z).1]; omega), hy]
    simp
  | z :: l, k + 1, x, j, u, h, hj, y, hy => by
    rw [List.flatMap_cons, List.set_cons_succ, List.flatMap_cons, List.set_append_right _ _ (by rw [(hs.2 z).1, Nat.add_mul]; omega), (hs.2 z).1, show (k + 1) * sz + j - sz = k * sz + j by rw [Nat.add_mul]; omega,
      flatMap_set hs l k x j u (by simpa using h) hj y hy]

theorem iSized : Sized 1 iEnc := ⟨by omega, fun x => ⟨rfl, by intro u hu; simp [iEnc] at hu; subst hu; rfl⟩⟩
theorem pSized : Sized 2 pEnc := ⟨by omega, fun x => ⟨rfl, by intro u hu; simp [pEnc] at hu; rcases hu with rfl | rfl <;> rfl⟩⟩

/-- all cells of a slice at once -/
theorem Rd.cells (hs : Sized sz enc) {w : World} {B : Nat} {A : Option Addr} {n cap : Nat} {l : List α} (h : Rd sz (flat enc) w B A n cap l) (hn : 0 < n) :
    ∃ b off, A = some ⟨b, off, none⟩ ∧ b < B ∧ ∀ j u, (l.flatMap enc)[j]? = some u → w.cell? ⟨b, off + j, none⟩ = some u := by
  obtain ⟨b, off, rfl, hb, hc⟩ := h.2.2.2 hn
  refine ⟨b, off, rfl, hb, fun j u hu => ?_⟩
  have hsz := hs.1
  have hjl : j < (l.flatMap enc).length := by rw [List.getElem?_eq_some_iff] at hu; exact hu.1
  rw [flatMap_len hs] at hjl
  have hdm := Nat.div_add_mod j sz
  have hml := Nat.mod_lt j hsz
  have hk : j / sz < l.length := Nat.div_lt_of_lt_mul (by rw [Nat.mul_comm]; exact hjl)
  obtain ⟨cs, rfl, hl, hj⟩ := hc (j / sz) hk
  have e : j / sz * sz + j % sz = j := by rw [Nat.mul_comm]; exact hdm
  rw [← e, flatMap_get hs l _ _ hml, List.getElem?_eq_getElem hk] at hu
  have h2 := hj (j % sz) u (by simpa using hu)
  rw [show off + j / sz * sz + j % sz = off + j by omega] at h2
  exact h2

/-- a slice of the call's own that holds the list l -/
def Own (sz : Nat) (enc : α → List Value) (w : World) (base : Nat) (e : TypeId) (v : Value) (l : List α) : Prop := w.ownsRow base e sz v l.length (l.flatMap enc)

section
variable {w w' : World} {base : Nat} {e : TypeId} {v : Value} {l : List α}
theorem Own.nil : Own sz enc w base e (.slice none 0 0) ([] : List α) := World.ownsRow_nil _ _ _ _
theorem Own.alloc (h : Own sz enc w base e v l) (o : Obj) : Own sz enc (w.alloc o) base e v l := World.ownsRow.alloc h o
theorem Own.drew (h : Own sz enc w base e v l) : Own sz enc w.drew base e v l := h
theorem Own.kept {row : Option Nat} (h : Own sz enc w base e v l) (hg : w.grownBy w' row) (hne : v.ownBlock = none ∨ v.ownBlock ≠ row) : Own sz enc w' base e v l := World.ownsRow.kept h hg hne
/-- kept over a call that turns nothing old -/
theorem Own.below (h : Own sz enc w base e v l) (hb : Below w.heap.size w w') : Own sz enc w' base e v l := by
  refine ⟨h.1, ?_⟩
  rcases h.2 with h0 | ⟨g, cap, cur, hv, hg, hh, h2⟩
  · exact .inl h0
  · refine .inr ⟨g, cap, cur, hv, hg, (hb.block g ?_).trans hh, h2⟩
    exact (Array.getElem?_eq_some_iff.1 hh).1
theorem Own.mono {base' : Nat} (h : Own sz enc w base e v l) (hb : base' ≤ base) : Own sz enc w base' e v l := by
  refine ⟨h.1, ?_⟩
  rcases h.2 with h0 | ⟨g, cap, cur, hv, hg, h2⟩
  · exact .inl h0
  · exact .inr ⟨g, cap, cur, hv, by omega, h2⟩
theorem Own.lt (h : Own sz enc w base e v l) : ∀ k, v.ownBlock = some k → base ≤ k ∧ k < w.heap.size := World.ownsRow.lt h
theorem Own.grow (h : Own sz enc w base e v l) {w0 : World} {C : Nat} (hC : C ≤ base) (hb : Below C w0 w) (hB : C ≤ w.heap.size) (hg : w.grownBy w' v.ownBlock) : Below C w0 w' :=
  hb.grown hg hB fun k hk => Nat.le_trans hC (h.lt k hk).1
/-- its shape, and that it reads as its list -/
theorem Own.rd (hs : Sized sz enc) (h : Own sz enc w base e v l) (hn : l.length ≤ 140737488351232) : ∃ A cap, v = .slice A l.length cap ∧ Rd sz (flat enc) w w.heap.size A l.length cap l := by
  rcases h.2 with ⟨rfl, h0⟩ | ⟨g, cap, cur, hv, hg, hh, hnc, hcm, hcs, htake⟩
  · have : l = [] := List.eq_nil_of_length_eq_zero h0
    subst this
    exact ⟨none, 0, rfl, Rd.nil⟩
  · subst hv
    refine ⟨_, cap, rfl, rfl, hnc, ⟨by unfold maxLen at hcm; exact hcm, hn⟩, fun _ => ⟨g, 0, rfl, (Array.getElem?_eq_some_iff.1 hh).1, fun k hk => ⟨enc l[k], rfl, (hs.2 _).1, fun j u hu => ?_⟩⟩⟩
    have hj : j < sz := by rw [← (hs.2 l[k]).1]; exact (List.getElem?_eq_some_iff.1 hu).1
    have hkl : k * sz + j < l.length * sz := by
      have h1 := Nat.mul_le_mul_right sz (show k + 1 ≤ l.length from hk)
      rw [Nat.add_mul] at h1; omega
    have h1 := World.ownsRow.cellAt h (k * sz + j) hkl
    rw [Nat.zero_add, h1, flatMap_get hs l k j hj, List.getElem?_eq_getElem hk]
    simpa using hu
/-- an owned slice that is not empty: where it lies, and what may be done there -/
theorem Own.form (h : Own sz enc w base e v l) (hn : 0 < l.length) : ∃ g cap, v = .slice (some ⟨g, 0, none⟩) l.length cap ∧ base ≤ g ∧ g < w.heap.size ∧ l.length ≤ cap ∧ cap ≤ 9223372036854775807 ∧ (∀ j, w.frozen? ⟨g, j, none⟩ = false) ∧ v.ownBlock = some g := by
  rcases h.2 with ⟨rfl, h0⟩ | ⟨g, cap, cur, hv, hg, hh, hnc, hcm, hcs, htake⟩
  · omega
  · subst hv
    exact ⟨g, cap, rfl, hg, (Array.getElem?_eq_some_iff.1 hh).1, hnc, by unfold maxLen at hcm; exact hcm, fun j => World.ownsRow.frozenAt h j, rfl⟩
/-- a store into one cell of an element -/
theorem Own.stored (hs : Sized sz enc) {g cap n : Nat} (h : Own sz enc w base e (.slice (some ⟨g, 0, none⟩) n cap) l) (hln : l.length = n) {k j : Nat} {x y : α} {u : Value} (hk : l[k]? = some x) (hj : j < sz) (hy : enc y = (enc x).set j u) :
    Own sz enc (w.setCell ⟨g, k * sz + j, none⟩ u) base e (.slice (some ⟨g, 0, none⟩) n cap) (l.set k y) ∧ w.grownBy (w.setCell ⟨g, k * sz + j, none⟩ u) (some g) := by
  subst hln
  have h1 := World.ownsRow.stored h (k * sz + j) u
  rw [flatMap_set hs l k x j u hk hj y hy] at h1
  refine ⟨?_, h1.2⟩
  unfold Own
  rw [List.length_set]
  exact h1.1
end

/-- a literal -/
theorem Own.lit (hs : Sized sz enc) {w : World} {base n : Nat} {e : TypeId} (hb : base ≤ w.heap.size) (l : List α) (cs : Array Value) (hcs : cs = (l.flatMap enc).toArray) (hn : l.length = n) (hm : n ≤ 140737488351232) :
    Own sz enc (w.alloc (.cells cs e)) base e (.slice (some ⟨w.heap.size, 0, none⟩) n n) l := by
  subst hn
  have h := World.ownsRow_lit (e := e) (size := sz) w cs l.length hb (by unfold maxLen; omega) (by rw [hcs]; simp only [List.size_toArray]; exact flatMap_len hs l)
  unfold Own
  rw [hcs] at h ⊢
  simpa using h
/-- one element in a block of its own -/
theorem Rd.new1 (hs : Sized sz enc) (w : World) (x : α) (cs : Array Value) (hcs : cs = (enc x).toArray) (t : TypeId) : Rd sz (flat enc) (w.alloc (.cells cs t)) (w.heap.size + 1) (some ⟨w.heap.size, 0, none⟩) 1 1 [x] := by
  subst hcs
  refine ⟨rfl, by omega, ⟨by omega, by omega⟩, fun _ => ⟨w.heap.size, 0, rfl, by omega, fun k hk => ⟨enc x, ?_, (hs.2 x).1, fun j u hu => ?_⟩⟩⟩
  · have : k = 0 := by simpa using hk
    subst this
    rfl
  · have : k = 0 := by simpa using hk
    subst this
    simpa using hu

section
variable {P : Program} (w : World)
theorem run_append_nil (base : Nat) (t ty e : TypeId) (i : TypeInfo) (size : Nat) (ht : P.underlying t = some (.slice e)) (hi : P.info? e = some i)
    (v : Value) (n : Nat) (xs : List Value) (hown : w.ownsRow base e size v n xs) (A : Option Addr) (c : Nat) (hA : A = none) : (Builtin.append_ #[t, t] ty #[v, .slice A 0 c]).run P w = .ok v w := by
  subst hA
  rcases hown.2 with ⟨rfl, rfl⟩ | ⟨g, cap, cur, rfl, _, _, hnc, _⟩
  · simp [Builtin.append_, run_underlying ht, sizeOf, typeInfo, hi, Builtin.lenOf, Builtin.firstCells]
  · simp [Builtin.append_, run_underlying ht, sizeOf, typeInfo, hi, Builtin.lenOf, Builtin.firstCells, hnc, storeCells]

/-- append onto a slice of the call's own, of whatever reads as a list -/
theorem run_app (hs : Sized sz enc) (base : Nat) (t ty e : TypeId) (i : TypeInfo) (z : Value) (bytes : Nat) (ht : P.underlying t = some (.slice e)) (hi : P.info? e = some i) (hz : i.zero = some z)
    (hsize : i.size = sz) (hby : i.bytes = bytes) (hzs : z.cells.size = sz)
    (v : Value) (l : List α) (hown : Own sz enc w base e v l) (B : Nat) (A : Option Addr) (m c : Nat) (l2 : List α) (hr : Rd sz (flat enc) w B A m c l2)
    (h63 : l.length + m ≤ maxLen) (hbytes : (l.length + m) * bytes ≤ 140737488355328) (hbase : base ≤ w.heap.size) :
    ∃ v' w', (Builtin.append_ #[t, t] ty #[v, .slice A m c]).run P w = .ok v' w' ∧ Own sz enc w' base e v' (l ++ l2) ∧ w.grownBy w' v.ownBlock ∧ (v'.ownBlock = v.ownBlock ∨ v'.ownBlock = some w.heap.size) := by
  have hl2 := hr.len
  rcases A with _ | ad
  · have hm : m = 0 := by
      rcases Nat.eq_zero_or_pos m with h0 | h0
      · exact h0
      · obtain ⟨b, off, h, _⟩ := hr.2.2.2 h0
        cases h
    subst hm
    have hn : l2 = [] := List.eq_nil_of_length_eq_zero hl2
    subst hn
    exact ⟨v, w, run_append_nil w base t ty e i sz ht hi v _ _ hown none c rfl, by simpa using hown, World.grownBy.refl w _, .inl rfl⟩
  · have hcells : ∀ j u, (l2.flatMap enc)[j]? = some u → w.cell? (ad.add j) = some u := by
      intro j u hu
      rcases Nat.eq_zero_or_pos m with h0 | h0
      · have hn : l2 = [] := List.eq_nil_of_length_eq_zero (hl2.trans h0)
        subst hn
        simp at hu
      · obtain ⟨b, off, h, _, hc⟩ := hr.cells hs h0
        injection h with h
        subst h
        have h2 := hc j u hu
        simp only [Addr.add]
        split
        · rename_i hj0
          subst hj0
          simpa using h2
        · exact h2
    obtain ⟨v', w', hrun, h2, h3, _, h5⟩ := run_append_own_at (P := P) w base t ty e i z sz bytes ht hi hz hsize hby hzs hs.1 v l.length _ hown ad m c (l2.flatMap enc) (by rw [flatMap_len hs, hl2]) hcells
      (by intro u hu; obtain ⟨x, _, hx⟩ := List.mem_flatMap.1 hu; exact (hs.2 x).2 u hx) h63 hbytes hbase
    refine ⟨v', w', hrun, ?_, h3, h5⟩
    unfold Own
    rw [List.length_append, hl2, List.flatMap_append]
    exact h2

theorem wpList_app (hs : Sized sz enc) {ops : Array Oper} {rest : List Oper} {o : Oper} {a : Act} {Q : Exit → Act → World → Prop} (hgd : o.guard = none) (s x : Operand) (t : TypeId)
    (ho : o.op = .call { callee := .builtin .append, args := #[s, x], argTypes := #[t, t] })
    (base : Nat) (e : TypeId) (i : TypeInfo) (z : Value) (bytes : Nat) (ht : P.underlying t = some (.slice e)) (hi : P.info? e = some i) (hz : i.zero = some z)
    (hsize : i.size = sz) (hby : i.bytes = bytes) (hzs : z.cells.size = sz)
    (v : Value) (l : List α) (hv : a.eval s = v) (hown : Own sz enc w base e v l) (B : Nat) (A : Option Addr) (m c : Nat) (l2 : List α) (hx : a.eval x = .slice A m c) (hr : Rd sz (flat enc) w B A m c l2)
    (h63 : l.length + m ≤ maxLen) (hbytes : (l.length + m) * bytes ≤ 140737488355328) (hbase : base ≤ w.heap.size)
    (h : ∀ v' w', Own sz enc w' base e v' (l ++ l2) → w.grownBy w' v.ownBlock → (v'.ownBlock = v.ownBlock ∨ v'.ownBlock = some w.heap.size) → wpList P ops Q rest (a.put o.dst v') w') : wpList P ops Q (o :: rest) a w := by
  refine wpList_plain hgd fun _ hK => ?_
  obtain ⟨v', w', hrun, h2, h3, h4⟩ := run_app (P := P) w hs base t o.type e i z bytes ht hi hz hsize hby hzs v l hown B A m c l2 hr h63 hbytes hbase
  unfold Oper.wp execOp
  simp only [ho, resolve, invoke, builtin, Sem.run_bind, Sem.run_pure, Result.andThen_ok, List.map_toArray, List.map_cons, List.map_nil, hv, hx, hrun]
  exact hK _ _ (h v' w' h2 h3 h4)

/-- make([]T, n) -/
theorem madeCells_rep (hs : Sized sz enc) (x : α) (z : Value) (hz : z.cells = (enc x).toArray) (n : Nat) : (madeCells z.cells (n * sz)).toList = (List.replicate n x).flatMap enc := by
  have hsz := hs.1
  have hlen := (hs.2 x).1
  apply List.ext_getElem?
  intro j
  by_cases hj : j < n * sz
  · have hdm := Nat.div_add_mod j sz
    have hml := Nat.mod_lt j hsz
    have hk : j / sz < n := Nat.div_lt_of_lt_mul (by rw [Nat.mul_comm]; exact hj)
    have e : j / sz * sz + j % sz = j := by rw [Nat.mul_comm]; exact hdm
    have h2 := flatMap_get hs (List.replicate n x) (j / sz) (j % sz) hml
    rw [e] at h2
    rw [h2]
    simp only [madeCells, hz]
    simp [hj, hlen, hk]
    rw [List.getElem?_eq_getElem (by rw [hlen]; exact hml)]
    rfl
  · rw [List.getElem?_eq_none (by simp [madeCells]; omega), List.getElem?_eq_none (by rw [flatMap_len hs]; simp; omega)]

theorem wpList_mk (hs : Sized sz enc) (zx : α) {ops : Array Oper} {rest : List Oper} {o : Oper} {a : Act} {Q : Exit → Act → World → Prop}
    (hg : o.guard = none) (l c : Operand) (t : TypeId) (hop : o.op = Op.makeSlice t l c)
    (base : Nat) (e : TypeId) (i : TypeInfo) (z : Value) (h1 : P.underlying t = some (.slice e)) (h2 : P.info? e = some i) (h3 : i.zero = some z) (h4 : i.size = sz) (hzz : z.cells = (enc zx).toArray)
    (kl kc : IntKind) (L C : Int) (n : Nat) (hl : a.eval l = .int kl L) (hc : a.eval c = .int kc C) (hL : L = (n : Int)) (hC : C = (n : Int)) (b2 : i.bytes * n ≤ 281474976710656) (b3 : n ≤ maxLen) (b4 : base ≤ w.heap.size)
    (hK : ∀ w', Own sz enc w' base e (.slice (some ⟨w.heap.size, 0, none⟩) n n) (List.replicate n zx) → w.grownBy w' none → wpList P ops Q rest (a.put o.dst (.slice (some ⟨w.heap.size, 0, none⟩) n n)) w') :
    wpList P ops Q (o :: rest) a w :=
  wpList_make_full w hg l c t hop base e i z sz h1 h2 h3 h4 kl kc L C n hl hc hL hC b2 b3 b4 fun w' r1 r2 => hK w' (by
    unfold Own; rw [List.length_replicate, ← madeCells_rep hs zx z hzz]; exact r1) r2
end
end

/-- a list by a function of the index -/
def ofF {α : Type} (n : Nat) (f : Nat → α) : List α := (List.range n).map f
section
variable {α : Type} {n : Nat} {f g : Nat → α}
theorem ofF_len : (ofF n f).length = n := by simp [ofF]
theorem ofF_get {i : Nat} (h : i < n) : (ofF n f)[i]? = some (f i) := by
  unfold ofF; rw [List.getElem?_map, List.getElem?_range h]; rfl
theorem ofF_get_some {i : Nat} {x : α} (h : (ofF n f)[i]? = some x) : i < n ∧ x = f i := by
  by_cases hi : i < n
  · rw [ofF_get hi] at h; exact ⟨hi, (Option.some.inj h).symm⟩
  · rw [List.getElem?_eq_none (by rw [ofF_len]; omega)] at h; cases h
theorem ofF_congr (h : ∀ i, i < n → f i = g i) : ofF n f = ofF n g := List.map_congr_left fun i hi => h i (List.mem_range.1 hi)
theorem ofF_set (i : Nat) (x : α) : (ofF n f).set i x = ofF n (fun j => if j = i then x else f j) := by
  apply List.ext_getElem?
  intro j
  rw [List.getElem?_set]
  by_cases hj : j < n
  · rw [ofF_get hj, ofF_get hj, ofF_len]
    by_cases h : i = j
    · subst h; simp [hj]
    · rw [if_neg h, if_neg (fun e => h e.symm)]
  · rw [List.getElem?_eq_none (l := ofF n fun j => if j = i then x else f j) (by rw [ofF_len]; omega), List.getElem?_eq_none (l := ofF n f) (by rw [ofF_len]; omega)]
    rw [ofF_len]
    split
    · rename_i h; subst h; rw [if_neg hj]
    · rfl
theorem ofF_rep (x : α) : List.replicate n x = ofF n (fun _ => x) := by
  apply List.ext_getElem?
  intro j
  by_cases hj : j < n
  · rw [ofF_get hj]; simp [hj]
  · rw [List.getElem?_eq_none (by simpa using hj), List.getElem?_eq_none (by rw [ofF_len]; omega)]
theorem ofF_succ : ofF (n + 1) f = ofF n f ++ [f n] := by simp [ofF, List.range_succ]
theorem ofF_mem {x : α} (h : x ∈ ofF n f) : ∃ i, i < n ∧ x = f i := by
  obtain ⟨i, hi, rfl⟩ := List.mem_map.1 h
  exact ⟨i, List.mem_range.1 hi, rfl⟩
end
section
variable {w : World} {base : Nat} {e : TypeId} {g n cap : Nat}
theorem Own.cellI {f : Nat → Int} (h : Own 1 iEnc w base e (.slice (some ⟨g, 0, none⟩) n cap) (ofF n f)) {i : Nat} (hi : i < n) : w.cell? ⟨g, i, none⟩ = some (.int .i64 (f i)) ∧ w.frozen? ⟨g, i, none⟩ = false := by
  unfold Own at h
  rw [ofF_len] at h
  refine ⟨?_, World.ownsRow.frozenAt h i⟩
  have h1 := World.ownsRow.cellAt h i (by omega)
  have h2 := flatMap_get iSized (ofF n f) i 0 (by omega)
  rw [ofF_get hi] at h2
  rw [show i * 1 + 0 = i by omega] at h2
  rw [h1, h2]
  rfl
theorem Own.setI {f : Nat → Int} (h : Own 1 iEnc w base e (.slice (some ⟨g, 0, none⟩) n cap) (ofF n f)) {i : Nat} (hi : i < n) (x : Int) :
    Own 1 iEnc (w.setCell ⟨g, i, none⟩ (.int .i64 x)) base e (.slice (some ⟨g, 0, none⟩) n cap) (ofF n (fun j => if j = i then x else f j)) := by
  have h1 := (Own.stored (k := i) (j := 0) (y := x) (u := .int .i64 x) iSized h ofF_len (ofF_get hi) (by omega) rfl).1
  rw [ofF_set] at h1
  simpa using h1
theorem Own.cellP {f : Nat → Int × Int} (h : Own 2 pEnc w base e (.slice (some ⟨g, 0, none⟩) n cap) (ofF n f)) {i : Nat} (hi : i < n) :
    w.cell? ⟨g, i * 2, none⟩ = some (.int .i64 (f i).1) ∧ w.cell? ⟨g, i * 2 + 1, none⟩ = some (.int .i64 (f i).2) ∧ w.frozen? ⟨g, i * 2, none⟩ = false ∧ w.frozen? ⟨g, i * 2 + 1, none⟩ = false := by
  unfold Own at h
  rw [ofF_len] at h
  refine ⟨?_, ?_, World.ownsRow.frozenAt h _, World.ownsRow.frozenAt h _⟩
  · have h1 := World.ownsRow.cellAt h (i * 2) (by omega)
    have h2 := flatMap_get pSized (ofF n f) i 0 (by omega)
    rw [ofF_get hi] at h2
    rw [Nat.add_zero] at h2
    rw [h1, h2]
    rfl
  · have h1 := World.ownsRow.cellAt h (i * 2 + 1) (by omega)
    have h2 := flatMap_get pSized (ofF n f) i 1 (by omega)
    rw [ofF_get hi] at h2
    rw [h1, h2]
    rfl
theorem Own.setX {f : Nat → Int × Int} (h : Own 2 pEnc w base e (.slice (some ⟨g, 0, none⟩) n cap) (ofF n f)) {i : Nat} (hi : i < n) (x : Int) :
    Own 2 pEnc (w.setCell ⟨g, i * 2, none⟩ (.int .i64 x)) base e (.slice (some ⟨g, 0, none⟩) n cap) (ofF n (fun j => if j = i then (x, (f i).2) else f j)) := by
  have h1 := (Own.stored (k := i) (j := 0) (y := (x, (f i).2)) (u := .int .i64 x) pSized h ofF_len (ofF_get hi) (by omega) rfl).1
  rw [ofF_set] at h1
  exact h1
theorem Own.setY {f : Nat → Int × Int} (h : Own 2 pEnc w base e (.slice (some ⟨g, 0, none⟩) n cap) (ofF n f)) {i : Nat} (hi : i < n) (x : Int) :
    Own 2 pEnc (w.setCell ⟨g, i * 2 + 1, none⟩ (.int .i64 x)) base e (.slice (some ⟨g, 0, none⟩) n cap) (ofF n (fun j => if j = i then ((f i).1, x) else f j)) := by
  have h1 := (Own.stored (k := i) (j := 1) (y := ((f i).1, x)) (u := .int .i64 x) pSized h ofF_len (ofF_get hi) (by omega) rfl).1
  rw [ofF_set] at h1
  exact h1
end
end Go.Proofs.Ytmcamadcoglodaa
