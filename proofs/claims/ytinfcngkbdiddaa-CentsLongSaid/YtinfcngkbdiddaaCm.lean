/- Words for a call's own blocks of ints and of fractions: what they hold, stores, makes, how they read. Conditions stand in each theorem. -/
import Derived.Test.YtinfcngkbdiddaaCj
namespace Go.Proofs.Ytinfcngkbdiddaa
open Go.RowKit
set_option linter.unusedVariables false
set_option linter.unusedSimpArgs false

/-- a block of ints, and what else it holds -/
def intA (n : Nat) (f : Nat → Int) (J : List Value := []) : Array Value := ((ofF n f).flatMap iEnc ++ J).toArray
theorem intA_len {n : Nat} {f : Nat → Int} : ((ofF n f).flatMap iEnc).length = n := by rw [flatMap_len iSized, ofF_len, Nat.mul_one]
theorem intA_size {n : Nat} {f : Nat → Int} {J : List Value} : (intA n f J).size = n + J.length := by
  unfold intA
  simp only [List.size_toArray, List.length_append]
  rw [intA_len]
theorem intA_get {n i : Nat} {f : Nat → Int} {J : List Value} (h : i < n) : (intA n f J)[i]? = some (.int .i64 (f i)) := by
  unfold intA
  rw [List.getElem?_toArray, List.getElem?_append_left (by rw [intA_len]; exact h)]
  have e := flatMap_get iSized (ofF n f) i 0 (by omega)
  rw [Nat.mul_one, Nat.add_zero, ofF_get h] at e
  exact e
theorem intA_hi {n i : Nat} {f : Nat → Int} {J : List Value} (h : n ≤ i) : (intA n f J)[i]? = J[i - n]? := by
  unfold intA
  rw [List.getElem?_toArray, List.getElem?_append_right (by rw [intA_len]; exact h), intA_len]
def putF {α : Type} (v : Nat → α) (i : Nat) (x : α) : Nat → α := fun k => if k = i then x else v k
theorem putF_same {α : Type} (v : Nat → α) (i : Nat) (x : α) : putF v i x i = x := if_pos rfl
theorem putF_other {α : Type} {v : Nat → α} {i k : Nat} {x : α} (h : k ≠ i) : putF v i x k = v k := if_neg h
theorem intA_set {n j : Nat} {v : Int} {d : Nat → Int} {J : List Value} (hj : j < n) : (intA n d J).setIfInBounds j (.int .i64 v) = intA n (putF d j v) J := by
  apply Array.ext_getElem?
  intro i
  rw [Array.getElem?_setIfInBounds]
  by_cases h : i < n
  · rw [intA_get h, intA_get h]
    by_cases e : j = i
    · subst e
      rw [if_pos rfl, if_pos (by rw [intA_size]; omega), putF_same]
    · rw [if_neg e, putF_other (fun x => e x.symm)]
  · rw [intA_hi (by omega), intA_hi (by omega), if_neg (by omega)]
theorem intA_congr {n : Nat} {f g : Nat → Int} {J : List Value} (h : ∀ i, i < n → f i = g i) : intA n f J = intA n g J := by
  unfold intA
  rw [ofF_congr h]
theorem ordA_int (n : Nat) (d : Nat → Nat) : ordA n d = intA n (fun i => (d i : Int)) := by
  apply Array.ext_getElem?
  intro i
  by_cases h : i < n
  · rw [intA_get h, ordA_get h]
  · rw [intA_hi (by omega), Array.getElem?_eq_none (by unfold ordA; simp; omega)]
    rfl
/-- a fraction as it lies in memory -/
structure Rw where
  s : Int
  A : Option Addr
  n : Nat
  c : Nat
  l : List Int
  t : Int
  B : Option Addr
  m : Nat
  d : Nat
  k : List Int
def Rw.fv (x : Rw) : Fv := ⟨x.s, x.l, x.t, x.k⟩
def Rw.cs (x : Rw) : List Value := [.int .i64 x.s, .slice x.A x.n x.c, .int .i64 x.t, .slice x.B x.m x.d]
def Rw.on (x : Rw) (W : World) : Prop := rdP x.A x.n x.c x.l W ∧ rdP x.B x.m x.d x.k W
def Rw.S (x : Rw) (b : Nat) : Prop := rdS x.A x.n b ∨ rdS x.B x.m b
def Rw.zero : Rw := ⟨0, none, 0, 0, [], 0, none, 0, 0, []⟩
theorem rw_sized : Sized 4 Rw.cs := ⟨by omega, fun x => ⟨rfl, by
  intro u hu
  simp [Rw.cs] at hu
  rcases hu with rfl | rfl | rfl | rfl <;> rfl⟩⟩
/-- a block of fractions, and what else it holds -/
def rwA (n : Nat) (v : Nat → Rw) (J : List Value := []) : Array Value := ((ofF n v).flatMap Rw.cs ++ J).toArray
theorem rwA_len {n : Nat} {v : Nat → Rw} : ((ofF n v).flatMap Rw.cs).length = n * 4 := by rw [flatMap_len rw_sized, ofF_len]
theorem rwA_size {n : Nat} {v : Nat → Rw} {J : List Value} : (rwA n v J).size = n * 4 + J.length := by
  unfold rwA
  simp only [List.size_toArray, List.length_append]
  rw [rwA_len]
theorem rwA_get {n i j : Nat} {v : Nat → Rw} {J : List Value} (hi : i < n) (hj : j < 4) : (rwA n v J)[i * 4 + j]? = (v i).cs[j]? := by
  unfold rwA
  rw [List.getElem?_toArray, List.getElem?_append_left (by rw [rwA_len]; omega), flatMap_get rw_sized _ _ _ hj, ofF_get hi]
  rfl
theorem rwA_hi {n i : Nat} {v : Nat → Rw} {J : List Value} (h : n * 4 ≤ i) : (rwA n v J)[i]? = J[i - n * 4]? := by
  unfold rwA
  rw [List.getElem?_toArray, List.getElem?_append_right (by rw [rwA_len]; exact h), rwA_len]
theorem rwA_spl {n i : Nat} {v : Nat → Rw} {J : List Value} (hi : i < n) (x : Rw) : spl (rwA n v J) (i * 4) x.cs = rwA n (putF v i x) J := by
  apply Array.ext_getElem?
  intro q
  have hsz : (rwA n v J).size = n * 4 + J.length := rwA_size
  have hl : x.cs.length = 4 := rfl
  rw [spl_get _ _ _ _ (by rw [hsz, hl]; omega), hl]
  by_cases hq : q < n * 4
  · have hk : q / 4 < n := by omega
    have hj : q % 4 < 4 := by omega
    have e : q / 4 * 4 + q % 4 = q := by omega
    have h1 : (rwA n (putF v i x) J)[q]? = (putF v i x (q / 4)).cs[q % 4]? := by rw [← rwA_get hk hj, e]
    have h2 : (rwA n v J)[q]? = (v (q / 4)).cs[q % 4]? := by rw [← rwA_get hk hj, e]
    rw [h1, h2]
    by_cases hb : q / 4 = i
    · rw [if_pos (by omega), hb, putF_same]
      congr 1
      omega
    · rw [if_neg (by omega), putF_other hb]
  · rw [if_neg (by omega), rwA_hi (by omega), rwA_hi (by omega)]
theorem rwA_congr {n : Nat} {f g : Nat → Rw} {J : List Value} (h : ∀ i, i < n → f i = g i) : rwA n f J = rwA n g J := by
  unfold rwA
  rw [ofF_congr h]
def rwP (n : Nat) (v : Nat → Rw) : World → Prop := fun W => ∀ i, i < n → (v i).on W
def rwS (n : Nat) (v : Nat → Rw) : Nat → Prop := fun b => ∃ i, i < n ∧ (v i).S b
theorem rdP_zero (W : World) : rdP none 0 0 [] W := Rd.nil
theorem rdS_zero {b : Nat} : ¬ rdS none 0 b := fun h => Nat.lt_irrefl 0 h.1
section
variable {w W W' : World} {L L' : List Blk} {D : List Hl} {n : Nat} {v : Nat → Rw}
theorem St.rwNew (h : St w L D W) (n : Nat) : St w L (⟨rwP n (fun _ => Rw.zero), rwS n (fun _ => Rw.zero)⟩ :: D) W :=
  h.add ⟨fun i _ => ⟨rdP_zero W, rdP_zero W⟩, (fun b ⟨i, _, hS⟩ => by
    rcases hS with h | h
    · exact absurd h rdS_zero
    · exact absurd h rdS_zero), fun W' _ _ i _ => ⟨rdP_zero W', rdP_zero W'⟩⟩
/-- one of them is another one -/
theorem St.rwPut (h : St w L D W) (x : Rw) (i : Nat) (m1 : (⟨rwP n v, rwS n v⟩ : Hl) ∈ D) (m2 : (⟨rdP x.A x.n x.c x.l, rdS x.A x.n⟩ : Hl) ∈ D) (m3 : (⟨rdP x.B x.m x.d x.k, rdS x.B x.m⟩ : Hl) ∈ D) : St w L (⟨rwP n (putF v i x), rwS n (putF v i x)⟩ :: D) W := by
  have k1 := h.2.2.2 _ m1
  have k2 := h.2.2.2 _ m2
  have k3 := h.2.2.2 _ m3
  refine h.add ⟨fun j hj => ?_, fun b hS => ?_, fun W' h1 h2 j hj => ?_⟩
  · by_cases e : j = i
    · subst e; rw [putF_same]; exact ⟨k2.1, k3.1⟩
    · rw [putF_other e]; exact k1.1 j hj
  · obtain ⟨j, hj, hS⟩ := hS
    by_cases e : j = i
    · subst e
      rw [putF_same] at hS
      rcases hS with hS | hS
      · exact k2.2.1 b hS
      · exact k3.2.1 b hS
    · rw [putF_other e] at hS
      exact k1.2.1 b ⟨j, hj, hS⟩
  · by_cases e : j = i
    · subst e
      rw [putF_same]
      exact ⟨k2.2.2 W' h1 (fun b hS => h2 b ⟨j, hj, by rw [putF_same]; exact Or.inl hS⟩), k3.2.2 W' h1 (fun b hS => h2 b ⟨j, hj, by rw [putF_same]; exact Or.inr hS⟩)⟩
    · rw [putF_other e]
      have k4 := (k1.1 j hj)
      have hS1 := fun b (hS : (v j).S b) => h2 b ⟨j, hj, by rw [putF_other e]; exact hS⟩
      have key : ∀ {A : Option Addr} {n c : Nat} {l : List Int}, rdP A n c l W → (∀ b, rdS A n b → W'.heap[b]? = W.heap[b]?) → rdP A n c l W' := fun {A n c l} hl hk => by
        refine ⟨hl.1, hl.2.1, hl.2.2.1, fun hn => ?_⟩
        obtain ⟨b', off, e, hlt, hc⟩ := hl.2.2.2 hn
        refine ⟨b', off, e, Nat.lt_of_lt_of_le hlt h1, fun k hk' => ?_⟩
        obtain ⟨cs, hr, hlen, hj⟩ := hc k hk'
        exact ⟨cs, hr, hlen, fun j u hu => (cell_of (p := ⟨b', off + k * 1 + j, none⟩) (hk b' ⟨hn, _, e, rfl⟩)).trans (hj j u hu)⟩
      exact ⟨key k4.1 fun b hS => hS1 b (Or.inl hS), key k4.2 fun b hS => hS1 b (Or.inr hS)⟩
/-- a block of fractions reads as their list -/
theorem St.rdF (h : St w L D W) {g cap : Nat} {t : TypeId} {J : List Value} (hb : ((g, rwA n v J, t) : Blk) ∈ L) (hm : (⟨rwP n v, rwS n v⟩ : Hl) ∈ D) (hc : n ≤ cap ∧ cap ≤ 1000000) : RdF W W.heap.size (some ⟨g, 0, none⟩) n cap (ofF n fun i => (v i).fv) := by
  have hB := h.blk hb
  refine ⟨ofF_len, hc.1, ⟨by omega, by omega⟩, fun hn => ⟨g, 0, rfl, hB.lt, fun k hk => ?_⟩⟩
  rw [ofF_len] at hk
  refine ⟨(v k).cs, ?_, rfl, fun j u hu => ?_⟩
  · have e : (ofF n fun i => (v i).fv)[k]'(by rw [ofF_len]; exact hk) = (v k).fv := by
      have := ofF_get (f := fun i => (v i).fv) hk
      rw [List.getElem?_eq_getElem (by rw [ofF_len]; exact hk)] at this
      exact Option.some.inj this
    rw [e]
    exact ⟨_, _, _, _, _, _, rfl, (h.at hm k hk).1, (h.at hm k hk).2⟩
  · have hj : j < 4 := (List.getElem?_eq_some_iff.1 hu).1
    rw [Nat.zero_add]
    exact hB.cell ((rwA_get hk hj).trans hu)
/-- .. and so does one of ints -/
theorem St.rdN (h : St w L D W) {f : Nat → Int} {g cap : Nat} {t : TypeId} {J : List Value} (hb : ((g, intA n f J, t) : Blk) ∈ L) (hc : n ≤ cap ∧ cap ≤ 1000000) : RdI W W.heap.size (some ⟨g, 0, none⟩) n cap (ofF n f) := by
  have hB := h.blk hb
  refine ⟨ofF_len, hc.1, ⟨by omega, by omega⟩, fun hn => ⟨g, 0, rfl, hB.lt, fun k hk => ?_⟩⟩
  rw [ofF_len] at hk
  refine ⟨_, rfl, rfl, fun j u hu => ?_⟩
  have hj : j = 0 := by
    have : j < 1 := (List.getElem?_eq_some_iff.1 hu).1
    omega
  subst hj
  rw [Nat.zero_add, Nat.mul_one, Nat.add_zero]
  refine (hB.cell (intA_get hk)).trans ?_
  rw [← hu]
  have e : (ofF n f)[k]'(by rw [ofF_len]; exact hk) = f k := by
    have := ofF_get (f := f) hk
    rw [List.getElem?_eq_getElem (by rw [ofF_len]; exact hk)] at this
    exact Option.some.inj this
  rw [e]
  rfl
end
theorem madeA {z : Array Value} {α : Type} {sz : Nat} {enc : α → List Value} (hs : Sized sz enc) (x : α) (hz : z = (enc x).toArray) (n : Nat) : madeCells z (n * sz) = ((ofF n fun _ => x).flatMap enc).toArray := by
  have h := madeCells_rep hs x (.agg z) (by rw [hz]; rfl) n
  rw [ofF_rep] at h
  rw [← h]
  rfl
section
variable {P : Program} {ops : Array Oper} {rest : List Oper} {o : Oper} {a : Act} {Q : Exit → Act → World → Prop}
variable {w W : World} {L L' : List Blk} {D : List Hl}
/-- make([]T, n) -/
theorem St.make (K : St w L D W) (hgd : o.guard = none) (l c : Operand) (t e : TypeId) (ho : o.op = Op.makeSlice t l c) (z : Array Value) (sz bytes : Nat) (ht : P.underlying t = some (.slice e)) (hi : (P.info? e).map (fun i => (i.zero.map (·.cells), i.size, i.bytes)) = some (some z, sz, bytes))
    (n : Nat) (hl : a.eval l = .int .i64 (n : Int)) (hc : a.eval c = .int .i64 (n : Int)) (cs : Array Value) (hcs : madeCells z (n * sz) = cs) (hb : bytes * n ≤ 281474976710656) (hn : n ≤ 1000000)
    (h : ∀ W' b, St w ((b, cs, e) :: L) D W' → wpList P ops Q rest (a.put o.dst (.slice (some ⟨b, 0, none⟩) n n)) W') : wpList P ops Q (o :: rest) a W := by
  refine wpList_plain hgd fun _ hK => ?_
  obtain ⟨i, h1, h2⟩ := Option.map_eq_some_iff.1 hi
  simp only [Prod.mk.injEq] at h2
  obtain ⟨h2, h3, h4⟩ := h2
  obtain ⟨zv, h5, h6⟩ := Option.map_eq_some_iff.1 h2
  have hb' : (i.bytes : Int) * (n : Int) ≤ 281474976710656 := by
    have h : ((i.bytes * n : Nat) : Int) ≤ 281474976710656 := by rw [h4]; omega
    rwa [Int.natCast_mul] at h
  have hr := run_make (P := P) W t e i zv ht h1 h5 .i64 .i64 n n (by omega) (Int.le_refl _) hb' (by omega)
  simp only [Int.toNat_natCast, h3] at hr
  rw [h6, hcs] at hr
  unfold Oper.wp
  simp [execOp, ho, hl, hc, hr, Result.andThen]
  exact hK _ _ (h _ _ (K.new cs e))
end
theorem int_made : (Try.prog.info? 3).map (fun i => (i.zero.map (·.cells), i.size, i.bytes)) = some (some #[.int .i64 0], 1, 8) := by kernel_rfl
theorem frac_made : (Try.prog.info? 35).map (fun i => (i.zero.map (·.cells), i.size, i.bytes)) = some (some #[.int .i64 0, .slice none 0 0, .int .i64 0, .slice none 0 0], 4, 64) := by kernel_rfl
theorem made_ints (n : Nat) : madeCells #[.int .i64 0] (n * 1) = intA n (fun _ => 0) := by
  rw [madeA (z := #[.int .i64 0]) iSized 0 rfl n]
  unfold intA
  rw [List.append_nil]
theorem made_fracs (n : Nat) : madeCells #[.int .i64 0, .slice none 0 0, .int .i64 0, .slice none 0 0] (n * 4) = rwA n (fun _ => Rw.zero) := by
  rw [madeA (z := #[.int .i64 0, .slice none 0 0, .int .i64 0, .slice none 0 0]) rw_sized Rw.zero rfl n]
  unfold rwA
  rw [List.append_nil]
theorem St.newZ {w W : World} {L : List Blk} {D : List Hl} (K : St w L D W) (cs : Array Value) (T : TypeId) : ∃ g, W.heap.size = g ∧ St w ((g, cs, T) :: L) D (W.alloc (.cells cs T)) := ⟨_, rfl, K.new cs T⟩
theorem St.hideZ {w W : World} {L : List Blk} {D : List Hl} (K : St w L D W) (T : TypeId) : ∃ R : Nat → Array Value → Option Addr → Nat → Nat → List Int → Option Addr → Nat → Nat → List Int → World → Prop, ∀ g cs A n c l B m d k W', R g cs A n c l B m d k W' ↔ St w ((g, cs, T) :: L) (⟨rdP B m d k, rdS B m⟩ :: ⟨rdP A n c l, rdS A n⟩ :: D) W' :=
  ⟨_, fun _ _ _ _ _ _ _ _ _ _ _ => Iff.rfl⟩
theorem St.set4Z {w W : World} {L L' : List Blk} {D : List Hl} {b : Nat} {t : TypeId} (h : St w L D W) {x0 x1 x2 x3 u0 u1 u2 u3 : Value} (hU : Upd b #[x0, x1, x2, x3] t #[u0, u1, u2, u3] L L') :
    St w L' D ((((W.setCell ⟨b, 0, none⟩ u0).setCell ⟨b, 1, none⟩ u1).setCell ⟨b, 2, none⟩ u2).setCell ⟨b, 3, none⟩ u3) :=
  h.upd hU ((((OnlyB.set W b 0 u0).trans (OnlyB.set _ b 1 u1)).trans (OnlyB.set _ b 2 u2)).trans (OnlyB.set _ b 3 u3)) (((((h.blk hU.mem).set (j := 0) u0).set (j := 1) u1).set (j := 2) u2).set (j := 3) u3)
/-- the blocks, in another order -/
theorem St.perm {w W : World} {L L' : List Blk} {D : List Hl} (h : St w L D W) (hp : L'.Perm L) : St w L' D W :=
  h.pick (fun p hm => hp.subset hm) (hp.symm.pairwise h.2.2.1 (fun {a b} hab e => hab e.symm))
/-- a slice that the call has made by appending: its block, if it has one -/
def OwL {α : Type} (sz : Nat) (enc : α → List Value) (e : TypeId) (v : Value) (l : List α) (X : List Blk) : Prop :=
  (v = .slice none 0 0 ∧ l = [] ∧ X = []) ∨ ∃ g cap J, v = .slice (some ⟨g, 0, none⟩) l.length cap ∧ X = [(g, (l.flatMap enc ++ J).toArray, e)] ∧ l.length ≤ cap ∧ cap ≤ maxLen ∧ (l.flatMap enc ++ J).length = cap * sz
section
variable {α : Type} {sz : Nat} {enc : α → List Value} {e : TypeId} {v : Value} {l : List α} {X : List Blk} {w W W' : World} {L : List Blk} {D : List Hl}
theorem OwL.nil : OwL sz enc e (.slice none 0 0) ([] : List α) [] := Or.inl ⟨rfl, rfl, rfl⟩
theorem OwL.own (hs : Sized sz enc) (h : OwL sz enc e v l X) (K : St w (X ++ L) D W) : Own sz enc W w.heap.size e v l := by
  rcases h with ⟨rfl, rfl, rfl⟩ | ⟨g, cap, J, rfl, rfl, h1, h2, h3⟩
  · exact Own.nil
  · have hb := K.2.1 _ (List.mem_append_left _ (List.mem_singleton.2 rfl))
    refine ⟨flatMap_len hs l, Or.inr ⟨g, cap, _, rfl, hb.1, hb.2, h1, h2, by simpa using h3, ?_⟩⟩
    rw [← flatMap_len hs l]
    simp
theorem OwL.of (hs : Sized sz enc) (ho : OwL sz enc e v l X) (K : St w (X ++ L) D W) {v' : Value} {l' : List α} (h : Own sz enc W' w.heap.size e v' l') (hk : Kept (fun b => v.ownBlock = some b) W W') (hf : ∀ g, v'.ownBlock = some g → v.ownBlock = some g ∨ W.heap.size ≤ g) :
    ∃ X', OwL sz enc e v' l' X' ∧ St w (X' ++ L) D W' := by
  have hXb : ∀ b, v.ownBlock = some b → ∃ c, (b, c, e) ∈ X := fun b hb => by
    rcases ho with ⟨rfl, rfl, rfl⟩ | ⟨g, cap, J, rfl, rfl, h1, h2, h3⟩
    · cases hb
    · have hb : some g = some b := hb
      injection hb with hb
      subst hb
      exact ⟨_, List.mem_singleton.2 rfl⟩
  have hpw := List.pairwise_append.1 K.2.2.1
  have hL : ∀ p ∈ L, ¬ v.ownBlock = some p.1 := fun p hp e => by
    obtain ⟨c, hc⟩ := hXb _ e
    exact hpw.2.2 _ hc p hp rfl
  have hbase : ∀ b, v.ownBlock = some b → w.heap.size ≤ b := fun b hb => by
    obtain ⟨c, hc⟩ := hXb _ hb
    exact (K.2.1 _ (List.mem_append_left _ hc)).1
  have hD : ∀ x ∈ D, ∀ b, x.S b → ¬ v.ownBlock = some b := fun x hx b hS e => by
    obtain ⟨c, hc⟩ := hXb _ e
    exact ((K.2.2.2 x hx).2.1 b hS).2 _ (List.mem_append_left _ hc) rfl
  have hbel : Below w.heap.size w W' := K.1.trans ⟨hk.os, hk.tape, hk.output, hk.size, fun i hi => hk.block i (Nat.lt_of_lt_of_le hi K.1.size) (fun e => by have := hbase i e; omega)⟩
  have KL : ∀ p ∈ L, w.heap.size ≤ p.1 ∧ Hb W' p.1 p.2.1 p.2.2 := fun p hp => by
    have h1 := K.2.1 p (List.mem_append_right _ hp)
    exact ⟨h1.1, h1.2.of (hk.block _ h1.2.lt (hL p hp))⟩
  have KD : ∀ x ∈ D, x.P W' ∧ (∀ b, x.S b → b < W'.heap.size) ∧ (∀ W'' : World, W'.heap.size ≤ W''.heap.size → (∀ b, x.S b → W''.heap[b]? = W'.heap[b]?) → x.P W'') := fun x hx => by
    have h1 := K.2.2.2 x hx
    have hb := fun b hS => hk.block b ((h1.2.1 b hS).1) (hD x hx b hS)
    refine ⟨h1.2.2 W' hk.size hb, fun b hS => Nat.lt_of_lt_of_le (h1.2.1 b hS).1 hk.size, fun W'' h2 h3 => h1.2.2 W'' (Nat.le_trans hk.size h2) (fun b hS => (h3 b hS).trans (hb b hS))⟩
  rcases h.2 with ⟨rfl, h0⟩ | ⟨g, cap, cur, hv, hg, hh, hnc, hcm, hcs, htake⟩
  · have : l' = [] := List.eq_nil_of_length_eq_zero h0
    subst this
    exact ⟨[], OwL.nil, hbel, KL, hpw.2.1, fun x hx => ⟨(KD x hx).1, fun b hS => ⟨(KD x hx).2.1 b hS, fun p hp => ((K.2.2.2 x hx).2.1 b hS).2 p (List.mem_append_right _ hp)⟩, (KD x hx).2.2⟩⟩
  · subst hv
    have hfg := hf g rfl
    have hne : ∀ p ∈ L, g ≠ p.1 := fun p hp e => by
      rcases hfg with h1 | h1
      · exact hL p hp (by rw [h1, e])
      · have := (K.2.1 p (List.mem_append_right _ hp)).2.lt
        omega
    have hneD : ∀ x ∈ D, ∀ b, x.S b → g ≠ b := fun x hx b hS e => by
      rcases hfg with h1 | h1
      · exact hD x hx b hS (by rw [h1, e])
      · have := ((K.2.2.2 x hx).2.1 b hS).1
        omega
    have hcur : cur = (l'.flatMap enc ++ cur.toList.drop (l'.length * sz)).toArray := by
      rw [← htake, List.take_append_drop]
    refine ⟨[(g, cur, e)], Or.inr ⟨g, cap, cur.toList.drop (l'.length * sz), rfl, by rw [← hcur], hnc, hcm, ?_⟩, hbel, fun p hp => ?_, List.Pairwise.cons (fun p hp => hne p hp) hpw.2.1, fun x hx => ⟨(KD x hx).1, fun b hS => ⟨(KD x hx).2.1 b hS, fun p hp => ?_⟩, (KD x hx).2.2⟩⟩
    · rw [← htake, List.take_append_drop]
      simpa using hcs
    · rcases List.mem_cons.1 hp with rfl | hp
      · exact ⟨hg, hh⟩
      · exact KL p hp
    · rcases List.mem_cons.1 hp with rfl | hp
      · exact hneD x hx b hS
      · exact ((K.2.2.2 x hx).2.1 b hS).2 p (List.mem_append_right _ hp)
variable {P : Program} {ops : Array Oper} {rest : List Oper} {o : Oper} {a : Act} {Q : Exit → Act → World → Prop}
/-- one element appended, that was laid just now -/
theorem St.app1 (K : St w (X ++ L) D W) (ho : OwL sz enc e v l X) (hs : Sized sz enc) (hgd : o.guard = none) (s x : Operand) (t : TypeId)
    (hop : o.op = .call { callee := .builtin .append, args := #[s, x], argTypes := #[t, t] })
    (z : Array Value) (bytes : Nat) (ht : P.underlying t = some (.slice e)) (hi : (P.info? e).map (fun i => (i.zero.map (·.cells), i.size, i.bytes)) = some (some z, sz, bytes)) (hz : z.size = sz)
    (hv : a.eval s = v) (y : α) (cs : Array Value) (hcs : cs = (enc y).toArray) (H : Nat) (hH : W.heap.size = H) (hx : a.eval x = .slice (some ⟨H, 0, none⟩) 1 1)
    (hlen : l.length ≤ 1000000) (hbb : bytes ≤ 1000)
    (h : ∀ v' X' W', OwL sz enc e v' (l ++ [y]) X' → St w (X' ++ L) D W' → wpList P ops Q rest (a.put o.dst v') W') : wpList P ops Q (o :: rest) a (W.alloc (.cells cs e)) := by
  obtain ⟨i, h1, h2⟩ := Option.map_eq_some_iff.1 hi
  simp only [Prod.mk.injEq] at h2
  obtain ⟨h2, h3, h4⟩ := h2
  obtain ⟨zv, h5, h6⟩ := Option.map_eq_some_iff.1 h2
  refine wpList_app1 hs hgd s x t hop w.heap.size e i zv bytes ht h1 h5 h3 h4 (by rw [h6, hz]) v l hv (ho.own hs K) y cs hcs H hH hx hlen hbb K.1.size ?_
  intro v' w' ho' hk hf _
  obtain ⟨X', hX, K'⟩ := ho.of hs K ho' hk hf
  exact h v' X' w' hX K'
end
end Go.Proofs.Ytinfcngkbdiddaa
