/- Laws and walks; conditions stand in each theorem. -/
import Derived.Test.YtdlcglndhhndpaaGreatL08
set_option linter.unusedSimpArgs false
set_option linter.unusedVariables false
namespace Go.Proofs.YtdlcglndhhndpaaGreat
open Go.RowKit
theorem ZL68 {p : Prop} (h : p := by
 first
  | (unfold sw
     by_cases e1 : i = a
     · rw [if_pos e1]
       by_cases e2 : b = a
       · rw [if_pos e2, e2, e1]
       · rw [if_neg e2, if_pos rfl, e1]
     · rw [if_neg e1]
       by_cases e2 : i = b
       · rw [if_pos e2, if_pos rfl, e2]
       · rw [if_neg e2, if_neg e1, if_neg e2])
  | fail) : p := h
theorem ZL90 {p : Prop} (h : p := by
 first
  | (have hB := h.blk hb
     exact ⟨hB.cell (rwA_get (j := 0) hk (by omega)), hB.cell (rwA_get (j := 1) hk (by omega)), hB.cell (rwA_get (j := 2) hk (by omega)), hB.cell (rwA_get (j := 3) hk (by omega))⟩)
  | fail) : p := h
def recA {α : Type} (enc : α → List Value) (n : Nat) (v : Nat → α) (J : List Value) : Array Value := ((ofF n v).flatMap enc ++ J).toArray
section
variable {α : Type} {sz : Nat} {enc : α → List Value} {n i j : Nat} {v f g : Nat → α} {J : List Value}
theorem recA_len (hs : Sized sz enc) : ((ofF n v).flatMap enc).length = n * sz := by rw [flatMap_len hs, ofF_len]
theorem recA_size (hs : Sized sz enc) : (recA enc n v J).size = n * sz + J.length := by
 unfold recA
 simp only [List.size_toArray, List.length_append]
 rw [recA_len hs]
theorem mul_step {i n sz : Nat} (h : i < n) : i * sz + sz ≤ n * sz := by
 have := Nat.mul_le_mul_right sz (show i + 1 ≤ n from h)
 rw [Nat.add_mul] at this
 omega
theorem recA_get (hs : Sized sz enc) (hi : i < n) (hj : j < sz) : (recA enc n v J)[i * sz + j]? = (enc (v i))[j]? := by
 unfold recA
 have h1 := mul_step (sz := sz) hi
 rw [List.getElem?_toArray, List.getElem?_append_left (by rw [recA_len hs]; omega), flatMap_get hs _ _ _ hj, ofF_get hi]
 rfl
theorem recA_hi (hs : Sized sz enc) (h : n * sz ≤ i) : (recA enc n v J)[i]? = J[i - n * sz]? := by
 unfold recA
 rw [List.getElem?_toArray, List.getElem?_append_right (by rw [recA_len hs]; exact h), recA_len hs]
theorem recA_spl (hs : Sized sz enc) (hi : i < n) (x : α) : spl (recA enc n v J) (i * sz) (enc x) = recA enc n (putF v i x) J := by
 apply Array.ext_getElem?
 intro q
 have hsz := recA_size (n := n) (v := v) (J := J) hs
 have hl : (enc x).length = sz := (hs.2 x).1
 have hp := hs.1
 have hin := mul_step (sz := sz) hi
 rw [spl_get _ _ _ _ (by rw [hsz, hl]; omega), hl]
 by_cases hq : q < n * sz
 · obtain ⟨k, j, rfl, hj⟩ : ∃ k j, q = k * sz + j ∧ j < sz := ⟨q / sz, q % sz, (by rw [Nat.mul_comm]; exact (Nat.div_add_mod q sz).symm), Nat.mod_lt _ hp⟩
   have hk : k < n := by
    apply Nat.lt_of_not_le
    intro h
    have := Nat.mul_le_mul_right sz h
    omega
   rw [recA_get hs hk hj, recA_get hs hk hj]
   by_cases e : k = i
   · subst e
     rw [if_pos (by omega), putF_same]
     congr 1
     omega
   · rw [putF_other e, if_neg]
     rcases Nat.lt_or_gt_of_ne e with h | h
     · have := mul_step (sz := sz) h
       omega
     · have := mul_step (sz := sz) h
       omega
 · rw [if_neg (by omega), recA_hi hs (by omega), recA_hi hs (by omega)]
end
structure Hd where
 A : Option Addr
 n : Nat
 c : Nat
def Hd.cs (x : Hd) : List Value := [.slice x.A x.n x.c]
theorem hd_sized : Sized 1 Hd.cs := ⟨by omega, fun x => ⟨rfl, by intro u hu; simp [Hd.cs] at hu; subst hu; rfl⟩⟩
section
variable {w W W' : World} {L L' : List Blk} {D : List Hl}
theorem hdA_get {n i : Nat} {h : Nat → Hd} {J : List Value} (hi : i < n) : (recA Hd.cs n h J)[i]? = some (.slice (h i).A (h i).n (h i).c) := by
 have := recA_get (J := J) (v := h) hd_sized hi (show 0 < 1 by omega)
 rw [Nat.mul_one, Nat.add_zero] at this
 exact this
theorem hdA_set {n i : Nat} {h : Nat → Hd} {J : List Value} (hi : i < n) (x : Hd) : (recA Hd.cs n h J).setIfInBounds i (.slice x.A x.n x.c) = recA Hd.cs n (putF h i x) J := by
 have := recA_spl (J := J) (v := h) hd_sized hi x
 rw [Nat.mul_one] at this
 exact this
def famP {ι : Type} (I : ι → Prop) (P : ι → World → Prop) (S : ι → Nat → Prop) : World → Prop := fun W => ∀ i, I i → P i W ∧ ∀ W' : World, W.heap.size ≤ W'.heap.size → (∀ b, S i b → W'.heap[b]? = W.heap[b]?) → P i W'
def famS {ι : Type} (I : ι → Prop) (S : ι → Nat → Prop) : Nat → Prop := fun b => ∃ i, I i ∧ S i b
theorem St.fam {ι : Type} {I : ι → Prop} {P : ι → World → Prop} {S : ι → Nat → Prop} (h : St w L D W) (hx : ∀ i, I i → (⟨P i, S i⟩ : Hl).ok L W) : St w L (⟨famP I P S, famS I S⟩ :: D) W :=
 h.add ⟨fun i hi => ⟨(hx i hi).1, (hx i hi).2.2⟩, fun b ⟨i, hi, hS⟩ => (hx i hi).2.1 b hS, fun W' h1 h2 i hi => ⟨(hx i hi).2.2 W' h1 (fun b hS => h2 b ⟨i, hi, hS⟩), fun W'' h3 h4 => (hx i hi).2.2 W'' (Nat.le_trans h1 h3) (fun b hS => (h4 b hS).trans (h2 b ⟨i, hi, hS⟩))⟩⟩
theorem St.famAt {ι : Type} {I : ι → Prop} {P : ι → World → Prop} {S : ι → Nat → Prop} (h : St w L D W) (hm : (⟨famP I P S, famS I S⟩ : Hl) ∈ D) {i : ι} (hi : I i) : (⟨P i, S i⟩ : Hl).ok L W :=
 have k := h.2.2.2 _ hm
 ⟨(k.1 i hi).1, fun b hS => k.2.1 b ⟨i, hi, hS⟩, (k.1 i hi).2⟩
theorem St.okAt (h : St w L D W) {x : Hl} (hm : x ∈ D) : x.ok L W := h.2.2.2 _ hm
theorem Hl.ok.and {P Q : World → Prop} {S T : Nat → Prop} (h : (⟨P, S⟩ : Hl).ok L W) (h' : (⟨Q, T⟩ : Hl).ok L W) : (⟨fun W => P W ∧ Q W, fun b => S b ∨ T b⟩ : Hl).ok L W :=
 ⟨⟨h.1, h'.1⟩, (fun b hS => by
  rcases hS with hS | hS
  · exact h.2.1 b hS
  · exact h'.2.1 b hS), fun W' h1 h2 => ⟨h.2.2 W' h1 (fun b hS => h2 b (Or.inl hS)), h'.2.2 W' h1 (fun b hS => h2 b (Or.inr hS))⟩⟩
theorem St.okR (h : St w L D W) {x : Rw} (m2 : (⟨rdP x.A x.n x.c x.l, rdS x.A x.n⟩ : Hl) ∈ D) (m3 : (⟨rdP x.B x.m x.d x.k, rdS x.B x.m⟩ : Hl) ∈ D) : (⟨x.on, x.S⟩ : Hl).ok L W := (h.okAt m2).and (h.okAt m3)
theorem Upd.app {b : Nat} {cs cs' : Array Value} {t : TypeId} (h : Upd b cs t cs' L L') (X : List Blk) : Upd b cs t cs' (L ++ X) (L' ++ X) := by
 induction h with
 | head L => exact Upd.head _
 | tail x h ih => exact Upd.tail x ih
theorem Upd.pre {b : Nat} {cs cs' : Array Value} {t : TypeId} (h : Upd b cs t cs' L L') : ∀ X : List Blk, Upd b cs t cs' (X ++ L) (X ++ L')
 | [] => h
 | x :: X => Upd.tail x (h.pre X)
theorem Upd.ofF {b : Nat} {cs cs' : Array Value} {t : TypeId} (F : Nat → Blk) (r : Nat) (hF : F r = (b, cs, t)) : ∀ n : Nat, r < n → Upd b cs t cs' (ofF n F) (ofF n (putF F r (b, cs', t)))
 | n + 1, h => by
  rw [ofF_succ, ofF_succ]
  by_cases e : r = n
  · subst e
    rw [ofF_congr (f := putF F r (b, cs', t)) (g := F) (fun i hi => putF_other (by omega)), putF_same, hF]
    exact (Upd.head []).pre _
  · rw [putF_other (fun e' => e e'.symm)]
    exact (Upd.ofF F r hF n (by omega)).app _
theorem ofF_in {α : Type} {n i : Nat} {f : Nat → α} (h : i < n) : f i ∈ ofF n f := List.mem_of_getElem? (ofF_get h)
end
theorem St.lessS {w W : World} {L : List Blk} {D D' : List Hl} (h : St w L D W) (hs : D'.Sublist D) : St w L D' W := h.less fun x hx => hs.subset hx
def sw (a b i : Nat) : Nat := if i = a then b else if i = b then a else i
theorem sw_lt {a b i n : Nat} (ha : a < n) (hb : b < n) (hi : i < n) : sw a b i < n := by
 unfold sw
 split
 · exact hb
 · split
   · exact ha
   · exact hi
theorem sw_inj {a b i j : Nat} (h : sw a b i = sw a b j) : i = j := by
 unfold sw at h
 have h1 := h
 by_cases e1 : i = a <;> by_cases e2 : i = b <;> by_cases e3 : j = a <;> by_cases e4 : j = b <;> simp only [e1, e2, e3, e4, if_true, if_false] at h1 <;> (try split at h1) <;> (try split at h1) <;> omega
theorem sw_sw (a b i : Nat) : sw a b (sw a b i) = i := by
 exact ZL68
theorem sw_left (a b : Nat) : sw a b a = b := if_pos rfl
theorem sw_right (a b : Nat) : sw a b b = a := by
 unfold sw
 by_cases e : b = a
 · rw [if_pos e, e]
 · rw [if_neg e, if_pos rfl]
theorem sw_other {a b i : Nat} (h1 : i ≠ a) (h2 : i ≠ b) : sw a b i = i := by
 unfold sw
 rw [if_neg h1, if_neg h2]
theorem ofF_sw {α : Type} {n a b : Nat} (ha : a < n) (hb : b < n) (F : Nat → α) : (ofF n fun i => F (sw a b i)).Perm (ofF n F) := by
 have h1 : ((List.range n).map (sw a b)).Nodup := List.pairwise_map.2 (List.Pairwise.imp (fun h e => h (sw_inj e)) List.nodup_range)
 have h2 : ((List.range n).map (sw a b)).Perm (List.range n) := (List.perm_ext_iff_of_nodup h1 List.nodup_range).2 fun x => by
  rw [List.mem_map, List.mem_range]
  constructor
  · rintro ⟨i, hi, rfl⟩
    exact sw_lt ha hb (List.mem_range.1 hi)
  · intro hx
    exact ⟨sw a b x, List.mem_range.2 (sw_lt ha hb hx), sw_sw a b x⟩
 have h3 : (ofF n fun i => F (sw a b i)) = ((List.range n).map (sw a b)).map F := by unfold Proofs.YtdlcglndhhndpaaGreat.ofF; rw [List.map_map]; rfl
 rw [h3]
 exact h2.map F
structure Mm where
 N : Nat
 rb : Nat → Nat
 cp : Nat → Nat
 J : Nat → List Value
 V : Nat → Nat → Rw
namespace Mm
def blk (M : Mm) (n i : Nat) : Blk := (M.rb i, rwA M.N (M.V i) (M.J i), 50)
def rows (M : Mm) (n : Nat) : List Blk := ofF n (M.blk n)
def hd (M : Mm) (n i : Nat) : Hd := ⟨some ⟨M.rb i, 0, none⟩, M.N, M.cp i⟩
def fam (M : Mm) (n : Nat) : Hl := ⟨famP (fun p : Nat × Nat => p.1 < n ∧ p.2 < M.N) (fun p => (M.V p.1 p.2).on) (fun p => (M.V p.1 p.2).S), famS (fun p : Nat × Nat => p.1 < n ∧ p.2 < M.N) (fun p => (M.V p.1 p.2).S)⟩
def put (M : Mm) (r k : Nat) (x : Rw) : Mm := { M with V := putF M.V r (putF (M.V r) k x) }
def swp (M : Mm) (a b : Nat) : Mm := ⟨M.N, fun i => M.rb (sw a b i), fun i => M.cp (sw a b i), fun i => M.J (sw a b i), fun i => M.V (sw a b i)⟩
theorem put_at (M : Mm) (r k : Nat) (x : Rw) : (M.put r k x).V r k = x := by
 show putF M.V r (putF (M.V r) k x) r k = x
 rw [putF_same, putF_same]
theorem put_ne (M : Mm) {r k i j : Nat} (x : Rw) (h : ¬ (i = r ∧ j = k)) : (M.put r k x).V i j = M.V i j := by
 show putF M.V r (putF (M.V r) k x) i j = _
 by_cases e : i = r
 · subst e
   rw [putF_same, putF_other (fun e => h ⟨rfl, e⟩)]
 · rw [putF_other e]
end Mm
section
variable {w W W' : World} {L L' L0 : List Blk} {D : List Hl} {M : Mm} {n r k : Nat}
theorem Mm.upd (hr : r < n) (x : Rw) : Upd (M.rb r) (rwA M.N (M.V r) (M.J r)) 50 (rwA M.N (putF (M.V r) k x) (M.J r)) (M.rows n ++ L0) ((M.put r k x).rows n ++ L0) := by
 have h := (Upd.ofF (cs' := rwA M.N (putF (M.V r) k x) (M.J r)) (M.blk n) r rfl n hr).app L0
 have e : Proofs.YtdlcglndhhndpaaGreat.ofF n (putF (M.blk n) r (M.rb r, rwA M.N (putF (M.V r) k x) (M.J r), 50)) = (M.put r k x).rows n := by
  refine ofF_congr fun i hi => ?_
  show _ = (M.rb i, rwA M.N (putF M.V r (putF (M.V r) k x) i) (M.J i), 50)
  by_cases e : i = r
  · subst e
    rw [putF_same, putF_same]
  · rw [putF_other e, putF_other e]
    rfl
 rw [e] at h
 exact h
theorem Mm.mem (hr : r < n) : ((M.rb r, rwA M.N (M.V r) (M.J r), 50) : Blk) ∈ M.rows n ++ L0 := List.mem_append_left _ (ofF_in (f := M.blk n) hr)
theorem St.famPut (K : St w L D W) (hm : M.fam n ∈ D) (x : Rw) (m2 : (⟨rdP x.A x.n x.c x.l, rdS x.A x.n⟩ : Hl) ∈ D) (m3 : (⟨rdP x.B x.m x.d x.k, rdS x.B x.m⟩ : Hl) ∈ D) (r k : Nat) : St w L ((M.put r k x).fam n :: D) W := by
 refine K.fam fun p hp => ?_
 by_cases e : p.1 = r ∧ p.2 = k
 · rw [e.1, e.2, Mm.put_at]
   exact K.okR m2 m3
 · rw [Mm.put_ne M x e]
   exact K.famAt hm hp
theorem St.famOn (K : St w L D W) (hm : M.fam n ∈ D) {i j : Nat} (hi : i < n) (hj : j < M.N) : rdP (M.V i j).A (M.V i j).n (M.V i j).c (M.V i j).l W ∧ rdP (M.V i j).B (M.V i j).m (M.V i j).d (M.V i j).k W := (K.famAt (i := (i, j)) hm ⟨hi, hj⟩).1
theorem rdP_keep {A : Option Addr} {n c : Nat} {l : List Int} (h : rdP A n c l W) (hs : W.heap.size ≤ W'.heap.size) (hb : ∀ b, rdS A n b → W'.heap[b]? = W.heap[b]?) : rdP A n c l W' := by
 refine ⟨h.1, h.2.1, h.2.2.1, fun hn => ?_⟩
 obtain ⟨b', off, e, hlt, hc⟩ := h.2.2.2 hn
 refine ⟨b', off, e, Nat.lt_of_lt_of_le hlt hs, fun k hk => ?_⟩
 obtain ⟨cs, hr, hlen, hj⟩ := hc k hk
 exact ⟨cs, hr, hlen, fun j u hu => (cell_of (p := ⟨b', off + k * 1 + j, none⟩) (hb b' ⟨hn, _, e, rfl⟩)).trans (hj j u hu)⟩
theorem St.famRd (K : St w L D W) (hm : M.fam n ∈ D) {i j : Nat} (hi : i < n) (hj : j < M.N) : St w L (⟨rdP (M.V i j).B (M.V i j).m (M.V i j).d (M.V i j).k, rdS (M.V i j).B (M.V i j).m⟩ :: ⟨rdP (M.V i j).A (M.V i j).n (M.V i j).c (M.V i j).l, rdS (M.V i j).A (M.V i j).n⟩ :: D) W := by
 have h := K.famAt (i := (i, j)) hm ⟨hi, hj⟩
 have h1 : (⟨rdP (M.V i j).A (M.V i j).n (M.V i j).c (M.V i j).l, rdS (M.V i j).A (M.V i j).n⟩ : Hl).ok L W := ⟨h.1.1, fun b hS => h.2.1 b (Or.inl hS), fun W' g1 g2 => rdP_keep h.1.1 g1 g2⟩
 have h2 : (⟨rdP (M.V i j).B (M.V i j).m (M.V i j).d (M.V i j).k, rdS (M.V i j).B (M.V i j).m⟩ : Hl).ok L W := ⟨h.1.2, fun b hS => h.2.1 b (Or.inr hS), fun W' g1 g2 => rdP_keep h.1.2 g1 g2⟩
 exact (K.add h1).add h2
theorem St.famSwp (K : St w L D W) (hm : M.fam n ∈ D) {a b : Nat} (ha : a < n) (hb : b < n) : St w L ((M.swp a b).fam n :: D) W :=
 K.fam fun p hp => K.famAt (i := (sw a b p.1, p.2)) hm ⟨sw_lt ha hb hp.1, hp.2⟩
theorem Mm.swp_rows {a b : Nat} (ha : a < n) (hb : b < n) : ((M.swp a b).rows n).Perm (M.rows n) := ofF_sw ha hb (M.blk n)
theorem Mm.swp_hd {a b : Nat} : putF (putF (M.hd n) a (M.hd n b)) b (M.hd n a) = (M.swp a b).hd n := by
 funext i
 show _ = M.hd n (sw a b i)
 by_cases e1 : i = b
 · subst e1
   rw [putF_same, sw_right]
 · rw [putF_other e1]
   by_cases e2 : i = a
   · subst e2
     rw [putF_same, sw_left]
   · rw [putF_other e2, sw_other e2 e1]
theorem St.cellM (h : St w L D W) (hi : r < n) (hk : k < M.N) (hb : ((M.rb r, rwA M.N (M.V r) (M.J r), 50) : Blk) ∈ L) : W.cell? ⟨M.rb r, k * 4, none⟩ = some (.int .i64 (M.V r k).s) ∧ W.cell? ⟨M.rb r, k * 4 + 1, none⟩ = some (.slice (M.V r k).A (M.V r k).n (M.V r k).c) ∧ W.cell? ⟨M.rb r, k * 4 + 2, none⟩ = some (.int .i64 (M.V r k).t) ∧ W.cell? ⟨M.rb r, k * 4 + 3, none⟩ = some (.slice (M.V r k).B (M.V r k).m (M.V r k).d) := by
 exact ZL90
end
end Go.Proofs.YtdlcglndhhndpaaGreat
