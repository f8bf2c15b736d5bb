/- Laws and walks; conditions stand in each theorem. -/
import Derived.Outline
import Derived.Test.YtdlcglndhhndpaaGreatP08
import Derived.Test.YtdlcglndhhndpaaGreatP07
set_option linter.unusedSimpArgs false
set_option linter.unusedVariables false
namespace Go.Proofs.YtdlcglndhhndpaaGreat
open Go.RowKit
def recA {α : Type} (enc : α → List Value) (n : Nat) (v : Nat → α) (J : List Value) : Array Value := ((ofF n v).flatMap enc ++ J).toArray
section
variable {α : Type} {sz : Nat} {enc : α → List Value} {n i j : Nat} {v f g : Nat → α} {J : List Value}
theorem recA_len (hs : Sized sz enc) : ((ofF n v).flatMap enc).length = n * sz := by rw [flatMap_len hs, ofF_len]
theorem recA_size (hs : Sized sz enc) : (recA enc n v J).size = n * sz + J.length := by
 unfold recA
 simp only [List.size_toArray, List.length_append]
 rw [recA_len hs]
theorem mul_step {i n sz : Nat} (h : i < n) : i * sz + sz ≤ n * sz := by
 have := Nat.mul_le_mul_right sz (show i + 1 ≤ n from h)
 rw [Nat.add_mul] at this
 omega
theorem recA_get (hs : Sized sz enc) (hi : i < n) (hj : j < sz) : (recA enc n v J)[i * sz + j]? = (enc (v i))[j]? := by
 unfold recA
 have h1 := mul_step (sz := sz) hi
 rw [List.getElem?_toArray, List.getElem?_append_left (by rw [recA_len hs]; omega), flatMap_get hs _ _ _ hj, ofF_get hi]
 rfl
theorem recA_hi (hs : Sized sz enc) (h : n * sz ≤ i) : (recA enc n v J)[i]? = J[i - n * sz]? := by
 unfold recA
 rw [List.getElem?_toArray, List.getElem?_append_right (by rw [recA_len hs]; exact h), recA_len hs]
theorem recA_spl (hs : Sized sz enc) (hi : i < n) (x : α) : spl (recA enc n v J) (i * sz) (enc x) = recA enc n (putF v i x) J := by
 apply Array.ext_getElem?
 intro q
 have hsz := recA_size (n := n) (v := v) (J := J) hs
 have hl : (enc x).length = sz := (hs.2 x).1
 have hp := hs.1
 have hin := mul_step (sz := sz) hi
 rw [spl_get _ _ _ _ (by rw [hsz, hl]; omega), hl]
 by_cases hq : q < n * sz
 · obtain ⟨k, j, rfl, hj⟩ : ∃ k j, q = k * sz + j ∧ j < sz := ⟨q / sz, q % sz, (by rw [Nat.mul_comm]; exact (Nat.div_add_mod q sz).symm), Nat.mod_lt _ hp⟩
   have hk : k < n := by
    apply Nat.lt_of_not_le
    intro h
    have := Nat.mul_le_mul_right sz h
    omega
   rw [recA_get hs hk hj, recA_get hs hk hj]
   by_cases e : k = i
   · subst e
     rw [if_pos (by omega), putF_same]
     congr 1
     omega
   · rw [putF_other e, if_neg]
     rcases Nat.lt_or_gt_of_ne e with h | h
     · have := mul_step (sz := sz) h
       omega
     · have := mul_step (sz := sz) h
       omega
 · rw [if_neg (by omega), recA_hi hs (by omega), recA_hi hs (by omega)]
theorem recA_congr (h : ∀ i, i < n → f i = g i) : recA enc n f J = recA enc n g J := by
 unfold recA
 rw [ofF_congr h]
end
structure Hd where
 A : Option Addr
 n : Nat
 c : Nat
def Hd.cs (x : Hd) : List Value := [.slice x.A x.n x.c]
theorem hd_sized : Sized 1 Hd.cs := ⟨by omega, fun x => ⟨rfl, by intro u hu; simp [Hd.cs] at hu; subst hu; rfl⟩⟩
section
variable {w W W' : World} {L L' : List Blk} {D : List Hl}
theorem hdA_get {n i : Nat} {h : Nat → Hd} {J : List Value} (hi : i < n) : (recA Hd.cs n h J)[i]? = some (.slice (h i).A (h i).n (h i).c) := by
 have := recA_get (J := J) (v := h) hd_sized hi (show 0 < 1 by omega)
 rw [Nat.mul_one, Nat.add_zero] at this
 exact this
def famP {ι : Type} (I : ι → Prop) (P : ι → World → Prop) (S : ι → Nat → Prop) : World → Prop := fun W => ∀ i, I i → P i W ∧ ∀ W' : World, W.heap.size ≤ W'.heap.size → (∀ b, S i b → W'.heap[b]? = W.heap[b]?) → P i W'
def famS {ι : Type} (I : ι → Prop) (S : ι → Nat → Prop) : Nat → Prop := fun b => ∃ i, I i ∧ S i b
theorem St.fam {ι : Type} {I : ι → Prop} {P : ι → World → Prop} {S : ι → Nat → Prop} (h : St w L D W) (hx : ∀ i, I i → (⟨P i, S i⟩ : Hl).ok L W) : St w L (⟨famP I P S, famS I S⟩ :: D) W :=
 h.add ⟨fun i hi => ⟨(hx i hi).1, (hx i hi).2.2⟩, fun b ⟨i, hi, hS⟩ => (hx i hi).2.1 b hS, fun W' h1 h2 i hi => ⟨(hx i hi).2.2 W' h1 (fun b hS => h2 b ⟨i, hi, hS⟩), fun W'' h3 h4 => (hx i hi).2.2 W'' (Nat.le_trans h1 h3) (fun b hS => (h4 b hS).trans (h2 b ⟨i, hi, hS⟩))⟩⟩
theorem St.famAt {ι : Type} {I : ι → Prop} {P : ι → World → Prop} {S : ι → Nat → Prop} (h : St w L D W) (hm : (⟨famP I P S, famS I S⟩ : Hl) ∈ D) {i : ι} (hi : I i) : (⟨P i, S i⟩ : Hl).ok L W :=
 have k := h.2.2.2 _ hm
 ⟨(k.1 i hi).1, fun b hS => k.2.1 b ⟨i, hi, hS⟩, (k.1 i hi).2⟩
theorem St.okAt (h : St w L D W) {x : Hl} (hm : x ∈ D) : x.ok L W := h.2.2.2 _ hm
theorem Hl.ok.and {P Q : World → Prop} {S T : Nat → Prop} (h : (⟨P, S⟩ : Hl).ok L W) (h' : (⟨Q, T⟩ : Hl).ok L W) : (⟨fun W => P W ∧ Q W, fun b => S b ∨ T b⟩ : Hl).ok L W :=
 ⟨⟨h.1, h'.1⟩, (fun b hS => by
  rcases hS with hS | hS
  · exact h.2.1 b hS
  · exact h'.2.1 b hS), fun W' h1 h2 => ⟨h.2.2 W' h1 (fun b hS => h2 b (Or.inl hS)), h'.2.2 W' h1 (fun b hS => h2 b (Or.inr hS))⟩⟩
theorem St.okR (h : St w L D W) {x : Rw} (m2 : (⟨rdP x.A x.n x.c x.l, rdS x.A x.n⟩ : Hl) ∈ D) (m3 : (⟨rdP x.B x.m x.d x.k, rdS x.B x.m⟩ : Hl) ∈ D) : (⟨x.on, x.S⟩ : Hl).ok L W := (h.okAt m2).and (h.okAt m3)
theorem Upd.app {b : Nat} {cs cs' : Array Value} {t : TypeId} (h : Upd b cs t cs' L L') (X : List Blk) : Upd b cs t cs' (L ++ X) (L' ++ X) := by
 induction h with
 | head L => exact Upd.head _
 | tail x h ih => exact Upd.tail x ih
theorem Upd.pre {b : Nat} {cs cs' : Array Value} {t : TypeId} (h : Upd b cs t cs' L L') : ∀ X : List Blk, Upd b cs t cs' (X ++ L) (X ++ L')
 | [] => h
 | x :: X => Upd.tail x (h.pre X)
theorem Upd.ofF {b : Nat} {cs cs' : Array Value} {t : TypeId} (F : Nat → Blk) (r : Nat) (hF : F r = (b, cs, t)) : ∀ n : Nat, r < n → Upd b cs t cs' (ofF n F) (ofF n (putF F r (b, cs', t)))
 | n + 1, h => by
  rw [ofF_succ, ofF_succ]
  by_cases e : r = n
  · subst e
    rw [ofF_congr (f := putF F r (b, cs', t)) (g := F) (fun i hi => putF_other (by omega)), putF_same, hF]
    exact (Upd.head []).pre _
  · rw [putF_other (fun e' => e e'.symm)]
    exact (Upd.ofF F r hF n (by omega)).app _
theorem ofF_in {α : Type} {n i : Nat} {f : Nat → α} (h : i < n) : f i ∈ ofF n f := List.mem_of_getElem? (ofF_get h)
end
theorem St.lessS {w W : World} {L : List Blk} {D D' : List Hl} (h : St w L D W) (hs : D'.Sublist D) : St w L D' W := h.less fun x hx => hs.subset hx
def sw (a b i : Nat) : Nat := if i = a then b else if i = b then a else i
theorem sw_lt {a b i n : Nat} (ha : a < n) (hb : b < n) (hi : i < n) : sw a b i < n := by
 unfold sw
 split
 · exact hb
 · split
   · exact ha
   · exact hi
structure Mm where
 N : Nat
 rb : Nat → Nat
 cp : Nat → Nat
 J : Nat → List Value
 V : Nat → Nat → Rw
namespace Mm
def blk (M : Mm) (n i : Nat) : Blk := (M.rb i, rwA M.N (M.V i) (M.J i), 50)
def rows (M : Mm) (n : Nat) : List Blk := ofF n (M.blk n)
def hd (M : Mm) (n i : Nat) : Hd := ⟨some ⟨M.rb i, 0, none⟩, M.N, M.cp i⟩
def fam (M : Mm) (n : Nat) : Hl := ⟨famP (fun p : Nat × Nat => p.1 < n ∧ p.2 < M.N) (fun p => (M.V p.1 p.2).on) (fun p => (M.V p.1 p.2).S), famS (fun p : Nat × Nat => p.1 < n ∧ p.2 < M.N) (fun p => (M.V p.1 p.2).S)⟩
def put (M : Mm) (r k : Nat) (x : Rw) : Mm := { M with V := putF M.V r (putF (M.V r) k x) }
theorem put_at (M : Mm) (r k : Nat) (x : Rw) : (M.put r k x).V r k = x := by
 show putF M.V r (putF (M.V r) k x) r k = x
 rw [putF_same, putF_same]
theorem put_ne (M : Mm) {r k i j : Nat} (x : Rw) (h : ¬ (i = r ∧ j = k)) : (M.put r k x).V i j = M.V i j := by
 show putF M.V r (putF (M.V r) k x) i j = _
 by_cases e : i = r
 · subst e
   rw [putF_same, putF_other (fun e => h ⟨rfl, e⟩)]
 · rw [putF_other e]
end Mm
section
variable {w W W' : World} {L L' L0 : List Blk} {D : List Hl} {M : Mm} {n r k : Nat}
theorem Mm.upd (hr : r < n) (x : Rw) : Upd (M.rb r) (rwA M.N (M.V r) (M.J r)) 50 (rwA M.N (putF (M.V r) k x) (M.J r)) (M.rows n ++ L0) ((M.put r k x).rows n ++ L0) := by
 have h := (Upd.ofF (cs' := rwA M.N (putF (M.V r) k x) (M.J r)) (M.blk n) r rfl n hr).app L0
 have e : Proofs.YtdlcglndhhndpaaGreat.ofF n (putF (M.blk n) r (M.rb r, rwA M.N (putF (M.V r) k x) (M.J r), 50)) = (M.put r k x).rows n := by
  refine ofF_congr fun i hi => ?_
  show _ = (M.rb i, rwA M.N (putF M.V r (putF (M.V r) k x) i) (M.J i), 50)
  by_cases e : i = r
  · subst e
    rw [putF_same, putF_same]
  · rw [putF_other e, putF_other e]
    rfl
 rw [e] at h
 exact h
theorem Mm.mem (hr : r < n) : ((M.rb r, rwA M.N (M.V r) (M.J r), 50) : Blk) ∈ M.rows n ++ L0 := List.mem_append_left _ (ofF_in (f := M.blk n) hr)
theorem St.famPut (K : St w L D W) (hm : M.fam n ∈ D) (x : Rw) (m2 : (⟨rdP x.A x.n x.c x.l, rdS x.A x.n⟩ : Hl) ∈ D) (m3 : (⟨rdP x.B x.m x.d x.k, rdS x.B x.m⟩ : Hl) ∈ D) (r k : Nat) : St w L ((M.put r k x).fam n :: D) W := by
 refine K.fam fun p hp => ?_
 by_cases e : p.1 = r ∧ p.2 = k
 · rw [e.1, e.2, Mm.put_at]
   exact K.okR m2 m3
 · rw [Mm.put_ne M x e]
   exact K.famAt hm hp
theorem St.famOn (K : St w L D W) (hm : M.fam n ∈ D) {i j : Nat} (hi : i < n) (hj : j < M.N) : rdP (M.V i j).A (M.V i j).n (M.V i j).c (M.V i j).l W ∧ rdP (M.V i j).B (M.V i j).m (M.V i j).d (M.V i j).k W := (K.famAt (i := (i, j)) hm ⟨hi, hj⟩).1
theorem rdP_keep {A : Option Addr} {n c : Nat} {l : List Int} (h : rdP A n c l W) (hs : W.heap.size ≤ W'.heap.size) (hb : ∀ b, rdS A n b → W'.heap[b]? = W.heap[b]?) : rdP A n c l W' := by
 refine ⟨h.1, h.2.1, h.2.2.1, fun hn => ?_⟩
 obtain ⟨b', off, e, hlt, hc⟩ := h.2.2.2 hn
 refine ⟨b', off, e, Nat.lt_of_lt_of_le hlt hs, fun k hk => ?_⟩
 obtain ⟨cs, hr, hlen, hj⟩ := hc k hk
 exact ⟨cs, hr, hlen, fun j u hu => (cell_of (p := ⟨b', off + k * 1 + j, none⟩) (hb b' ⟨hn, _, e, rfl⟩)).trans (hj j u hu)⟩
theorem St.famRd (K : St w L D W) (hm : M.fam n ∈ D) {i j : Nat} (hi : i < n) (hj : j < M.N) : St w L (⟨rdP (M.V i j).B (M.V i j).m (M.V i j).d (M.V i j).k, rdS (M.V i j).B (M.V i j).m⟩ :: ⟨rdP (M.V i j).A (M.V i j).n (M.V i j).c (M.V i j).l, rdS (M.V i j).A (M.V i j).n⟩ :: D) W := by
 have h := K.famAt (i := (i, j)) hm ⟨hi, hj⟩
 have h1 : (⟨rdP (M.V i j).A (M.V i j).n (M.V i j).c (M.V i j).l, rdS (M.V i j).A (M.V i j).n⟩ : Hl).ok L W := ⟨h.1.1, fun b hS => h.2.1 b (Or.inl hS), fun W' g1 g2 => rdP_keep h.1.1 g1 g2⟩
 have h2 : (⟨rdP (M.V i j).B (M.V i j).m (M.V i j).d (M.V i j).k, rdS (M.V i j).B (M.V i j).m⟩ : Hl).ok L W := ⟨h.1.2, fun b hS => h.2.1 b (Or.inr hS), fun W' g1 g2 => rdP_keep h.1.2 g1 g2⟩
 exact (K.add h1).add h2
end
structure Rv where
 a : List Fv
 b : Fv
def rE : Enc Rv := fun w B x cs => ∃ A n c cs', cs = .slice A n c :: cs' ∧ RdF w B A n c x.a ∧ fE w B x.b cs'
theorem rE_lasts : Lasts rE := fun w w' B B' x cs ⟨A, n, c, cs', h, h1, h2⟩ hB hk => ⟨A, n, c, cs', h, h1.keep fE_lasts hB hk, fE_lasts _ _ _ _ _ _ h2 hB hk⟩
abbrev RdR := Rd 5 rE
theorem Rd.atR {w : World} {B : Nat} {A : Option Addr} {n cap : Nat} {l : List Rv} (h : RdR w B A n cap l) {k : Nat} (hk : k < n) :
 ∃ b off A0 n0 c0 A1 n1 c1 A2 n2 c2 x, A = some ⟨b, off, none⟩ ∧ b < B ∧ l[k]? = some x ∧ (w.cell? ⟨b, off + k * 5, none⟩ = some (.slice A0 n0 c0) ∧ w.cell? ⟨b, off + k * 5 + 1, none⟩ = some (.int .i64 x.b.s) ∧ w.cell? ⟨b, off + k * 5 + 2, none⟩ = some (.slice A1 n1 c1) ∧ w.cell? ⟨b, off + k * 5 + 3, none⟩ = some (.int .i64 x.b.t) ∧ w.cell? ⟨b, off + k * 5 + 4, none⟩ = some (.slice A2 n2 c2)) ∧ RdF w B A0 n0 c0 x.a ∧ RdI w B A1 n1 c1 x.b.l ∧ RdI w B A2 n2 c2 x.b.m := by
 obtain ⟨b, off, rfl, hb, hc⟩ := h.2.2.2 (by omega)
 have hl := h.1
 obtain ⟨cs, ⟨A0, n0, c0, cs', rfl, h0, A1, n1, c1, A2, n2, c2, rfl, h1, h2⟩, _, hj⟩ := hc k (by omega)
 exact ⟨b, off, A0, n0, c0, A1, n1, c1, A2, n2, c2, l[k], rfl, hb, List.getElem?_eq_getElem (by omega), ⟨by simpa using hj 0 _ rfl, by simpa using hj 1 _ rfl, by simpa using hj 2 _ rfl, by simpa using hj 3 _ rfl, by simpa using hj 4 _ rfl⟩, h0, h1, h2⟩
def IdxF (w : World) (b : Bool) (e : Ending) (w' : World) : Prop := ∃ i : Int, e = .returned (.int .i64 i) ∧ -1 ≤ i ∧ i ≤ 140737488351232 ∧ decide (0 ≤ i) = !b ∧ Below w.heap.size w w'
def rowF (N : Int) (x : Rv) : Bool := (decide ((x.a.length : Int) = N) && x.b.ok) && x.a.all Fv.ok
def rightL (N : Int) (l : List Rv) : Bool := decide (0 ≤ N ∧ N ≤ 40 ∧ (l.length : Int) = N) && l.all (rowF N)
theorem bool_size : (Tryz.prog.info? 4).map (·.size) = some 1 := by kernel_rfl
def RowI (n : Nat) (K B : Int) (row : Nat → Rat) : Prop := 0 < K ∧ ∀ k, k < n → ∃ z : Int, row k * ((K : Int) : Rat) = ((z : Int) : Rat) ∧ z.natAbs ≤ B
theorem int_ne {K : Int} (h : 0 < K) : ((K : Int) : Rat) ≠ 0 := fun e => by
 have : ((K : Int) : Rat) = ((0 : Int) : Rat) := e
 have := Rat.intCast_inj.1 this
 omega
theorem RowI.mono {n : Nat} {K B B' : Int} {row : Nat → Rat} (h : RowI n K B row) (hB : B ≤ B') : RowI n K B' row :=
 ⟨h.1, fun k hk => by
  obtain ⟨z, h1, h2⟩ := h.2 k hk
  exact ⟨z, h1, by omega⟩⟩
theorem RowI.parts {n : Nat} {K B : Int} {row : Nat → Rat} (h : RowI n K B row) {k : Nat} (hk : k < n) : ((row k).num.natAbs : Int) ≤ B ∧ ((row k).den : Int) ≤ K := by
 obtain ⟨z, h1, h2⟩ := h.2 k hk
 have e : Rat.divInt z K = row k := by
  have := int_ne h.1
  rw [Rat.divInt_eq_div, ← h1]
  grind
 obtain ⟨e1, e2⟩ := divInt_parts (x := z) h.1
 rw [e] at e1 e2
 refine ⟨?_, ?_⟩
 · rw [e1, Int.natAbs_ediv_of_dvd (Int.gcd_dvd_left ..)]
   have := Nat.div_le_self z.natAbs (Int.gcd z K : Int).natAbs
   omega
 · rw [e2]
   exact Int.ediv_le_self _ (by have := h.1; omega)
theorem RowI.norm {n c : Nat} {K B : Int} {row : Nat → Rat} (h : RowI n K B row) (hc : c < n) (h0 : row c ≠ 0) : ∃ K', K' ≤ B ∧ RowI n K' B (fun k => row k / row c) := by
 obtain ⟨z, h1, h2⟩ := h.2 c hc
 have hK := int_ne h.1
 have hz0 : z ≠ 0 := fun e => by
  rw [e] at h1
  have e0 : ((0 : Int) : Rat) = 0 := rfl
  rw [e0] at h1
  exact h0 (by grind)
 by_cases hp : 0 < z
 · refine ⟨z, by omega, hp, fun k hk => ?_⟩
   obtain ⟨y, h3, h4⟩ := h.2 k hk
   exact ⟨y, by rw [← h1, ← h3]; grind, h4⟩
 · refine ⟨-z, by omega, by omega, fun k hk => ?_⟩
   obtain ⟨y, h3, h4⟩ := h.2 k hk
   refine ⟨-y, ?_, by omega⟩
   rw [Rat.intCast_neg, Rat.intCast_neg, ← h1, ← h3]
   grind
theorem RowI.less {n c : Nat} {K B K' B' : Int} {row by_ : Nat → Rat} (h : RowI n K B row) (h' : RowI n K' B' by_) (hc : c < n) (hKB : K' ≤ B') : RowI n (K * K') (2 * (B * B')) (fun k => row k - row c * by_ k) := by
 refine ⟨Int.mul_pos h.1 h'.1, fun k hk => ?_⟩
 obtain ⟨x, h1, h2⟩ := h.2 k hk
 obtain ⟨f, h3, h4⟩ := h.2 c hc
 obtain ⟨y, h5, h6⟩ := h'.2 k hk
 refine ⟨x * K' - f * y, ?_, ?_⟩
 · rw [Rat.intCast_sub, Rat.intCast_mul, Rat.intCast_mul, Rat.intCast_mul, ← h1, ← h3, ← h5]
   grind
 · have hB : 0 ≤ B := by omega
   have a1 : ((x * K').natAbs : Int) ≤ B * B' := by
    rw [Int.natAbs_mul]
    push_cast
    exact Int.mul_le_mul (by omega) (by have := h'.1; omega) (by omega) hB
   have a2 : ((f * y).natAbs : Int) ≤ B * B' := by
    rw [Int.natAbs_mul]
    push_cast
    exact Int.mul_le_mul (by omega) (by omega) (by omega) hB
   omega
abbrev Mx := Nat → Nat → Rat
def findP (m : Mx) (c : Nat) : Nat → Nat → Nat
 | 0, a => a
 | f + 1, a => if m a c = 0 then findP m c f (a + 1) else a
def swpM (m : Mx) (a b : Nat) : Mx := fun i => if i = a then m b else if i = b then m a else m i
def pivM (m : Mx) (r c : Nat) : Mx := fun i k => if i = r then m r k / m r c else m i k - m i c * (m r k / m r c)
def divB (m : Mx) (n r c : Nat) : Bool := (List.range (n + 1)).all fun k => divK (m r k) (m r c)
def subB (m : Mx) (n r c i : Nat) : Bool := (List.range (n + 1)).all fun k => mulK (m i c) (m r k / m r c) && addK (m i k) (-(m i c * (m r k / m r c)))
def pivB (m : Mx) (n r c : Nat) : Bool := divB m n r c && (List.range n).all fun i => decide (i = r ∨ m i c = 0) || subB m n r c i
def elimF (n : Nat) (stop : Bool) : Nat → Mx → List Nat → Option (Mx × List Nat)
 | 0, m, free => some (m, free)
 | f + 1, m, free =>
  let c := n - (f + 1)
  let r := c - free.length
  let a := findP m c (n - r) r
  if a = n then (if stop = true then some (m, free ++ [c]) else elimF n stop f m (free ++ [c]))
  else if pivB (swpM m r a) n r c = true then elimF n stop f (pivM (swpM m r a) r c) free else none
theorem pivM_zero {m : Mx} {r c i : Nat} (hi : i ≠ r) (h0 : m i c = 0) : pivM m r c i = m i := by
 funext k
 unfold pivM
 rw [if_neg hi, h0]
 grind
def UnitM (n c : Nat) (m : Mx) : Prop := ∀ i j, i < n → j < c → m i j = if i = j then 1 else 0
theorem UnitM.zero (n : Nat) (m : Mx) : UnitM n 0 m := fun i j _ h => absurd h (by omega)
theorem UnitM.swap {n c a : Nat} {m : Mx} (h : UnitM n c m) (hc : c < n) (ha : c ≤ a ∧ a < n) : UnitM n c (swpM m c a) := fun i j hi hj => by
 unfold swpM
 by_cases e1 : i = c
 · rw [if_pos e1, h a j ha.2 hj, if_neg (by omega), if_neg (by omega)]
 · rw [if_neg e1]
   by_cases e2 : i = a
   · rw [if_pos e2, h c j hc hj, if_neg (by omega), if_neg (by omega)]
   · rw [if_neg e2]; exact h i j hi hj
theorem UnitM.piv {n c : Nat} {m : Mx} (h : UnitM n c m) (hc : c < n) (h0 : m c c ≠ 0) : UnitM n (c + 1) (pivM m c c) := fun i j hi hj => by
 unfold pivM
 by_cases ej : j = c
 · subst ej
   have e : m j j / m j j = 1 := by grind
   rw [e]
   by_cases e1 : i = j
   · rw [if_pos e1, if_pos e1]
   · rw [if_neg e1, if_neg e1]; grind
 · have e0 : m c j = 0 := by rw [h c j hc (by omega), if_neg (by omega)]
   rw [e0]
   by_cases e1 : i = c
   · rw [if_pos e1, if_neg (by omega)]; grind
   · rw [if_neg e1, h i j hi (by omega)]; grind
def UniI (n : Nat) (E : Int) (m : Mx) : Prop := ∀ i, i < n → ∃ K, K ≤ E ∧ RowI (n + 1) K E (m i)
theorem UniI.swap {n a b : Nat} {E : Int} {m : Mx} (h : UniI n E m) (ha : a < n) (hb : b < n) : UniI n E (swpM m a b) := fun i hi => by
 unfold swpM
 by_cases e1 : i = a
 · rw [if_pos e1]; exact h b hb
 · rw [if_neg e1]
   by_cases e2 : i = b
   · rw [if_pos e2]; exact h a ha
   · rw [if_neg e2]; exact h i hi
theorem UniI.piv {n r c : Nat} {E : Int} {m : Mx} (h : UniI n E m) (hr : r < n) (hc : c < n) (h0 : m r c ≠ 0) : UniI n (2 * (E * E)) (pivM m r c) := fun i hi => by
 obtain ⟨K, hK, hR⟩ := h r hr
 have hE : 1 ≤ E := by have := hR.1; omega
 have hEE : E ≤ E * E := by
  have := Int.mul_le_mul_of_nonneg_left hE (show 0 ≤ E by omega)
  rw [Int.mul_one] at this
  exact this
 obtain ⟨K', hK', hR'⟩ := hR.norm (c := c) (by omega) h0
 by_cases e : i = r
 · have e1 : pivM m r c i = fun k => m r k / m r c := by funext k; unfold pivM; rw [if_pos e]
   rw [e1]
   exact ⟨K', by omega, hR'.mono (by omega)⟩
 · have e1 : pivM m r c i = fun k => m i k - m i c * (m r k / m r c) := by funext k; unfold pivM; rw [if_neg e]
   rw [e1]
   obtain ⟨Ki, hKi, hRi⟩ := h i hi
   refine ⟨Ki * K', ?_, hRi.less hR' (by omega) (by omega)⟩
   have h1 : Ki * K' ≤ E * E := Int.mul_le_mul hKi (by omega) (by have := hR'.1; omega) (by omega)
   omega
theorem UniI.mono {n : Nat} {E E' : Int} {m : Mx} (h : UniI n E m) (hE : E ≤ E') : UniI n E' m := fun i hi => by
 obtain ⟨K, h1, h2⟩ := h i hi
 exact ⟨K, by omega, h2.mono hE⟩
def hB : Nat → Int
 | 0 => pw 4 - 1
 | 1 => pw 9 - 1
 | 2 => pw 19 - 1
 | _ => pw 39
theorem smQ_single {f : Nat → Rat} {n a : Nat} (ha : a < n) (h : ∀ k, k < n → k ≠ a → f k = 0) : smQ f n = f a := by
 rw [smQ_one (f := fun _ => 0) (g := f) (c := f a) ha (by grind) h, smQ_const]
 grind
def cntB (fr : Nat → Bool) : Nat → Nat
 | 0 => 0
 | n + 1 => cntB fr n + if fr n = true then 1 else 0
structure Stair (n c r : Nat) (m : Mx) (free : List Nat) (p : Nat → Nat) (fr : Nat → Bool) : Prop where
 piv : ∀ j, j < c → fr j = false → p j < r ∧ ∀ i, i < n → m i j = if i = p j then 1 else 0
 fre : ∀ j, j < c → fr j = true → p j ≤ r ∧ ∀ i, p j ≤ i → i < n → m i j = 0
 mono : ∀ j k, j < k → k < c → p j ≤ p k ∧ (fr j = false → p j < p k)
 sur : ∀ i, i < r → ∃ j, j < c ∧ fr j = false ∧ p j = i
 len : free.length = cntB fr c
 cnt : r + free.length = c
theorem Stair.start (n : Nat) (m : Mx) : Stair n 0 0 m [] (fun _ => 0) (fun _ => false) :=
 ⟨fun j h => absurd h (by omega), fun j h => absurd h (by omega), fun j k _ h => absurd h (by omega), fun i h => absurd h (by omega), rfl, rfl⟩
section
variable {n c r : Nat} {m : Mx} {free : List Nat} {p : Nat → Nat} {fr : Nat → Bool}
end
def LeftN (n : Nat) (m : Mx) : Prop := ∃ y : Nat → Rat, (∃ i, i < n ∧ y i ≠ 0) ∧ ∀ k, k < n → smQ (fun i => y i * m i k) n = 0
theorem smQ_sw (f : Nat → Rat) {n a b : Nat} (ha : a < n) (hb : b < n) : smQ (fun i => f (sw a b i)) n = smQ f n := by
 by_cases e : a = b
 · refine smQ_congr fun i _ => ?_
   subst e
   unfold sw
   by_cases e2 : i = a
   · rw [if_pos e2, e2]
   · rw [if_neg e2, if_neg e2]
 · have h1 : smQ (fun i => if i = a then f b else f i) n = smQ f n + (f b - f a) := smQ_one ha (by rw [if_pos rfl]; grind) (fun i _ hne => if_neg hne)
   rw [smQ_one (f := fun i => if i = a then f b else f i) (b := b) (c := f a - f b) hb (by
    unfold sw
    rw [if_neg (fun h => e h.symm), if_pos rfl, if_neg (fun h => e h.symm)]
    grind) (fun i _ hne => by
    unfold sw
    by_cases e2 : i = a
    · rw [if_pos e2, if_pos e2]
    · rw [if_neg e2, if_neg hne, if_neg e2]), h1]
   grind
theorem swpM_sw (m : Mx) (a b i : Nat) : swpM m a b i = m (sw a b i) := by
 unfold swpM sw
 split
 · rfl
 · split <;> rfl
theorem LeftN.swap {n a b : Nat} {m : Mx} (ha : a < n) (hb : b < n) (h : LeftN n m) : LeftN n (swpM m a b) := by
 obtain ⟨y, ⟨i, hi, h0⟩, hy⟩ := h
 have hss : ∀ i, sw a b (sw a b i) = i := fun i => by
  unfold sw
  by_cases e1 : i = a
  · rw [if_pos e1]
    by_cases e2 : b = a
    · rw [if_pos e2, e2, e1]
    · rw [if_neg e2, if_pos rfl, e1]
  · rw [if_neg e1]
    by_cases e2 : i = b
    · rw [if_pos e2, if_pos rfl, e2]
    · rw [if_neg e2, if_neg e1, if_neg e2]
 refine ⟨fun i => y (sw a b i), ⟨sw a b i, sw_lt ha hb hi, by show y (sw a b (sw a b i)) ≠ 0; rw [hss]; exact h0⟩, fun k hk => ?_⟩
 rw [← hy k hk, ← smQ_sw (fun i => y i * m i k) ha hb]
 exact smQ_congr fun i _ => by rw [swpM_sw]
theorem LeftN.piv {n r c : Nat} {m : Mx} (hr : r < n) (hc : c < n) (h0 : m r c ≠ 0) (h : LeftN n m) : LeftN n (pivM m r c) := by
 obtain ⟨y, ⟨i, hi, hy0⟩, hy⟩ := h
 have hT := hy c hc
 refine ⟨fun i => if i = r then 0 else y i, ?_, fun k hk => ?_⟩
 · by_cases hex : ∃ j, j < n ∧ j ≠ r ∧ y j ≠ 0
   · obtain ⟨j, h1, h2, h3⟩ := hex
     exact ⟨j, h1, by show (if j = r then 0 else y j) ≠ 0; rw [if_neg h2]; exact h3⟩
   · exfalso
     have hz : ∀ j, j < n → j ≠ r → y j = 0 := fun j h1 h2 => by
      by_cases e : y j = 0
      · exact e
      · exact absurd ⟨j, h1, h2, e⟩ hex
     rw [smQ_single hr (fun k hk hne => by rw [hz k hk hne]; grind)] at hT
     have hyr : y r = 0 := by grind
     apply hy0
     by_cases e : i = r
     · rw [e]; exact hyr
     · exact hz i hi e
 · have h1 : smQ (fun i => (if i = r then 0 else y i) * pivM m r c i k) n = smQ (fun i => y i * m i k - m r k / m r c * (y i * m i c)) n := smQ_congr fun i hi => by
    unfold pivM
    by_cases e : i = r
    · rw [if_pos e, if_pos e, e]
      grind
    · rw [if_neg e, if_neg e]
      grind
   have h2 : ∀ (s : Rat) (f g : Nat → Rat) (n : Nat), smQ (fun i => f i - s * g i) n = smQ f n - s * smQ g n := fun s f g n => by
    induction n with
    | zero => rw [smQ, smQ, smQ]; grind
    | succ n ih => rw [smQ, smQ, smQ, ih]; grind
   rw [h1, h2 (m r k / m r c) (fun i => y i * m i k) (fun i => y i * m i c) n, hy k hk, hT]
   grind
def Pt (k : Nat) (q : Rat) : Prop := (q.num.natAbs : Int) < pw k ∧ (q.den : Int) < pw k
theorem Pt.mono {j k : Nat} {q : Rat} (h : Pt j q) (hjk : j ≤ k) : Pt k q := by
 have := pw_le hjk
 exact ⟨by have := h.1; omega, by have := h.2; omega⟩
theorem parts_le {x y : Int} (hy : 0 < y) : ((Rat.divInt x y).num.natAbs : Int) ≤ x.natAbs ∧ ((Rat.divInt x y).den : Int) ≤ y := by
 obtain ⟨e1, e2⟩ := divInt_parts (x := x) hy
 refine ⟨?_, ?_⟩
 · rw [e1, Int.natAbs_ediv_of_dvd (Int.gcd_dvd_left ..)]
   have := Nat.div_le_self x.natAbs (Int.gcd x y : Int).natAbs
   omega
 · rw [e2]
   exact Int.ediv_le_self _ (by omega)
theorem Pt.mul {j k : Nat} {x y : Rat} (hx : Pt j x) (hy : Pt k y) (hjk : j + k ≤ 60) : mulK x y = true ∧ Pt (j + k) (x * y) := by
 have m1 : ((x.num * y.num).natAbs : Int) < pw (j + k) := pw_mul_lt hx.1 hy.1
 have m2 : (((x.den : Int) * (y.den : Int)).natAbs : Int) < pw (j + k) := pw_mul_lt (x := (x.den : Int)) (y := (y.den : Int)) (by have := hx.2; omega) (by have := hy.2; omega)
 have hdp := den_mul_pos x y
 have h := parts_le (x := x.num * y.num) hdp
 rw [rat_mul] at h
 refine ⟨?_, ?_, ?_⟩
 · unfold mulK
   rw [fits_lt m1 hjk, fits_lt m2 hjk]
   rfl
 · omega
 · have := h.2
   omega
theorem Pt.add {j k : Nat} {x y : Rat} (hx : Pt j x) (hy : Pt k y) (hjk : j + k + 1 ≤ 60) : addK x y = true ∧ Pt (j + k + 1) (x + y) := by
 have m1 : ((x.num * (y.den : Int)).natAbs : Int) < pw (j + k) := pw_mul_lt hx.1 (y := (y.den : Int)) (by have := hy.2; omega)
 have m2 : ((y.num * (x.den : Int)).natAbs : Int) < pw (j + k) := by
  rw [Nat.add_comm]
  exact pw_mul_lt hy.1 (y := (x.den : Int)) (by have := hx.2; omega)
 have m3 : (((x.den : Int) * (y.den : Int)).natAbs : Int) < pw (j + k) := pw_mul_lt (x := (x.den : Int)) (y := (y.den : Int)) (by have := hx.2; omega) (by have := hy.2; omega)
 have hdp := den_mul_pos x y
 have hp : pw (j + k + 1) = 1048576 * pw (j + k) := rfl
 have h := parts_le (x := x.num * y.den + y.num * x.den) hdp
 rw [rat_add] at h
 have m4 : ((x.num * (y.den : Int) + y.num * (x.den : Int)).natAbs : Int) < pw (j + k + 1) := by omega
 refine ⟨?_, ?_, ?_⟩
 · unfold addK sumK
   rw [fits_lt m1 (by omega), fits_lt m2 (by omega), fits_lt m3 (by omega), fits_lt m4 hjk]
   rfl
 · omega
 · have := h.2
   omega
theorem Pt.zero : Pt 1 0 := by
 refine ⟨?_, ?_⟩ <;> decide +kernel
theorem int_ratio {q : Rat} {D z : Int} (hD : ((D : Int) : Rat) ≠ 0) (h : q * ((D : Int) : Rat) = ((z : Int) : Rat)) {B : Int} (h1 : (D.natAbs : Int) < B) (h2 : (z.natAbs : Int) < B) : (q.num.natAbs : Int) < B ∧ (q.den : Int) < B := by
 have hD0 : D ≠ 0 := fun e => hD (by rw [e]; rfl)
 by_cases hp : 0 < D
 · have e : Rat.divInt z D = q := by
    rw [Rat.divInt_eq_div, ← h]
    grind
   have := parts_le (x := z) hp
   rw [e] at this
   omega
 · have e : Rat.divInt (-z) (-D) = q := by
    rw [Rat.divInt_eq_div, Rat.intCast_neg, Rat.intCast_neg, ← h]
    grind
   have := parts_le (x := -z) (y := -D) (by omega)
   rw [e] at this
   omega
theorem UniI.pt {n : Nat} {E : Int} {m : Mx} (h : UniI n E m) {j i k : Nat} (hE : E < pw j) (hi : i < n) (hk : k < n + 1) : Pt j (m i k) := by
 obtain ⟨K, h1, h2⟩ := h i hi
 obtain ⟨a, b⟩ := h2.parts hk
 exact ⟨by omega, by omega⟩
theorem Pt.one : Pt 1 1 := by
 refine ⟨?_, ?_⟩ <;> decide +kernel
theorem Pt.neg {j : Nat} {q : Rat} (h : Pt j q) : Pt j (-q) := by
 unfold Pt
 rw [Rat.neg_num, Rat.neg_den, Int.natAbs_neg]
 exact h
end Go.Proofs.YtdlcglndhhndpaaGreat
