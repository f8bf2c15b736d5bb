/- Laws and walks; conditions stand in each theorem. -/
import Derived.OrdersHeld
import Derived.Test.YtdlcglndhhndpaaGreatL10
import Derived.Test.YtdlcglndhhndpaaGreatL12
import Derived.Test.YtdlcglndhhndpaaGreatL09
set_option linter.unusedSimpArgs false
set_option linter.unusedVariables false
namespace Go.Proofs.YtdlcglndhhndpaaGreat
open Go.RowKit
theorem mulK_fits {x y : Rat} (h : mulK x y = true) : fitsF (x * y) = true := by
 unfold mulK at h
 rw [Bool.and_eq_true] at h
 rw [← rat_mul]
 exact divInt_fits (den_mul_pos x y) h.1 h.2
theorem divK_fits {x y : Rat} (h : divK x y = true) (hy : y ≠ 0) : fitsF (x / y) = true := by
 unfold divK at h
 rw [Bool.and_eq_true] at h
 rw [← rat_div]
 have h0 : y.num ≠ 0 := fun e => hy (Rat.num_eq_zero.1 e)
 by_cases hp : 0 < y.num
 · exact divInt_fits (Int.mul_pos (den_pos x) hp) h.1 h.2
 · rw [← Rat.neg_divInt_neg]
   exact divInt_fits (by have := Int.mul_pos (den_pos x) (show 0 < -y.num by omega); rw [Int.mul_neg] at this; exact this) (by rw [fits_neg]; exact h.1) (by rw [fits_neg]; exact h.2)
def divO1 (x y : Rat) : Option Rat := if divK x y = true then some (x / y) else none
def divE1 (x y : Rat) : Int := if divK x y = true then 0 else 6
def mulO1 (x y : Rat) : Option Rat := if mulK x y = true then some (x * y) else none
def mulE1 (x y : Rat) : Int := if mulK x y = true then 0 else 6
def subO1 (x : Rat) : Option Rat → Option Rat
 | none => none
 | some y => if addK x (-y) = true then some (x - y) else none
def subE1 (x : Rat) : Option Rat → Int
 | none => 1
 | some y => if addK x (-y) = true then 0 else 6
theorem OptF.zero {s : Int} {l : List Int} {t : Int} {m : List Int} (h : OptF s l t m none) : rightF s l t m = false := by
 obtain ⟨rfl, rfl, rfl, rfl⟩ := h
 decide +kernel
section
variable (x y : Rat) (s1 t1 s2 t2 : Int) (A1 B1 A2 B2 : Option Addr) (n1 c1 m1 d1 n2 c2 m2 d2 : Nat) (l1 k1 l2 k2 : List Int) (w : World) (r1 : RdI w w.heap.size A1 n1 c1 l1) (q1 : RdI w w.heap.size B1 m1 d1 k1) (r2 : RdI w w.heap.size A2 n2 c2 l2) (q2 : RdI w w.heap.size B2 m2 d2 k2)
variable (h1 : StdF s1 l1 t1 k1 x) (f1 : fitsF x = true)
include r1 q1 r2 q2 h1 f1
theorem qDiv (h2 : StdF s2 l2 t2 k2 y) (f2 : fitsF y = true) (hy : y ≠ 0) : Calls Tryz.prog 128 #[.agg #[.int .i64 s1, .slice A1 n1 c1, .int .i64 t1, .slice B1 m1 d1], .agg #[.int .i64 s2, .slice A2 n2 c2, .int .i64 t2, .slice B2 m2 d2]] w (FrE w (divO1 x y) (divE1 x y)) := by
 have h := fDiv_any s1 t1 s2 t2 A1 B1 A2 B2 n1 c1 m1 d1 n2 c2 m2 d2 l1 k1 l2 k2 w r1 q1 r2 q2
 rw [h1.right f1, h2.right f2, h1.rat, h2.rat] at h
 have e1 : divO (true && true) x y = divO1 x y := by
  unfold divO divO1 binO
  rw [if_neg hy]
  simp
 have e2 : divE (true && true) x y = divE1 x y := by
  unfold divE divE1 binE
  rw [if_neg (fun h => hy h.2)]
  simp
 rw [e1, e2] at h
 exact h
theorem qMul (h2 : StdF s2 l2 t2 k2 y) (f2 : fitsF y = true) : Calls Tryz.prog 52 #[.agg #[.int .i64 s1, .slice A1 n1 c1, .int .i64 t1, .slice B1 m1 d1], .agg #[.int .i64 s2, .slice A2 n2 c2, .int .i64 t2, .slice B2 m2 d2]] w (FrE w (mulO1 x y) (mulE1 x y)) := by
 have h := fMul_any s1 t1 s2 t2 A1 B1 A2 B2 n1 c1 m1 d1 n2 c2 m2 d2 l1 k1 l2 k2 w r1 q1 r2 q2
 rw [h1.right f1, h2.right f2, h1.rat, h2.rat] at h
 have e1 : binO (true && true) (mulK x y) (x * y) = mulO1 x y := by
  unfold mulO1 binO
  simp
 have e2 : binE (true && true) (mulK x y) = mulE1 x y := by
  unfold mulE1 binE
  simp
 rw [e1, e2] at h
 exact h
theorem qSub (o : Option Rat) (h2 : OptF s2 l2 t2 k2 o) (f2 : ∀ z, o = some z → fitsF z = true) : Calls Tryz.prog 42 #[.agg #[.int .i64 s1, .slice A1 n1 c1, .int .i64 t1, .slice B1 m1 d1], .agg #[.int .i64 s2, .slice A2 n2 c2, .int .i64 t2, .slice B2 m2 d2]] w (FrE w (subO1 x o) (subE1 x o)) := by
 have h := fSub_any s1 t1 s2 t2 A1 B1 A2 B2 n1 c1 m1 d1 n2 c2 m2 d2 l1 k1 l2 k2 w r1 q1 r2 q2
 cases o with
 | none =>
  rw [h1.right f1, h2.zero, Bool.and_false, binO_no, binE_no] at h
  exact h
 | some z =>
  have h2 : StdF s2 l2 t2 k2 z := h2
  rw [h1.right f1, h2.right (f2 z rfl), h1.rat, h2.rat] at h
  have e1 : binO (true && true) (addK x (-z)) (x - z) = subO1 x (some z) := by
   unfold subO1 binO
   simp
  have e2 : binE (true && true) (addK x (-z)) = subE1 x (some z) := by
   unfold subE1 binE
   simp
  rw [e1, e2] at h
  exact h
end
theorem mulO1_fits {x y z : Rat} (h : mulO1 x y = some z) : fitsF z = true := by
 unfold mulO1 at h
 split at h
 · rename_i hk
   cases h
   exact mulK_fits hk
 · cases h
theorem subE1_none (x : Rat) : subE1 x none = 1 := rfl
theorem subE1_some (x y : Rat) : subE1 x (some y) = if addK x (-y) = true then 0 else 6 := rfl
theorem subO1_some (x y : Rat) : subO1 x (some y) = if addK x (-y) = true then some (x - y) else none := rfl
def stepK (a f q : Rat) : Bool := mulK f q && addK a (-(f * q))
theorem step_bad (a f q : Rat) : ((mulE1 f q != 0) || (subE1 a (mulO1 f q) != 0)) = !stepK a f q := by
 unfold mulE1 mulO1 stepK
 generalize f * q = p
 generalize mulK f q = B
 cases B
 · rw [if_neg (by decide), if_neg (by decide), subE1_none]
   simp
 · rw [if_pos rfl, if_pos rfl, subE1_some]
   generalize addK a (-p) = C
   cases C <;> simp
theorem step_val {a f q : Rat} (h : stepK a f q = true) : subO1 a (mulO1 f q) = some (a - f * q) ∧ fitsF (a - f * q) = true := by
 unfold stepK at h
 rw [Bool.and_eq_true] at h
 unfold mulO1
 rw [if_pos h.1, subO1_some, if_pos h.2, Rat.sub_eq_add_neg]
 exact ⟨rfl, addK_fits h.2⟩
theorem StdF.zero_iff {s : Int} {l : List Int} {t : Int} {m : List Int} {q : Rat} (h : StdF s l t m q) (hf : fitsF q = true) : (s == 0) = decide (q = 0) := by
 have := zero_rat (h.right hf)
 rw [h.rat] at this
 exact this
abbrev Mm.L (M : Mm) (n mb hb hc : Nat) (h : Nat → Hd) (HJ : List Value) (b : Bool) (L0 : List Blk) : List Blk :=
 (mb, #[.slice (some ⟨hb, 0, none⟩) n hc, .int .i64 n, .bool b], 67) :: (hb, recA Hd.cs n h HJ, 23) :: (M.rows n ++ L0)
def Mm.good (M : Mm) (n : Nat) (m : Mx) : Prop := ∀ i k, i < n → k < M.N → StdF (M.V i k).s (M.V i k).l (M.V i k).t (M.V i k).k (m i k) ∧ fitsF (m i k) = true
def Mm.caps (M : Mm) (n : Nat) : Prop := M.N = n + 1 ∧ ∀ i, i < n → M.N ≤ M.cp i ∧ M.cp i ≤ 9223372036854775807
theorem St.cellH {w W : World} {L : List Blk} {D : List Hl} {M : Mm} {n i g : Nat} {t : TypeId} {J : List Value} (K : St w L D W) (hi : i < n) (hb : ((g, recA Hd.cs n (M.hd n) J, t) : Blk) ∈ L) : W.cell? ⟨g, i, none⟩ = some (.slice (some ⟨M.rb i, 0, none⟩) M.N (M.cp i)) := (K.blk hb).cell (hdA_get hi)
theorem St.thaw {w W : World} {L : List Blk} {D : List Hl} {g : Nat} {cs : Array Value} {t : TypeId} (K : St w L D W) (hb : ((g, cs, t) : Blk) ∈ L) : ∀ j, W.frozen? ⟨g, j, none⟩ = false := fun j => (K.blk hb).thaw
theorem St.setH {w W : World} {L L' : List Blk} {D : List Hl} {n i g : Nat} {f : Nat → Hd} {t : TypeId} {J : List Value} (h : St w L D W) (x : Hd) (hi : i < n) (hU : Upd g (recA Hd.cs n f J) t (recA Hd.cs n (putF f i x) J) L L') : St w L' D (W.setCell ⟨g, i, none⟩ (.slice x.A x.n x.c)) := by
 refine h.upd hU (OnlyB.set W g _ _) ?_
 rw [← hdA_set hi x]
 exact (h.blk hU.mem).set (j := i) (.slice x.A x.n x.c)
theorem St.setR {w W : World} {L L' : List Blk} {D : List Hl} {n i g : Nat} {v : Nat → Rw} {t : TypeId} {J : List Value} (h : St w L D W) (x : Rw) (hi : i < n) (hU : Upd g (rwA n v J) t (rwA n (putF v i x) J) L L') :
 St w L' D ((((W.setCell ⟨g, i * 4, none⟩ (.int .i64 x.s)).setCell ⟨g, i * 4 + 1, none⟩ (.slice x.A x.n x.c)).setCell ⟨g, i * 4 + 2, none⟩ (.int .i64 x.t)).setCell ⟨g, i * 4 + 3, none⟩ (.slice x.B x.m x.d)) := by
 refine h.upd hU ((((OnlyB.set W g _ _).trans (OnlyB.set _ g _ _)).trans (OnlyB.set _ g _ _)).trans (OnlyB.set _ g _ _)) ?_
 rw [← rwA_spl hi x]
 exact ((((h.blk hU.mem).set (j := i * 4) (.int .i64 x.s)).set (j := i * 4 + 1) (.slice x.A x.n x.c)).set (j := i * 4 + 2) (.int .i64 x.t)).set (j := i * 4 + 3) (.slice x.B x.m x.d)
theorem St.swapped {w W : World} {M : Mm} {n mb hb hc r a : Nat} {b : Bool} {HJ : List Value} {L0 : List Blk} {D : List Hl} (hr : r < n) (ha : a < n) (K : St w ((mb, #[.slice (some ⟨hb, 0, none⟩) n hc, .int .i64 n, .bool b], 67) :: (hb, recA Hd.cs n (M.hd n) HJ, 23) :: (M.rows n ++ L0)) (M.fam n :: D) W) :
 St w ((mb, #[.slice (some ⟨hb, 0, none⟩) n hc, .int .i64 n, .bool b], 67) :: (hb, recA Hd.cs n ((M.swp r a).hd n) HJ, 23) :: ((M.swp r a).rows n ++ L0)) ((M.swp r a).fam n :: D) ((W.setCell ⟨hb, r, none⟩ (.slice (some ⟨M.rb a, 0, none⟩) M.N (M.cp a))).setCell ⟨hb, a, none⟩ (.slice (some ⟨M.rb r, 0, none⟩) M.N (M.cp r))) := by
 have K2 := K.setH (i := r) (M.hd n a) hr (Upd.tail _ (Upd.head _))
 have K3 := K2.setH (i := a) (M.hd n r) ha (Upd.tail _ (Upd.head _))
 rw [Mm.swp_hd] at K3
 have K4 := K3.perm ((((Mm.swp_rows (M := M) hr ha).append_right L0).cons _).cons _)
 exact (K4.famSwp List.mem_cons_self hr ha).less (fun x hx => by
  rcases List.mem_cons.1 hx with rfl | hx
  · exact List.mem_cons_self
  · exact List.mem_cons_of_mem _ (List.mem_cons_of_mem _ hx))
def Mm.wV (M : Mm) (V : Nat → Nat → Rw) : Mm := { M with V := V }
def put2 (V : Nat → Nat → Rw) (r k : Nat) (x : Rw) : Nat → Nat → Rw := putF V r (putF (V r) k x)
theorem put2_at (V : Nat → Nat → Rw) (r k : Nat) (x : Rw) : put2 V r k x r k = x := by unfold put2; rw [putF_same, putF_same]
theorem put2_ne (V : Nat → Nat → Rw) {r k i j : Nat} (x : Rw) (h : ¬ (i = r ∧ j = k)) : put2 V r k x i j = V i j := by
 unfold put2
 by_cases e : i = r
 · subst e
   rw [putF_same, putF_other (fun e => h ⟨rfl, e⟩)]
 · rw [putF_other e]
section
variable {w W W' : World} {L L' L0 : List Blk} {D : List Hl} {M : Mm} {n r k : Nat} {V : Nat → Nat → Rw}
theorem Mm.memV (hr : r < n) : ((M.rb r, rwA M.N (V r) (M.J r), 50) : Blk) ∈ (M.wV V).rows n ++ L0 := Mm.mem (M := M.wV V) hr
theorem Mm.updV (hr : r < n) (x : Rw) : Upd (M.rb r) (rwA M.N (V r) (M.J r)) 50 (rwA M.N (putF (V r) k x) (M.J r)) ((M.wV V).rows n ++ L0) ((M.wV (put2 V r k x)).rows n ++ L0) := Mm.upd (M := M.wV V) hr x
theorem St.cellV (h : St w L D W) (hk : k < M.N) (hb : ((M.rb r, rwA M.N (V r) (M.J r), 50) : Blk) ∈ L) : W.cell? ⟨M.rb r, k * 4, none⟩ = some (.int .i64 (V r k).s) ∧ W.cell? ⟨M.rb r, k * 4 + 1, none⟩ = some (.slice (V r k).A (V r k).n (V r k).c) ∧ W.cell? ⟨M.rb r, k * 4 + 2, none⟩ = some (.int .i64 (V r k).t) ∧ W.cell? ⟨M.rb r, k * 4 + 3, none⟩ = some (.slice (V r k).B (V r k).m (V r k).d) := by
 exact ZL90
theorem St.famRdV (K : St w L D W) (hm : (M.wV V).fam n ∈ D) {i j : Nat} (hi : i < n) (hj : j < M.N) : St w L (⟨rdP (V i j).B (V i j).m (V i j).d (V i j).k, rdS (V i j).B (V i j).m⟩ :: ⟨rdP (V i j).A (V i j).n (V i j).c (V i j).l, rdS (V i j).A (V i j).n⟩ :: D) W := St.famRd (M := M.wV V) K hm hi hj
theorem St.famPutV (K : St w L D W) (hm : (M.wV V).fam n ∈ D) (x : Rw) (m2 : (⟨rdP x.A x.n x.c x.l, rdS x.A x.n⟩ : Hl) ∈ D) (m3 : (⟨rdP x.B x.m x.d x.k, rdS x.B x.m⟩ : Hl) ∈ D) (r k : Nat) : St w L ((M.wV (put2 V r k x)).fam n :: D) W := St.famPut (M := M.wV V) K hm x m2 m3 r k
end
theorem Mm.good.swp {M : Mm} {n a b : Nat} {m : Mx} (h : M.good n m) (ha : a < n) (hb : b < n) : (M.swp a b).good n (swpM m a b) := fun i k hi hk => by
 rw [swpM_sw]
 exact h (sw a b i) k (sw_lt ha hb hi) hk
theorem findP_is {m : Mx} {c : Nat} : ∀ (f r a : Nat), r ≤ a → a ≤ r + f → (∀ i, r ≤ i → i < a → m i c = 0) → (a < r + f → m a c ≠ 0) → findP m c f r = a
 | 0, r, a, h1, h2, h3, h4 => by rw [findP]; omega
 | f + 1, r, a, h1, h2, h3, h4 => by
  rw [findP]
  by_cases e : r = a
  · subst e
    rw [if_neg (h4 (by omega))]
  · rw [if_pos (h3 r (Nat.le_refl _) (by omega))]
    exact findP_is f (r + 1) a (by omega) (by omega) (fun i g1 g2 => h3 i (by omega) g2) (fun h => h4 (by omega))
theorem Upd.mid {b : Nat} {cs cs' : Array Value} {t : TypeId} {L L' : List Blk} (cs1 : Array Value) (h : Upd b cs t cs' L L') : ∃ L1, Upd b cs t cs1 L L1 ∧ Upd b cs1 t cs' L1 L' := by
 induction h with
 | head L => exact ⟨_, .head L, .head L⟩
 | tail x h ih =>
  obtain ⟨L1, h1, h2⟩ := ih
  exact ⟨_, .tail x h1, .tail x h2⟩
theorem allK_succ (f : Nat → Bool) (k : Nat) : (List.range (k + 1)).all f = ((List.range k).all f && f k) := by
 rw [List.range_succ, List.all_append]
 simp
abbrev Vx := Nat → Nat → Rw
def isQ (x : Rw) (q : Rat) : Prop := StdF x.s x.l x.t x.k q ∧ fitsF q = true
def Stg (N n r c : Nat) (m : Mx) (i : Nat) (V : Vx) : Prop :=
 divB m n r c = true ∧ (∀ j k, j < n → k < N → isQ (V j k) (if j = r ∨ j < i then pivM m r c j k else m j k)) ∧ ∀ j, j < i → j = r ∨ m j c = 0 ∨ subB m n r c j = true
def Stg2 (N n r c : Nat) (m : Mx) (i k : Nat) (V : Vx) : Prop :=
 divB m n r c = true ∧ (∀ j k', j < n → k' < N → isQ (V j k') (if j = r ∨ j < i ∨ (j = i ∧ k' < k) then pivM m r c j k' else m j k')) ∧ (∀ j, j < i → j = r ∨ m j c = 0 ∨ subB m n r c j = true) ∧ ∀ k', k' < k → stepK (m i k') (m i c) (m r k' / m r c) = true
section
variable {N n r c i k : Nat} {m : Mx} {V : Vx}
theorem pivM_r (m : Mx) (r c k : Nat) : pivM m r c r k = m r k / m r c := by unfold pivM; rw [if_pos rfl]
theorem pivM_i (m : Mx) {r i : Nat} (c k : Nat) (h : i ≠ r) : pivM m r c i k = m i k - m i c * (m r k / m r c) := by unfold pivM; rw [if_neg h]
theorem Stg.next (h : Stg N n r c m i V) (hi : i < n) (h0 : i = r ∨ m i c = 0) : Stg N n r c m (i + 1) V := by
 refine ⟨h.1, fun j k hj hk => ?_, fun j hj => ?_⟩
 · have h1 := h.2.1 j k hj hk
   by_cases e : j = i
   · subst e
     by_cases er : j = r
     · rw [if_pos (Or.inl er)] at h1 ⊢
       exact h1
     · rw [if_neg (by omega)] at h1
       rw [if_pos (by omega), pivM_zero er (h0.resolve_left er)]
       exact h1
   · have : (j = r ∨ j < i + 1) ↔ (j = r ∨ j < i) := by omega
     simp only [this]
     exact h1
 · by_cases e : j = i
   · subst e
     rcases h0 with h0 | h0
     · exact Or.inl h0
     · exact Or.inr (Or.inl h0)
   · exact h.2.2 j (by omega)
theorem Stg.inner (h : Stg N n r c m i V) : Stg2 N n r c m i 0 V := by
 refine ⟨h.1, fun j k hj hk => ?_, h.2.2, fun k' hk => absurd hk (by omega)⟩
 have : (j = r ∨ j < i ∨ (j = i ∧ k < 0)) ↔ (j = r ∨ j < i) := by omega
 simp only [this]
 exact h.2.1 j k hj hk
theorem Stg2.step (h : Stg2 N n r c m i k V) (hi : i ≠ r) {y : Rw} (hs : stepK (m i k) (m i c) (m r k / m r c) = true) (hy : isQ y (m i k - m i c * (m r k / m r c))) : Stg2 N n r c m i (k + 1) (put2 V i k y) := by
 refine ⟨h.1, fun j k' hj hk => ?_, h.2.2.1, fun k' hk => ?_⟩
 · by_cases e : j = i ∧ k' = k
   · rw [e.1, e.2, put2_at, if_pos (by omega), pivM_i m c k hi]
     exact hy
   · rw [put2_ne V y e]
     have : (j = r ∨ j < i ∨ (j = i ∧ k' < k + 1)) ↔ (j = r ∨ j < i ∨ (j = i ∧ k' < k)) := by omega
     simp only [this]
     exact h.2.1 j k' hj hk
 · by_cases e : k' = k
   · rw [e]; exact hs
   · exact h.2.2.2 k' (by omega)
theorem Stg2.bad (hN : N = n + 1) (hi : i < n) (hir : i ≠ r) (h0 : m i c ≠ 0) (hk : k < N) (hs : stepK (m i k) (m i c) (m r k / m r c) = false) : pivB m n r c = false := by
 have h1 : subB m n r c i = false := by
  unfold subB
  rw [List.all_eq_false]
  refine ⟨k, List.mem_range.2 (by omega), ?_⟩
  unfold stepK at hs
  rw [hs]
  simp
 unfold pivB
 rw [Bool.and_eq_false_iff]
 right
 rw [List.all_eq_false]
 refine ⟨i, List.mem_range.2 hi, ?_⟩
 rw [h1, Bool.or_false, decide_eq_true_iff]
 intro h
 rcases h with h | h
 · exact hir h
 · exact h0 h
theorem Stg2.done (hN : N = n + 1) (h : Stg2 N n r c m i N V) : Stg N n r c m (i + 1) V := by
 refine ⟨h.1, fun j k hj hk => ?_, fun j hj => ?_⟩
 · have : (j = r ∨ j < i + 1) ↔ (j = r ∨ j < i ∨ (j = i ∧ k < N)) := by omega
   simp only [this]
   exact h.2.1 j k hj hk
 · by_cases e : j = i
   · subst e
     refine Or.inr (Or.inr ?_)
     unfold subB
     rw [List.all_eq_true]
     intro k hk
     exact h.2.2.2 k (by have := List.mem_range.1 hk; omega)
   · exact h.2.2.1 j (by omega)
theorem Stg.pivot (h : Stg N n r c m n V) : pivB m n r c = true := by
 unfold pivB
 rw [Bool.and_eq_true, List.all_eq_true]
 refine ⟨h.1, fun j hj => ?_⟩
 have hj := List.mem_range.1 hj
 rcases h.2.2 j hj with e | e | e
 · rw [Bool.or_eq_true, decide_eq_true_iff]; exact Or.inl (Or.inl e)
 · rw [Bool.or_eq_true, decide_eq_true_iff]; exact Or.inl (Or.inr e)
 · rw [e, Bool.or_true]
theorem Stg.all (h : Stg N n r c m n V) : ∀ j k, j < n → k < N → isQ (V j k) (pivM m r c j k) := fun j k hj hk => by
 have := h.2.1 j k hj hk
 rw [if_pos (Or.inr hj)] at this
 exact this
theorem Stg.start (hr : r < n) (h0 : m r c ≠ 0) (hN : N = n + 1) (hd : divB m n r c = true) (hr1 : ∀ k, k < N → ∃ o, o = divO1 (m r k) (m r c) ∧ OptF (V r k).s (V r k).l (V r k).t (V r k).k o) (ho : ∀ j k, j < n → k < N → j ≠ r → isQ (V j k) (m j k)) : Stg N n r c m 0 V := by
 refine ⟨hd, fun j k hj hk => ?_, fun j hj => absurd hj (by omega)⟩
 by_cases e : j = r
 · subst e
   rw [if_pos (Or.inl rfl), pivM_r]
   have hk2 : divK (m j k) (m j c) = true := by
    unfold divB at hd
    exact List.all_eq_true.1 hd k (List.mem_range.2 (by omega))
   obtain ⟨o, ho1, h1⟩ := hr1 k hk
   have e1 : divO1 (m j k) (m j c) = some (m j k / m j c) := if_pos hk2
   rw [e1] at ho1
   subst ho1
   have h3 := divK_fits hk2 h0
   generalize m j k / m j c = q at *
   exact ⟨h1, h3⟩
 · rw [if_neg (by omega)]
   exact ho j k hj hk e
end
theorem ZL32 {p : Prop} (h : p := by
 first
  | (have h2 := wpOp_putIf hoj (hfree j oj hoj hji hjun hno) (fun cs b => hsel i oi cs b hi) (fun cs b => hsel j oj cs b hoj) hQ hy (H.2 j (ready_mono hj hji))
     refine wpOp_mono (fun a' w' h3 => ?_) h2
     have hS' := h3.2.1 hjn
     refine ⟨fun _ => hS', ih (listed.setIfInBounds j true) a' w' (fun k ok hk hki hun hno' => ?_) (ready_mono hr (Ne.symm hji)) h3.1 hS' ?_⟩
     · refine hfree k ok hk hki ?_ hno'
       by_cases hjk : j = k
       · rw [← hjk]; exact hjun
       · rw [getD_set_ne true hjk] at hun
         exact hun
     · rw [Array.setIfInBounds_comm _ _ hji]
       exact h3.2.2)
  | fail) : p := h
theorem ZL41 {p : Prop} (h : p := by
 first
  | (refine ⟨(fun h => by rw [h] at hr; cases hr), fun j hj => ?_⟩
     by_cases hji : j = i
     · subst hji
       exact hy.wpOp hi hS ⟨fun _ => hS, H⟩
     · have h1 := ready_mono (i := i) hj hji
       rw [H.1] at h1
       cases h1)
  | fail) : p := h
theorem ZL108 {p : Prop} (h : p := by
 first
  | (have h1 := hall e he hb
     rw [heq, hiun] at h1
     cases h1)
  | fail) : p := h
section
variable {P : Program} {ops : Array Oper} {Q : Exit → Act → World → Prop} {md : Region.Mode} {S : World → Prop} {n : Nat}
def wpAnyT (P : Program) (md : Region.Mode) (ops : Array Oper) (Q : Exit → Act → World → Prop) (S : World → Prop) (n : Nat) : Nat → Array Bool → Act → World → Prop
 | 0, listed, a, w => Region.ready md ops listed = [] ∧ Q .normal a w
 | fuel + 1, listed, a, w => (Region.ready md ops listed = [] → Q .normal a w) ∧ ∀ i ∈ Region.ready md ops listed, wpOp P ops Q i (fun a' w' => (i ≠ n → S w') ∧ wpAnyT P md ops Q S n fuel (listed.setIfInBounds i true) a' w') a w
theorem wpAnyT.any : ∀ (fuel : Nat) (listed : Array Bool) (a : Act) (w : World), wpAnyT P md ops Q S n fuel listed a w → wpAny P md ops Q fuel listed a w
 | 0, _, _, _, h => h
 | fuel + 1, _, _, _, h => ⟨h.1, fun i hi => wpOp_mono (fun a' w' h' => wpAnyT.any fuel _ a' w' h'.2) (h.2 i hi)⟩
theorem getD_flip {listed : Array Bool} {i : Nat} (h : listed.getD i true = false) : listed.getD i false = false := by
 rcases Nat.lt_or_ge i listed.size with h' | h'
 · simp [h'] at h ⊢
   exact h
 · simp [Array.getElem?_eq_none h'] at h
theorem wpAnyT.first {i : Nat} {oi : Oper} {v : Value} (hi : ops[i]? = some oi) (hin : i ≠ n) (hwait : ∀ on, ops[n]? = some on → ∃ e ∈ on.after, Region.binds md e = true ∧ e.on = i)
 (hsel : ∀ (j : Nat) (o : Oper) cs b, ops[j]? = some o → o.op ≠ .select cs b) (hQ : ∀ c a w, Q (.panic c) (a.put oi.dst v) w → Q (.panic c) a w) (fuel : Nat) :
 ∀ (listed : Array Bool) (a : Act) (w : World), (∀ j oj, ops[j]? = some oj → j ≠ i → listed.getD j true = false → (∀ e ∈ oj.after, Region.binds md e = true → e.on ≠ i) → oi.apart ops oj = true) →
  i ∈ Region.ready md ops listed → YieldsIf P ops S oi v a → S w → wpAnyT P md ops Q S n fuel (listed.setIfInBounds i true) (a.put oi.dst v) w → wpAnyT P md ops Q S n (fuel + 1) listed a w := by
 induction fuel with
 | zero =>
  intro listed a w _ hr hy hS H
  exact ZL41
 | succ fuel ih =>
  intro listed a w hfree hr hy hS H
  refine ⟨(fun h => by rw [h] at hr; cases hr), fun j hj => ?_⟩
  by_cases hji : j = i
  · subst hji
    exact hy.wpOp hi hS ⟨fun _ => hS, H⟩
  obtain ⟨hjun, oj, hoj, hall⟩ := mem_ready.1 hj
  have hiun := getD_flip (mem_ready.1 hr).1
  have hno : ∀ e ∈ oj.after, Region.binds md e = true → e.on ≠ i := fun e he hb heq => by
   exact ZL108
  have hjn : j ≠ n := fun e => by
   subst e
   obtain ⟨e, he, hb, heq⟩ := hwait oj hoj
   exact hno e he hb heq
  exact ZL32
def waitsB (md : Region.Mode) (ops : Array Oper) (n i : Nat) : Bool :=
 match ops[n]? with
 | some o => o.after.any fun e => Region.binds md e && e.on == i
 | none => true
theorem wpAnyT.take {i : Nat} {oi : Oper} {v : Value} {fuel : Nat} {listed : Array Bool} {a : Act} {w : World} (hi : ops[i]? = some oi) (hB : (decide (i ≠ n) && waitsB md ops n i && Region.noSelect ops && Region.free md ops listed i && (Region.ready md ops listed).contains i) = true)
 (hQ : ∀ c a w, Q (.panic c) (a.put oi.dst v) w → Q (.panic c) a w) (hy : YieldsIf P ops S oi v a) (hS : S w) (h : wpAnyT P md ops Q S n fuel (listed.setIfInBounds i true) (a.put oi.dst v) w) : wpAnyT P md ops Q S n (fuel + 1) listed a w := by
 simp only [Bool.and_eq_true, decide_eq_true_eq] at hB
 obtain ⟨⟨⟨⟨h1, h2⟩, h3⟩, h4⟩, h5⟩ := hB
 refine wpAnyT.first hi h1 (fun on hon => ?_) (Region.noSelect_spec h3) hQ fuel listed a w (Region.free_spec hi h4) (by simpa using h5) hy hS h
 unfold waitsB at h2
 rw [hon] at h2
 obtain ⟨e, he, hb⟩ := Array.any_eq_true'.1 h2
 rw [Bool.and_eq_true, beq_iff_eq] at hb
 exact ⟨e, he, hb⟩
theorem wpAnyT.tk (i : Nat) {oi : Oper} {v : Value} {fuel : Nat} {listed : Array Bool} {a : Act} {w : World} {q : Prop} (hi : ops[i]? = some oi) (k : q) (hB : (decide (i ≠ n) && waitsB md ops n i && Region.noSelect ops && Region.free md ops listed i && (Region.ready md ops listed).contains i) = true := by decide +kernel)
 (hQ : ∀ c a w, Q (.panic c) (a.put oi.dst v) w → Q (.panic c) a w := by exact fun _ _ _ h => h) (hy : YieldsIf P ops S oi v a := by (refine Or.inl ⟨by rfl, ?_⟩; intro w hSw; (try dsimp only at hSw); go_simp; try with_reducible rfl)) (hS : S w := by assumption) (h : q → wpAnyT P md ops Q S n fuel (listed.setIfInBounds i true) (a.put oi.dst v) w := by (intro hq; (try simp only [Act.put, List.setIfInBounds_toArray, List.set_cons_zero, List.set_cons_succ]); exact hq)) : wpAnyT P md ops Q S n (fuel + 1) listed a w :=
 wpAnyT.take hi hB hQ hy hS (h k)
theorem wpAnyT.one {i : Nat} {o : Oper} {fuel : Nat} {listed : Array Bool} {a : Act} {w : World} (ho : ops[i]? = some o) (hg : o.guard = none) (hB : (decide (i ≠ n) && decide (Region.ready md ops listed = [i])) = true)
 (h : ∀ K : Act → World → Prop, Hid (∀ a' w', S w' → (S w' → wpAnyT P md ops Q S n fuel (listed.setIfInBounds i true) a' w') → K a' w') → o.wp P a w K Q) : wpAnyT P md ops Q S n (fuel + 1) listed a w := by
 simp only [Bool.and_eq_true, decide_eq_true_eq] at hB
 refine ⟨(fun h0 => by rw [hB.2] at h0; cases h0), fun j hj => ?_⟩
 rw [hB.2, List.mem_singleton] at hj
 subst hj
 have hw : Region.wanted o (yielded ops a.tmps) = true := by simp [Region.wanted, hg]
 unfold wpOp
 simp only [ho, hw, if_true]
 exact Or.inl (h _ (Lib.hid fun a' w' hS hW => ⟨fun _ => hS, hW hS⟩))
theorem wpAnyT.on (i : Nat) {o : Oper} {fuel : Nat} {listed : Array Bool} {a : Act} {w : World} (ho : ops[i]? = some o)
 (h : ∀ K : Act → World → Prop, Hid (∀ a' w', S w' → (S w' → wpAnyT P md ops Q S n fuel (listed.setIfInBounds i true) a' w') → K a' w') → o.wp P a w K Q) (hg : o.guard = none := by rfl) (hB : (decide (i ≠ n) && decide (Region.ready md ops listed = [i])) = true := by kernel_rfl) : wpAnyT P md ops Q S n (fuel + 1) listed a w :=
 wpAnyT.one ho hg hB h
theorem wpAnyT.last {o : Oper} {fuel : Nat} {listed : Array Bool} {a : Act} {w : World} (ho : ops[n]? = some o) (hB : (decide (Region.ready md ops listed = [n]) && decide (Region.ready md ops (listed.setIfInBounds n true) = [])) = true)
 (h : wpList P ops Q [o] a w) : wpAnyT P md ops Q S n (fuel + 1) listed a w := by
 simp only [Bool.and_eq_true, decide_eq_true_eq] at hB
 refine ⟨(fun h0 => by rw [hB.1] at h0; cases h0), fun j hj => ?_⟩
 rw [hB.1, List.mem_singleton] at hj
 subst hj
 have hw : wpOp P ops Q j (wpList P ops Q []) a w := by
  unfold wpOp
  simp only [ho]
  exact h
 refine wpOp_mono (fun a' w' hK => ⟨fun e => absurd rfl e, ?_⟩) hw
 cases fuel with
 | zero => exact ⟨hB.2, hK⟩
 | succ fuel => exact ⟨fun _ => hK, fun i hi => by rw [hB.2] at hi; cases hi⟩
theorem wp_region_T {id : Nat} {a : Act} {w : World} (n : Nat) (S : World → Prop) (hm : P.follows .mixedOrders = true) (hS : S w.drew) (h : S w.drew → wpAnyT P .any ops Q S n ops.size (Array.replicate ops.size false) a w.drew) : (Code.region id ops true).wp P Q a w :=
 wp_region_any hm (wpAnyT.any _ _ _ _ (h hS))
end
section
variable {P : Program} {ops : Array Oper} {rest : List Oper} {o : Oper} {a : Act} {Q : Exit → Act → World → Prop}
theorem St.storeR {w W : World} {L L' : List Blk} {D : List Hl} (K : St w L D W) (hgd : o.guard = none) (hd : o.dst = none) (ty : TypeId) (x y : Operand) (ho : o.op = .store ty x y) (g i N : Nat) {v : Nat → Rw} {J : List Value} {t : TypeId} (z : Rw)
 (hx : a.eval x = .pointer (some ⟨g, i * 4, none⟩)) (hy : a.eval y = .agg #[.int .i64 z.s, .slice z.A z.n z.c, .int .i64 z.t, .slice z.B z.m z.d]) (hi : i < N) (hU : Upd g (rwA N v J) t (rwA N (putF v i z) J) L L') (hz : (P.info? ty).map (·.size) = some 4)
 (h : ∀ W', St w L' D W' → wpList P ops Q rest a W') : wpList P ops Q (o :: rest) a W :=
 K.store (off := i * 4) hgd hd ty x y ho _ hx hy z.cs rfl hU (rwA_spl hi z) hz (by rw [rwA_size]; show i * 4 + 4 ≤ _; omega) (fun u hu => by
  simp [Rw.cs] at hu
  rcases hu with rfl | rfl | rfl | rfl <;> rfl) h
end
end Go.Proofs.YtdlcglndhhndpaaGreat
