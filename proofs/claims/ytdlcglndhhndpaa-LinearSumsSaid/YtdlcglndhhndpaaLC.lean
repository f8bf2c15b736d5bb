
/- Contracts of package frac at numbers, as the elimination calls them; the matrix's state. Conditions stand in each theorem. -/
import Derived.Test.YtdlcglndhhndpaaLA
import Derived.Test.YtdlcglndhhndpaaLTk
namespace Go.Proofs.Ytdlcglndhhndpaa
open Go.RowKit
set_option linter.unusedVariables false
set_option linter.unusedSimpArgs false

theorem mulK_fits {x y : Rat} (h : mulK x y = true) : fitsF (x * y) = true := by
  unfold mulK at h
  rw [Bool.and_eq_true] at h
  rw [← rat_mul]
  exact divInt_fits (den_mul_pos x y) h.1 h.2
theorem divK_fits {x y : Rat} (h : divK x y = true) (hy : y ≠ 0) : fitsF (x / y) = true := by
  unfold divK at h
  rw [Bool.and_eq_true] at h
  rw [← rat_div]
  have h0 : y.num ≠ 0 := fun e => hy (Rat.num_eq_zero.1 e)
  by_cases hp : 0 < y.num
  · exact divInt_fits (Int.mul_pos (den_pos x) hp) h.1 h.2
  · rw [← Rat.neg_divInt_neg]
    exact divInt_fits (by have := Int.mul_pos (den_pos x) (show 0 < -y.num by omega); rw [Int.mul_neg] at this; exact this) (by rw [fits_neg]; exact h.1) (by rw [fits_neg]; exact h.2)
def divO1 (x y : Rat) : Option Rat := if divK x y = true then some (x / y) else none
def divE1 (x y : Rat) : Int := if divK x y = true then 0 else 6
def mulO1 (x y : Rat) : Option Rat := if mulK x y = true then some (x * y) else none
def mulE1 (x y : Rat) : Int := if mulK x y = true then 0 else 6
def subO1 (x : Rat) : Option Rat → Option Rat
  | none => none
  | some y => if addK x (-y) = true then some (x - y) else none
def subE1 (x : Rat) : Option Rat → Int
  | none => 1
  | some y => if addK x (-y) = true then 0 else 6
theorem OptF.zero {s : Int} {l : List Int} {t : Int} {m : List Int} (h : OptF s l t m none) : rightF s l t m = false := by
  obtain ⟨rfl, rfl, rfl, rfl⟩ := h
  decide +kernel
section
variable (x y : Rat) (s1 t1 s2 t2 : Int) (A1 B1 A2 B2 : Option Addr) (n1 c1 m1 d1 n2 c2 m2 d2 : Nat) (l1 k1 l2 k2 : List Int) (w : World) (r1 : RdI w w.heap.size A1 n1 c1 l1) (q1 : RdI w w.heap.size B1 m1 d1 k1) (r2 : RdI w w.heap.size A2 n2 c2 l2) (q2 : RdI w w.heap.size B2 m2 d2 k2)
variable (h1 : StdF s1 l1 t1 k1 x) (f1 : fitsF x = true)
include r1 q1 r2 q2 h1 f1
theorem qDiv (h2 : StdF s2 l2 t2 k2 y) (f2 : fitsF y = true) (hy : y ≠ 0) : Calls Try.prog 120 #[.agg #[.int .i64 s1, .slice A1 n1 c1, .int .i64 t1, .slice B1 m1 d1], .agg #[.int .i64 s2, .slice A2 n2 c2, .int .i64 t2, .slice B2 m2 d2]] w (FrE w (divO1 x y) (divE1 x y)) := by
  have h := fDiv_any s1 t1 s2 t2 A1 B1 A2 B2 n1 c1 m1 d1 n2 c2 m2 d2 l1 k1 l2 k2 w r1 q1 r2 q2
  rw [h1.right f1, h2.right f2, h1.rat, h2.rat] at h
  have e1 : divO (true && true) x y = divO1 x y := by
    unfold divO divO1 binO
    rw [if_neg hy]
    simp
  have e2 : divE (true && true) x y = divE1 x y := by
    unfold divE divE1 binE
    rw [if_neg (fun h => hy h.2)]
    simp
  rw [e1, e2] at h
  exact h
theorem qMul (h2 : StdF s2 l2 t2 k2 y) (f2 : fitsF y = true) : Calls Try.prog 36 #[.agg #[.int .i64 s1, .slice A1 n1 c1, .int .i64 t1, .slice B1 m1 d1], .agg #[.int .i64 s2, .slice A2 n2 c2, .int .i64 t2, .slice B2 m2 d2]] w (FrE w (mulO1 x y) (mulE1 x y)) := by
  have h := fMul_any s1 t1 s2 t2 A1 B1 A2 B2 n1 c1 m1 d1 n2 c2 m2 d2 l1 k1 l2 k2 w r1 q1 r2 q2
  rw [h1.right f1, h2.right f2, h1.rat, h2.rat] at h
  have e1 : binO (true && true) (mulK x y) (x * y) = mulO1 x y := by
    unfold mulO1 binO
    simp
  have e2 : binE (true && true) (mulK x y) = mulE1 x y := by
    unfold mulE1 binE
    simp
  rw [e1, e2] at h
  exact h
theorem qSub (o : Option Rat) (h2 : OptF s2 l2 t2 k2 o) (f2 : ∀ z, o = some z → fitsF z = true) : Calls Try.prog 50 #[.agg #[.int .i64 s1, .slice A1 n1 c1, .int .i64 t1, .slice B1 m1 d1], .agg #[.int .i64 s2, .slice A2 n2 c2, .int .i64 t2, .slice B2 m2 d2]] w (FrE w (subO1 x o) (subE1 x o)) := by
  have h := fSub_any s1 t1 s2 t2 A1 B1 A2 B2 n1 c1 m1 d1 n2 c2 m2 d2 l1 k1 l2 k2 w r1 q1 r2 q2
  cases o with
  | none =>
    rw [h1.right f1, h2.zero, Bool.and_false, binO_no, binE_no] at h
    exact h
  | some z =>
    have h2 : StdF s2 l2 t2 k2 z := h2
    rw [h1.right f1, h2.right (f2 z rfl), h1.rat, h2.rat] at h
    have e1 : binO (true && true) (addK x (-z)) (x - z) = subO1 x (some z) := by
      unfold subO1 binO
      simp
    have e2 : binE (true && true) (addK x (-z)) = subE1 x (some z) := by
      unfold subE1 binE
      simp
    rw [e1, e2] at h
    exact h
end
theorem mulO1_fits {x y z : Rat} (h : mulO1 x y = some z) : fitsF z = true := by
  unfold mulO1 at h
  split at h
  · rename_i hk
    cases h
    exact mulK_fits hk
  · cases h
theorem subE1_none (x : Rat) : subE1 x none = 1 := rfl
theorem subE1_some (x y : Rat) : subE1 x (some y) = if addK x (-y) = true then 0 else 6 := rfl
theorem subO1_none (x : Rat) : subO1 x none = none := rfl
theorem subO1_some (x y : Rat) : subO1 x (some y) = if addK x (-y) = true then some (x - y) else none := rfl
/-- one step of a row's reduction -/
def stepK (a f q : Rat) : Bool := mulK f q && addK a (-(f * q))
theorem step_bad (a f q : Rat) : ((mulE1 f q != 0) || (subE1 a (mulO1 f q) != 0)) = !stepK a f q := by
  unfold mulE1 mulO1 stepK
  generalize f * q = p
  generalize mulK f q = B
  cases B
  · rw [if_neg (by decide), if_neg (by decide), subE1_none]
    simp
  · rw [if_pos rfl, if_pos rfl, subE1_some]
    generalize addK a (-p) = C
    cases C <;> simp
theorem step_val {a f q : Rat} (h : stepK a f q = true) : subO1 a (mulO1 f q) = some (a - f * q) ∧ fitsF (a - f * q) = true := by
  unfold stepK at h
  rw [Bool.and_eq_true] at h
  unfold mulO1
  rw [if_pos h.1, subO1_some, if_pos h.2, Rat.sub_eq_add_neg]
  exact ⟨rfl, addK_fits h.2⟩
/-- is a right fraction 0 -/
theorem StdF.zero_iff {s : Int} {l : List Int} {t : Int} {m : List Int} {q : Rat} (h : StdF s l t m q) (hf : fitsF q = true) : (s == 0) = decide (q = 0) := by
  have := zero_rat (h.right hf)
  rw [h.rat] at this
  exact this
/-- the matrix's blocks, before those of the caller -/
abbrev Mm.L (M : Mm) (n mb hb hc : Nat) (h : Nat → Hd) (HJ : List Value) (b : Bool) (L0 : List Blk) : List Blk :=
  (mb, #[.slice (some ⟨hb, 0, none⟩) n hc, .int .i64 n, .bool b], 81) :: (hb, recA Hd.cs n h HJ, 23) :: (M.rows n ++ L0)
/-- its elements are these numbers -/
def Mm.good (M : Mm) (n : Nat) (m : Mx) : Prop := ∀ i k, i < n → k < M.N → StdF (M.V i k).s (M.V i k).l (M.V i k).t (M.V i k).k (m i k) ∧ fitsF (m i k) = true
def Mm.caps (M : Mm) (n : Nat) : Prop := M.N = n + 1 ∧ ∀ i, i < n → M.N ≤ M.cp i ∧ M.cp i ≤ 9223372036854775807
/-- a row's header, as it stands in the block of headers -/
theorem St.cellH {w W : World} {L : List Blk} {D : List Hl} {M : Mm} {n i g : Nat} {t : TypeId} {J : List Value} (K : St w L D W) (hi : i < n) (hb : ((g, recA Hd.cs n (M.hd n) J, t) : Blk) ∈ L) : W.cell? ⟨g, i, none⟩ = some (.slice (some ⟨M.rb i, 0, none⟩) M.N (M.cp i)) := (K.blk hb).cell (hdA_get hi)
theorem St.thaw {w W : World} {L : List Blk} {D : List Hl} {g : Nat} {cs : Array Value} {t : TypeId} (K : St w L D W) (hb : ((g, cs, t) : Blk) ∈ L) : ∀ j, W.frozen? ⟨g, j, none⟩ = false := fun j => (K.blk hb).thaw
/-- a header stored -/
theorem St.setH {w W : World} {L L' : List Blk} {D : List Hl} {n i g : Nat} {f : Nat → Hd} {t : TypeId} {J : List Value} (h : St w L D W) (x : Hd) (hi : i < n) (hU : Upd g (recA Hd.cs n f J) t (recA Hd.cs n (putF f i x) J) L L') : St w L' D (W.setCell ⟨g, i, none⟩ (.slice x.A x.n x.c)) := by
  refine h.upd hU (OnlyB.set W g _ _) ?_
  rw [← hdA_set hi x]
  exact (h.blk hU.mem).set (j := i) (.slice x.A x.n x.c)
/-- a fraction stored into a block of fractions -/
theorem St.setR {w W : World} {L L' : List Blk} {D : List Hl} {n i g : Nat} {v : Nat → Rw} {t : TypeId} {J : List Value} (h : St w L D W) (x : Rw) (hi : i < n) (hU : Upd g (rwA n v J) t (rwA n (putF v i x) J) L L') :
    St w L' D ((((W.setCell ⟨g, i * 4, none⟩ (.int .i64 x.s)).setCell ⟨g, i * 4 + 1, none⟩ (.slice x.A x.n x.c)).setCell ⟨g, i * 4 + 2, none⟩ (.int .i64 x.t)).setCell ⟨g, i * 4 + 3, none⟩ (.slice x.B x.m x.d)) := by
  refine h.upd hU ((((OnlyB.set W g _ _).trans (OnlyB.set _ g _ _)).trans (OnlyB.set _ g _ _)).trans (OnlyB.set _ g _ _)) ?_
  rw [← rwA_spl hi x]
  exact ((((h.blk hU.mem).set (j := i * 4) (.int .i64 x.s)).set (j := i * 4 + 1) (.slice x.A x.n x.c)).set (j := i * 4 + 2) (.int .i64 x.t)).set (j := i * 4 + 3) (.slice x.B x.m x.d)
/-- two rows exchanged, by their headers -/
theorem St.swapped {w W : World} {M : Mm} {n mb hb hc r a : Nat} {b : Bool} {HJ : List Value} {L0 : List Blk} {D : List Hl} (hr : r < n) (ha : a < n) (K : St w ((mb, #[.slice (some ⟨hb, 0, none⟩) n hc, .int .i64 n, .bool b], 81) :: (hb, recA Hd.cs n (M.hd n) HJ, 23) :: (M.rows n ++ L0)) (M.fam n :: D) W) :
    St w ((mb, #[.slice (some ⟨hb, 0, none⟩) n hc, .int .i64 n, .bool b], 81) :: (hb, recA Hd.cs n ((M.swp r a).hd n) HJ, 23) :: ((M.swp r a).rows n ++ L0)) ((M.swp r a).fam n :: D) ((W.setCell ⟨hb, r, none⟩ (.slice (some ⟨M.rb a, 0, none⟩) M.N (M.cp a))).setCell ⟨hb, a, none⟩ (.slice (some ⟨M.rb r, 0, none⟩) M.N (M.cp r))) := by
  have K2 := K.setH (i := r) (M.hd n a) hr (Upd.tail _ (Upd.head _))
  have K3 := K2.setH (i := a) (M.hd n r) ha (Upd.tail _ (Upd.head _))
  rw [Mm.swp_hd] at K3
  have K4 := K3.perm ((((Mm.swp_rows (M := M) hr ha).append_right L0).cons _).cons _)
  exact (K4.famSwp List.mem_cons_self hr ha).less (fun x hx => by
    rcases List.mem_cons.1 hx with rfl | hx
    · exact List.mem_cons_self
    · exact List.mem_cons_of_mem _ (List.mem_cons_of_mem _ hx))
/-- the same rows with other elements -/
def Mm.wV (M : Mm) (V : Nat → Nat → Rw) : Mm := { M with V := V }
def put2 (V : Nat → Nat → Rw) (r k : Nat) (x : Rw) : Nat → Nat → Rw := putF V r (putF (V r) k x)
theorem put2_at (V : Nat → Nat → Rw) (r k : Nat) (x : Rw) : put2 V r k x r k = x := by unfold put2; rw [putF_same, putF_same]
theorem put2_ne (V : Nat → Nat → Rw) {r k i j : Nat} (x : Rw) (h : ¬ (i = r ∧ j = k)) : put2 V r k x i j = V i j := by
  unfold put2
  by_cases e : i = r
  · subst e
    rw [putF_same, putF_other (fun e => h ⟨rfl, e⟩)]
  · rw [putF_other e]
section
variable {w W W' : World} {L L' L0 : List Blk} {D : List Hl} {M : Mm} {n r k : Nat} {V : Nat → Nat → Rw}
theorem Mm.memV (hr : r < n) : ((M.rb r, rwA M.N (V r) (M.J r), 40) : Blk) ∈ (M.wV V).rows n ++ L0 := Mm.mem (M := M.wV V) hr
theorem Mm.updV (hr : r < n) (x : Rw) : Upd (M.rb r) (rwA M.N (V r) (M.J r)) 40 (rwA M.N (putF (V r) k x) (M.J r)) ((M.wV V).rows n ++ L0) ((M.wV (put2 V r k x)).rows n ++ L0) := Mm.upd (M := M.wV V) hr x
theorem St.cellV (h : St w L D W) (hk : k < M.N) (hb : ((M.rb r, rwA M.N (V r) (M.J r), 40) : Blk) ∈ L) : W.cell? ⟨M.rb r, k * 4, none⟩ = some (.int .i64 (V r k).s) ∧ W.cell? ⟨M.rb r, k * 4 + 1, none⟩ = some (.slice (V r k).A (V r k).n (V r k).c) ∧ W.cell? ⟨M.rb r, k * 4 + 2, none⟩ = some (.int .i64 (V r k).t) ∧ W.cell? ⟨M.rb r, k * 4 + 3, none⟩ = some (.slice (V r k).B (V r k).m (V r k).d) := by
  have hB := h.blk hb
  exact ⟨hB.cell (rwA_get (j := 0) hk (by omega)), hB.cell (rwA_get (j := 1) hk (by omega)), hB.cell (rwA_get (j := 2) hk (by omega)), hB.cell (rwA_get (j := 3) hk (by omega))⟩
theorem St.famRdV (K : St w L D W) (hm : (M.wV V).fam n ∈ D) {i j : Nat} (hi : i < n) (hj : j < M.N) : St w L (⟨rdP (V i j).B (V i j).m (V i j).d (V i j).k, rdS (V i j).B (V i j).m⟩ :: ⟨rdP (V i j).A (V i j).n (V i j).c (V i j).l, rdS (V i j).A (V i j).n⟩ :: D) W := St.famRd (M := M.wV V) K hm hi hj
theorem St.famPutV (K : St w L D W) (hm : (M.wV V).fam n ∈ D) (x : Rw) (m2 : (⟨rdP x.A x.n x.c x.l, rdS x.A x.n⟩ : Hl) ∈ D) (m3 : (⟨rdP x.B x.m x.d x.k, rdS x.B x.m⟩ : Hl) ∈ D) (r k : Nat) : St w L ((M.wV (put2 V r k x)).fam n :: D) W := St.famPut (M := M.wV V) K hm x m2 m3 r k
end
theorem Mm.good.swp {M : Mm} {n a b : Nat} {m : Mx} (h : M.good n m) (ha : a < n) (hb : b < n) : (M.swp a b).good n (swpM m a b) := fun i k hi hk => by
  rw [swpM_sw]
  exact h (sw a b i) k (sw_lt ha hb hi) hk
theorem findP_is {m : Mx} {c : Nat} : ∀ (f r a : Nat), r ≤ a → a ≤ r + f → (∀ i, r ≤ i → i < a → m i c = 0) → (a < r + f → m a c ≠ 0) → findP m c f r = a
  | 0, r, a, h1, h2, h3, h4 => by rw [findP]; omega
  | f + 1, r, a, h1, h2, h3, h4 => by
    rw [findP]
    by_cases e : r = a
    · subst e
      rw [if_neg (h4 (by omega))]
    · rw [if_pos (h3 r (Nat.le_refl _) (by omega))]
      exact findP_is f (r + 1) a (by omega) (by omega) (fun i g1 g2 => h3 i (by omega) g2) (fun h => h4 (by omega))
end Go.Proofs.Ytdlcglndhhndpaa
