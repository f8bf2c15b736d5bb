/- Laws and walks laid together; the conditions stand in each theorem. -/
import Derived.Test.YtdlcglndhhndpaaT09
set_option linter.unusedSimpArgs false
set_option linter.unusedVariables false
namespace Go.Proofs.Ytdlcglndhhndpaa
open Go.RowKit
theorem smQ_single {f : Nat → Rat} {n a : Nat} (ha : a < n) (h : ∀ k, k < n → k ≠ a → f k = 0) : smQ f n = f a := by
  rw [smQ_one (f := fun _ => 0) (g := f) (c := f a) ha (by grind) h, smQ_const]
  grind
def cntB (fr : Nat → Bool) : Nat → Nat
  | 0 => 0
  | n + 1 => cntB fr n + if fr n = true then 1 else 0
structure Stair (n c r : Nat) (m : Mx) (free : List Nat) (p : Nat → Nat) (fr : Nat → Bool) : Prop where
  piv : ∀ j, j < c → fr j = false → p j < r ∧ ∀ i, i < n → m i j = if i = p j then 1 else 0
  fre : ∀ j, j < c → fr j = true → p j ≤ r ∧ ∀ i, p j ≤ i → i < n → m i j = 0
  mono : ∀ j k, j < k → k < c → p j ≤ p k ∧ (fr j = false → p j < p k)
  sur : ∀ i, i < r → ∃ j, j < c ∧ fr j = false ∧ p j = i
  len : free.length = cntB fr c
  cnt : r + free.length = c
theorem Stair.start (n : Nat) (m : Mx) : Stair n 0 0 m [] (fun _ => 0) (fun _ => false) :=
  ⟨fun j h => absurd h (by omega), fun j h => absurd h (by omega), fun j k _ h => absurd h (by omega), fun i h => absurd h (by omega), rfl, rfl⟩
section
variable {n c r : Nat} {m : Mx} {free : List Nat} {p : Nat → Nat} {fr : Nat → Bool}
end
def LeftN (n : Nat) (m : Mx) : Prop := ∃ y : Nat → Rat, (∃ i, i < n ∧ y i ≠ 0) ∧ ∀ k, k < n → smQ (fun i => y i * m i k) n = 0
theorem smQ_sw (f : Nat → Rat) {n a b : Nat} (ha : a < n) (hb : b < n) : smQ (fun i => f (sw a b i)) n = smQ f n := by
  by_cases e : a = b
  · refine smQ_congr fun i _ => ?_
    subst e
    unfold sw
    by_cases e2 : i = a
    · rw [if_pos e2, e2]
    · rw [if_neg e2, if_neg e2]
  · have h1 : smQ (fun i => if i = a then f b else f i) n = smQ f n + (f b - f a) := smQ_one ha (by rw [if_pos rfl]; grind) (fun i _ hne => if_neg hne)
    rw [smQ_one (f := fun i => if i = a then f b else f i) (b := b) (c := f a - f b) hb (by
      unfold sw
      rw [if_neg (fun h => e h.symm), if_pos rfl, if_neg (fun h => e h.symm)]
      grind) (fun i _ hne => by
      unfold sw
      by_cases e2 : i = a
      · rw [if_pos e2, if_pos e2]
      · rw [if_neg e2, if_neg hne, if_neg e2]), h1]
    grind
theorem swpM_sw (m : Mx) (a b i : Nat) : swpM m a b i = m (sw a b i) := by
  unfold swpM sw
  split
  · rfl
  · split <;> rfl
theorem LeftN.swap {n a b : Nat} {m : Mx} (ha : a < n) (hb : b < n) (h : LeftN n m) : LeftN n (swpM m a b) := by
  obtain ⟨y, ⟨i, hi, h0⟩, hy⟩ := h
  have hss : ∀ i, sw a b (sw a b i) = i := fun i => by
    unfold sw
    by_cases e1 : i = a
    · rw [if_pos e1]
      by_cases e2 : b = a
      · rw [if_pos e2, e2, e1]
      · rw [if_neg e2, if_pos rfl, e1]
    · rw [if_neg e1]
      by_cases e2 : i = b
      · rw [if_pos e2, if_pos rfl, e2]
      · rw [if_neg e2, if_neg e1, if_neg e2]
  refine ⟨fun i => y (sw a b i), ⟨sw a b i, sw_lt ha hb hi, by show y (sw a b (sw a b i)) ≠ 0; rw [hss]; exact h0⟩, fun k hk => ?_⟩
  rw [← hy k hk, ← smQ_sw (fun i => y i * m i k) ha hb]
  exact smQ_congr fun i _ => by rw [swpM_sw]
theorem LeftN.piv {n r c : Nat} {m : Mx} (hr : r < n) (hc : c < n) (h0 : m r c ≠ 0) (h : LeftN n m) : LeftN n (pivM m r c) := by
  obtain ⟨y, ⟨i, hi, hy0⟩, hy⟩ := h
  have hT := hy c hc
  refine ⟨fun i => if i = r then 0 else y i, ?_, fun k hk => ?_⟩
  · by_cases hex : ∃ j, j < n ∧ j ≠ r ∧ y j ≠ 0
    · obtain ⟨j, h1, h2, h3⟩ := hex
      exact ⟨j, h1, by show (if j = r then 0 else y j) ≠ 0; rw [if_neg h2]; exact h3⟩
    · exfalso
      have hz : ∀ j, j < n → j ≠ r → y j = 0 := fun j h1 h2 => by
        by_cases e : y j = 0
        · exact e
        · exact absurd ⟨j, h1, h2, e⟩ hex
      rw [smQ_single hr (fun k hk hne => by rw [hz k hk hne]; grind)] at hT
      have hyr : y r = 0 := by grind
      apply hy0
      by_cases e : i = r
      · rw [e]; exact hyr
      · exact hz i hi e
  · have h1 : smQ (fun i => (if i = r then 0 else y i) * pivM m r c i k) n = smQ (fun i => y i * m i k - m r k / m r c * (y i * m i c)) n := smQ_congr fun i hi => by
      unfold pivM
      by_cases e : i = r
      · rw [if_pos e, if_pos e, e]
        grind
      · rw [if_neg e, if_neg e]
        grind
    have h2 : ∀ (s : Rat) (f g : Nat → Rat) (n : Nat), smQ (fun i => f i - s * g i) n = smQ f n - s * smQ g n := fun s f g n => by
      induction n with
      | zero => rw [smQ, smQ, smQ]; grind
      | succ n ih => rw [smQ, smQ, smQ, ih]; grind
    rw [h1, h2 (m r k / m r c) (fun i => y i * m i k) (fun i => y i * m i c) n, hy k hk, hT]
    grind
end Go.Proofs.Ytdlcglndhhndpaa
namespace Go.Proofs.Ytdlcglndhhndpaa
open Go.RowKit
def Pt (k : Nat) (q : Rat) : Prop := (q.num.natAbs : Int) < pw k ∧ (q.den : Int) < pw k
theorem Pt.mono {j k : Nat} {q : Rat} (h : Pt j q) (hjk : j ≤ k) : Pt k q := by
  have := pw_le hjk
  exact ⟨by have := h.1; omega, by have := h.2; omega⟩
theorem parts_le {x y : Int} (hy : 0 < y) : ((Rat.divInt x y).num.natAbs : Int) ≤ x.natAbs ∧ ((Rat.divInt x y).den : Int) ≤ y := by
  obtain ⟨e1, e2⟩ := divInt_parts (x := x) hy
  refine ⟨?_, ?_⟩
  · rw [e1, Int.natAbs_ediv_of_dvd (Int.gcd_dvd_left ..)]
    have := Nat.div_le_self x.natAbs (Int.gcd x y : Int).natAbs
    omega
  · rw [e2]
    exact Int.ediv_le_self _ (by omega)
theorem Pt.mul {j k : Nat} {x y : Rat} (hx : Pt j x) (hy : Pt k y) (hjk : j + k ≤ 60) : mulK x y = true ∧ Pt (j + k) (x * y) := by
  have m1 : ((x.num * y.num).natAbs : Int) < pw (j + k) := pw_mul_lt hx.1 hy.1
  have m2 : (((x.den : Int) * (y.den : Int)).natAbs : Int) < pw (j + k) := pw_mul_lt (x := (x.den : Int)) (y := (y.den : Int)) (by have := hx.2; omega) (by have := hy.2; omega)
  have hdp := den_mul_pos x y
  have h := parts_le (x := x.num * y.num) hdp
  rw [rat_mul] at h
  refine ⟨?_, ?_, ?_⟩
  · unfold mulK
    rw [fits_lt m1 hjk, fits_lt m2 hjk]
    rfl
  · omega
  · have := h.2
    omega
theorem Pt.add {j k : Nat} {x y : Rat} (hx : Pt j x) (hy : Pt k y) (hjk : j + k + 1 ≤ 60) : addK x y = true ∧ Pt (j + k + 1) (x + y) := by
  have m1 : ((x.num * (y.den : Int)).natAbs : Int) < pw (j + k) := pw_mul_lt hx.1 (y := (y.den : Int)) (by have := hy.2; omega)
  have m2 : ((y.num * (x.den : Int)).natAbs : Int) < pw (j + k) := by
    rw [Nat.add_comm]
    exact pw_mul_lt hy.1 (y := (x.den : Int)) (by have := hx.2; omega)
  have m3 : (((x.den : Int) * (y.den : Int)).natAbs : Int) < pw (j + k) := pw_mul_lt (x := (x.den : Int)) (y := (y.den : Int)) (by have := hx.2; omega) (by have := hy.2; omega)
  have hdp := den_mul_pos x y
  have hp : pw (j + k + 1) = 1048576 * pw (j + k) := rfl
  have h := parts_le (x := x.num * y.den + y.num * x.den) hdp
  rw [rat_add] at h
  have m4 : ((x.num * (y.den : Int) + y.num * (x.den : Int)).natAbs : Int) < pw (j + k + 1) := by omega
  refine ⟨?_, ?_, ?_⟩
  · unfold addK sumK
    rw [fits_lt m1 (by omega), fits_lt m2 (by omega), fits_lt m3 (by omega), fits_lt m4 hjk]
    rfl
  · omega
  · have := h.2
    omega
theorem Pt.zero : Pt 1 0 := by
  refine ⟨?_, ?_⟩ <;> decide +kernel
end Go.Proofs.Ytdlcglndhhndpaa
namespace Go.Proofs.Ytdlcglndhhndpaa
open Go.RowKit
theorem Pt.one : Pt 1 1 := by
  refine ⟨?_, ?_⟩ <;> decide +kernel
theorem Pt.neg {j : Nat} {q : Rat} (h : Pt j q) : Pt j (-q) := by
  unfold Pt
  rw [Rat.neg_num, Rat.neg_den, Int.natAbs_neg]
  exact h
end Go.Proofs.Ytdlcglndhhndpaa
namespace Go.Proofs.Ytdlcglndhhndpaa
open Go.RowKit
theorem mulK_fits {x y : Rat} (h : mulK x y = true) : fitsF (x * y) = true := by
  unfold mulK at h
  rw [Bool.and_eq_true] at h
  rw [← rat_mul]
  exact divInt_fits (den_mul_pos x y) h.1 h.2
theorem divK_fits {x y : Rat} (h : divK x y = true) (hy : y ≠ 0) : fitsF (x / y) = true := by
  unfold divK at h
  rw [Bool.and_eq_true] at h
  rw [← rat_div]
  have h0 : y.num ≠ 0 := fun e => hy (Rat.num_eq_zero.1 e)
  by_cases hp : 0 < y.num
  · exact divInt_fits (Int.mul_pos (den_pos x) hp) h.1 h.2
  · rw [← Rat.neg_divInt_neg]
    exact divInt_fits (by have := Int.mul_pos (den_pos x) (show 0 < -y.num by omega); rw [Int.mul_neg] at this; exact this) (by rw [fits_neg]; exact h.1) (by rw [fits_neg]; exact h.2)
def divO1 (x y : Rat) : Option Rat := if divK x y = true then some (x / y) else none
def divE1 (x y : Rat) : Int := if divK x y = true then 0 else 6
def mulO1 (x y : Rat) : Option Rat := if mulK x y = true then some (x * y) else none
def mulE1 (x y : Rat) : Int := if mulK x y = true then 0 else 6
def subO1 (x : Rat) : Option Rat → Option Rat
  | none => none
  | some y => if addK x (-y) = true then some (x - y) else none
def subE1 (x : Rat) : Option Rat → Int
  | none => 1
  | some y => if addK x (-y) = true then 0 else 6
theorem OptF.zero {s : Int} {l : List Int} {t : Int} {m : List Int} (h : OptF s l t m none) : rightF s l t m = false := by
  obtain ⟨rfl, rfl, rfl, rfl⟩ := h
  decide +kernel
section
variable (x y : Rat) (s1 t1 s2 t2 : Int) (A1 B1 A2 B2 : Option Addr) (n1 c1 m1 d1 n2 c2 m2 d2 : Nat) (l1 k1 l2 k2 : List Int) (w : World) (r1 : RdI w w.heap.size A1 n1 c1 l1) (q1 : RdI w w.heap.size B1 m1 d1 k1) (r2 : RdI w w.heap.size A2 n2 c2 l2) (q2 : RdI w w.heap.size B2 m2 d2 k2)
variable (h1 : StdF s1 l1 t1 k1 x) (f1 : fitsF x = true)
include r1 q1 r2 q2 h1 f1
theorem qDiv (h2 : StdF s2 l2 t2 k2 y) (f2 : fitsF y = true) (hy : y ≠ 0) : Calls Try.prog 120 #[.agg #[.int .i64 s1, .slice A1 n1 c1, .int .i64 t1, .slice B1 m1 d1], .agg #[.int .i64 s2, .slice A2 n2 c2, .int .i64 t2, .slice B2 m2 d2]] w (FrE w (divO1 x y) (divE1 x y)) := by
  have h := fDiv_any s1 t1 s2 t2 A1 B1 A2 B2 n1 c1 m1 d1 n2 c2 m2 d2 l1 k1 l2 k2 w r1 q1 r2 q2
  rw [h1.right f1, h2.right f2, h1.rat, h2.rat] at h
  have e1 : divO (true && true) x y = divO1 x y := by
    unfold divO divO1 binO
    rw [if_neg hy]
    simp
  have e2 : divE (true && true) x y = divE1 x y := by
    unfold divE divE1 binE
    rw [if_neg (fun h => hy h.2)]
    simp
  rw [e1, e2] at h
  exact h
theorem qMul (h2 : StdF s2 l2 t2 k2 y) (f2 : fitsF y = true) : Calls Try.prog 36 #[.agg #[.int .i64 s1, .slice A1 n1 c1, .int .i64 t1, .slice B1 m1 d1], .agg #[.int .i64 s2, .slice A2 n2 c2, .int .i64 t2, .slice B2 m2 d2]] w (FrE w (mulO1 x y) (mulE1 x y)) := by
  have h := fMul_any s1 t1 s2 t2 A1 B1 A2 B2 n1 c1 m1 d1 n2 c2 m2 d2 l1 k1 l2 k2 w r1 q1 r2 q2
  rw [h1.right f1, h2.right f2, h1.rat, h2.rat] at h
  have e1 : binO (true && true) (mulK x y) (x * y) = mulO1 x y := by
    unfold mulO1 binO
    simp
  have e2 : binE (true && true) (mulK x y) = mulE1 x y := by
    unfold mulE1 binE
    simp
  rw [e1, e2] at h
  exact h
theorem qSub (o : Option Rat) (h2 : OptF s2 l2 t2 k2 o) (f2 : ∀ z, o = some z → fitsF z = true) : Calls Try.prog 50 #[.agg #[.int .i64 s1, .slice A1 n1 c1, .int .i64 t1, .slice B1 m1 d1], .agg #[.int .i64 s2, .slice A2 n2 c2, .int .i64 t2, .slice B2 m2 d2]] w (FrE w (subO1 x o) (subE1 x o)) := by
  have h := fSub_any s1 t1 s2 t2 A1 B1 A2 B2 n1 c1 m1 d1 n2 c2 m2 d2 l1 k1 l2 k2 w r1 q1 r2 q2
  cases o with
  | none =>
    rw [h1.right f1, h2.zero, Bool.and_false, binO_no, binE_no] at h
    exact h
  | some z =>
    have h2 : StdF s2 l2 t2 k2 z := h2
    rw [h1.right f1, h2.right (f2 z rfl), h1.rat, h2.rat] at h
    have e1 : binO (true && true) (addK x (-z)) (x - z) = subO1 x (some z) := by
      unfold subO1 binO
      simp
    have e2 : binE (true && true) (addK x (-z)) = subE1 x (some z) := by
      unfold subE1 binE
      simp
    rw [e1, e2] at h
    exact h
end
theorem subE1_some (x y : Rat) : subE1 x (some y) = if addK x (-y) = true then 0 else 6 := rfl
theorem subO1_some (x y : Rat) : subO1 x (some y) = if addK x (-y) = true then some (x - y) else none := rfl
def stepK (a f q : Rat) : Bool := mulK f q && addK a (-(f * q))
abbrev Mm.L (M : Mm) (n mb hb hc : Nat) (h : Nat → Hd) (HJ : List Value) (b : Bool) (L0 : List Blk) : List Blk :=
  (mb, #[.slice (some ⟨hb, 0, none⟩) n hc, .int .i64 n, .bool b], 81) :: (hb, recA Hd.cs n h HJ, 23) :: (M.rows n ++ L0)
def Mm.good (M : Mm) (n : Nat) (m : Mx) : Prop := ∀ i k, i < n → k < M.N → StdF (M.V i k).s (M.V i k).l (M.V i k).t (M.V i k).k (m i k) ∧ fitsF (m i k) = true
def Mm.caps (M : Mm) (n : Nat) : Prop := M.N = n + 1 ∧ ∀ i, i < n → M.N ≤ M.cp i ∧ M.cp i ≤ 9223372036854775807
theorem St.thaw {w W : World} {L : List Blk} {D : List Hl} {g : Nat} {cs : Array Value} {t : TypeId} (K : St w L D W) (hb : ((g, cs, t) : Blk) ∈ L) : ∀ j, W.frozen? ⟨g, j, none⟩ = false := fun j => (K.blk hb).thaw
theorem St.setR {w W : World} {L L' : List Blk} {D : List Hl} {n i g : Nat} {v : Nat → Rw} {t : TypeId} {J : List Value} (h : St w L D W) (x : Rw) (hi : i < n) (hU : Upd g (rwA n v J) t (rwA n (putF v i x) J) L L') :
    St w L' D ((((W.setCell ⟨g, i * 4, none⟩ (.int .i64 x.s)).setCell ⟨g, i * 4 + 1, none⟩ (.slice x.A x.n x.c)).setCell ⟨g, i * 4 + 2, none⟩ (.int .i64 x.t)).setCell ⟨g, i * 4 + 3, none⟩ (.slice x.B x.m x.d)) := by
  refine h.upd hU ((((OnlyB.set W g _ _).trans (OnlyB.set _ g _ _)).trans (OnlyB.set _ g _ _)).trans (OnlyB.set _ g _ _)) ?_
  rw [← rwA_spl hi x]
  exact ((((h.blk hU.mem).set (j := i * 4) (.int .i64 x.s)).set (j := i * 4 + 1) (.slice x.A x.n x.c)).set (j := i * 4 + 2) (.int .i64 x.t)).set (j := i * 4 + 3) (.slice x.B x.m x.d)
def Mm.wV (M : Mm) (V : Nat → Nat → Rw) : Mm := { M with V := V }
def put2 (V : Nat → Nat → Rw) (r k : Nat) (x : Rw) : Nat → Nat → Rw := putF V r (putF (V r) k x)
theorem put2_at (V : Nat → Nat → Rw) (r k : Nat) (x : Rw) : put2 V r k x r k = x := by unfold put2; rw [putF_same, putF_same]
theorem put2_ne (V : Nat → Nat → Rw) {r k i j : Nat} (x : Rw) (h : ¬ (i = r ∧ j = k)) : put2 V r k x i j = V i j := by
  unfold put2
  by_cases e : i = r
  · subst e
    rw [putF_same, putF_other (fun e => h ⟨rfl, e⟩)]
  · rw [putF_other e]
section
variable {w W W' : World} {L L' L0 : List Blk} {D : List Hl} {M : Mm} {n r k : Nat} {V : Nat → Nat → Rw}
theorem Mm.memV (hr : r < n) : ((M.rb r, rwA M.N (V r) (M.J r), 40) : Blk) ∈ (M.wV V).rows n ++ L0 := Mm.mem (M := M.wV V) hr
theorem Mm.updV (hr : r < n) (x : Rw) : Upd (M.rb r) (rwA M.N (V r) (M.J r)) 40 (rwA M.N (putF (V r) k x) (M.J r)) ((M.wV V).rows n ++ L0) ((M.wV (put2 V r k x)).rows n ++ L0) := Mm.upd (M := M.wV V) hr x
theorem St.cellV (h : St w L D W) (hk : k < M.N) (hb : ((M.rb r, rwA M.N (V r) (M.J r), 40) : Blk) ∈ L) : W.cell? ⟨M.rb r, k * 4, none⟩ = some (.int .i64 (V r k).s) ∧ W.cell? ⟨M.rb r, k * 4 + 1, none⟩ = some (.slice (V r k).A (V r k).n (V r k).c) ∧ W.cell? ⟨M.rb r, k * 4 + 2, none⟩ = some (.int .i64 (V r k).t) ∧ W.cell? ⟨M.rb r, k * 4 + 3, none⟩ = some (.slice (V r k).B (V r k).m (V r k).d) := by
  have hB := h.blk hb
  exact ⟨hB.cell (rwA_get (j := 0) hk (by omega)), hB.cell (rwA_get (j := 1) hk (by omega)), hB.cell (rwA_get (j := 2) hk (by omega)), hB.cell (rwA_get (j := 3) hk (by omega))⟩
theorem St.famRdV (K : St w L D W) (hm : (M.wV V).fam n ∈ D) {i j : Nat} (hi : i < n) (hj : j < M.N) : St w L (⟨rdP (V i j).B (V i j).m (V i j).d (V i j).k, rdS (V i j).B (V i j).m⟩ :: ⟨rdP (V i j).A (V i j).n (V i j).c (V i j).l, rdS (V i j).A (V i j).n⟩ :: D) W := St.famRd (M := M.wV V) K hm hi hj
theorem St.famPutV (K : St w L D W) (hm : (M.wV V).fam n ∈ D) (x : Rw) (m2 : (⟨rdP x.A x.n x.c x.l, rdS x.A x.n⟩ : Hl) ∈ D) (m3 : (⟨rdP x.B x.m x.d x.k, rdS x.B x.m⟩ : Hl) ∈ D) (r k : Nat) : St w L ((M.wV (put2 V r k x)).fam n :: D) W := St.famPut (M := M.wV V) K hm x m2 m3 r k
end
end Go.Proofs.Ytdlcglndhhndpaa
namespace Go.Proofs.Ytdlcglndhhndpaa
open Go.RowKit
set_option maxRecDepth 100000 in
set_option maxHeartbeats 1000000 in
theorem pnumber_any (p : Int) (w : World) (hp : -9223372036854775808 ≤ p ∧ p ≤ 9223372036854775807) :
    Calls Try.prog 100 #[.int .i64 p] w (FrV w (p : Rat)) := by
  have K := St.start w
  have r := K.raw
  have h := fun W => fOf_any p 1 W hp (by decide)
  rw [newO_yes (by decide), newE_yes (by decide), divInt_1] at h
  have HO := Lib.hid h
  clear h hp
  generalize ((p : Int) : Rat) = z at *
  go_enter Try.func100, Try.ntmps100
  go_wp2_with (first | (refine ZAL ?_; clear K r; intro W b K r) | (refine ZST ?_; clear K r; intro W K r))
  refine (HO.out _).mono ?_
  rintro e W' ⟨s7, A7, n7, c7, l7, t7, B7, m7, d7, k7, rfl, ⟨hra, hrb⟩, ho, ⟨hfa, hfb⟩, hb⟩
  have hf7 := Lib.hid (hfa.mono K.1.size)
  have hg7 := Lib.hid (hfb.mono K.1.size)
  replace K := K.retF hb hra hrb hfa hfb
  clear r
  have r := K.rawS
  clear hra hrb hfa hfb hb
  go_wp2_with (first | (refine ZAL ?_; clear K r; intro W b K r) | (refine ZST ?_; clear K r; intro W K r))
  have HE := Lib.hid (⟨s7, A7, n7, c7, l7, t7, B7, m7, d7, k7, rfl, ⟨ZRD, ZRD⟩, ho, ⟨hf7.out, hg7.out⟩, K.1⟩ : FrV w z (.returned (.agg #[.int .i64 s7, .slice A7 n7 c7, .int .i64 t7, .slice B7 m7 d7])) W)
  clear ho
  exact bodyPost_ret (v := .agg #[.int .i64 s7, .slice A7 n7 c7, .int .i64 t7, .slice B7 m7 d7]) (by simp [results, Try.results100, go_sem, r]) rfl HE.out
theorem pzero_any (w : World) : Calls Try.prog 100 #[.int .i64 0] w (FrV w 0) := by
  have h := pnumber_any 0 w (by decide)
  rw [Rat.intCast_zero] at h
  exact h
def FrS (w0 : World) (L : List Blk) (D : List Hl) (g : Rat → Prop) (e : Ending) (W' : World) : Prop :=
  ∃ s A n c l t B m d k z, e = .returned (.agg #[.int .i64 s, .slice A n c, .int .i64 t, .slice B m d]) ∧ (StdF s l t k z ∧ fitsF z = true) ∧ g z ∧ St w0 L (⟨rdP B m d k, rdS B m⟩ :: ⟨rdP A n c l, rdS A n⟩ :: D) W'
theorem Upd.mid {b : Nat} {cs cs' : Array Value} {t : TypeId} {L L' : List Blk} (cs1 : Array Value) (h : Upd b cs t cs' L L') : ∃ L1, Upd b cs t cs1 L L1 ∧ Upd b cs1 t cs' L1 L' := by
  induction h with
  | head L => exact ⟨_, .head L, .head L⟩
  | tail x h ih =>
    obtain ⟨L1, h1, h2⟩ := ih
    exact ⟨_, .tail x h1, .tail x h2⟩
theorem bool_put {b b' : Bool} {R : List Value} : (Value.bool b :: R).toArray.setIfInBounds 0 (.bool b') = (Value.bool b' :: R).toArray := by simp
theorem bool_fit {b : Bool} {R : List Value} : 0 < (Value.bool b :: R).toArray.size := by simp
set_option maxRecDepth 100000 in
set_option maxHeartbeats 1000000 in
theorem got_any (w0 W : World) (L L' : List Blk) (D : List Hl) (mb : Nat) (b b' : Bool) (R : List Value) (T : TypeId) (er : Int) (s t : Int) (A1 B1 : Option Addr) (n1 c1 m1 d1 : Nat) (l1 k1 : List Int) (q : Rat)
    (K : St w0 L (⟨rdP B1 m1 d1 k1, rdS B1 m1⟩ :: ⟨rdP A1 n1 c1 l1, rdS A1 n1⟩ :: D) W) (hq : er = 0 → StdF s l1 t k1 q ∧ fitsF q = true) (hb : b' = (b || er != 0)) (hU : Upd mb (Value.bool b :: R).toArray T (Value.bool b' :: R).toArray L L') :
    Calls Try.prog 107 #[.pointer (some ⟨mb, 0, none⟩), .agg #[.int .i64 s, .slice A1 n1 c1, .int .i64 t, .slice B1 m1 d1], .int .i64 er] W (FrS w0 L' D fun z => er = 0 → z = q) := by
  have HU := Lib.hid hU
  have HZ := Lib.hid pzero_any
  have r := K.raw
  clear hU
  subst hb
  obtain ⟨G, hG⟩ : ∃ G : Rat → Prop, (fun z => er = 0 → z = q) = G := ⟨_, rfl⟩
  have g1 : er = 0 → G q := fun _ => by rw [← hG]; exact fun _ => rfl
  have g2 : er ≠ 0 → ∀ z, G z := fun h z => by rw [← hG]; exact fun e => absurd e h
  rw [hG]
  clear hG
  by_cases h0 : er = 0
  · subst h0
    have HG := Lib.hid (g1 rfl)
    clear g1 g2
    have HQ := Lib.hid (hq rfl)
    have hu : Upd mb (Value.bool b :: R).toArray T (Value.bool b :: R).toArray L L' := by
      have := HU.out
      simpa using this
    have hL : L' = L := by
      clear HU HZ r K
      revert hu
      generalize (Value.bool b :: R).toArray = cs
      intro hu
      induction hu with
      | head L => rfl
      | tail x h ih => rw [ih]
    subst hL
    clear hq HU hu
    go_enter Try.func107, Try.ntmps107
    go_wp2_with (first | ((first | (apply K.alloc; rfl; rfl; exact frac_zero) | (apply K.box; rfl; rfl; rfl)); clear K r; intro W b K; have r := K.rawS) | (apply K.storeA; rfl; rfl; rfl; rfl; rfl; (exact ZUP); exact frac_size; rfl; rfl; rfl; clear K r; intro W K; have r := K.rawS) | (apply K.storeB; rfl; rfl; rfl; rfl; rfl; (repeat (with_reducible apply Upd.tail)); exact HU.out; exact bool_put; exact bool_size; exact bool_fit; clear K r; intro W K; have r := K.rawS))
    have HE := Lib.hid (⟨s, A1, n1, c1, l1, t, B1, m1, d1, k1, q, rfl, HQ.out, HG.out, K.part (List.sublist_append_right [_, _] L')⟩ : FrS w0 L' D G (.returned (.agg #[.int .i64 s, .slice A1 n1 c1, .int .i64 t, .slice B1 m1 d1])) _)
    exact bodyPost_ret (v := .agg #[.int .i64 s, .slice A1 n1 c1, .int .i64 t, .slice B1 m1 d1]) (by simp [results, Try.results107, go_sem, r]) rfl HE.out
  · have hx : (er != 0) = true := by simpa using h0
    have HG := Lib.hid (g2 h0)
    clear g1 g2
    rw [hx, Bool.or_true] at HU
    clear hq h0
    go_enter Try.func107, Try.ntmps107
    go_wp2_with (first | ((first | (apply K.alloc; rfl; rfl; exact frac_zero) | (apply K.box; rfl; rfl; rfl)); clear K r; intro W b K; have r := K.rawS) | (apply K.storeA; rfl; rfl; rfl; rfl; rfl; (exact ZUP); exact frac_size; rfl; rfl; rfl; clear K r; intro W K; have r := K.rawS) | (apply K.storeB; rfl; rfl; rfl; rfl; rfl; (repeat (with_reducible apply Upd.tail)); exact HU.out; exact bool_put; exact bool_size; exact bool_fit; clear K r; intro W K; have r := K.rawS))
    refine (HZ.out _).mono ?_
    rintro e W' ⟨s7, A7, n7, c7, l7, t7, B7, m7, d7, k7, rfl, ⟨hra, hrb⟩, ho, ⟨hfa, hfb⟩, hb⟩
    have hf7 := Lib.hid (hfa.mono K.1.size)
    have hg7 := Lib.hid (hfb.mono K.1.size)
    replace K := K.retF hb hra hrb hfa hfb
    clear r
    have r := K.rawS
    clear hra hrb hfa hfb hb
    clear hf7 hg7
    go_wp2_with (first | ((first | (apply K.alloc; rfl; rfl; exact frac_zero) | (apply K.box; rfl; rfl; rfl)); clear K r; intro W b K; have r := K.rawS) | (apply K.storeA; rfl; rfl; rfl; rfl; rfl; (exact ZUP); exact frac_size; rfl; rfl; rfl; clear K r; intro W K; have r := K.rawS) | (apply K.storeB; rfl; rfl; rfl; rfl; rfl; (repeat (with_reducible apply Upd.tail)); exact HU.out; exact bool_put; exact bool_size; exact bool_fit; clear K r; intro W K; have r := K.rawS))
    have HE := Lib.hid (⟨s7, A7, n7, c7, l7, t7, B7, m7, d7, k7, 0, rfl, ⟨ho, fitsF_zero⟩, HG.out 0, (K.part (List.sublist_append_right [_, _] L')).less fun x hx => by
      simp only [List.mem_cons] at hx ⊢
      rcases hx with h | h | h
      · exact Or.inl h
      · exact Or.inr (Or.inl h)
      · exact Or.inr (Or.inr (Or.inr (Or.inr h)))⟩ : FrS w0 L' D G (.returned (.agg #[.int .i64 s7, .slice A7 n7 c7, .int .i64 t7, .slice B7 m7 d7])) _)
    exact bodyPost_ret (v := .agg #[.int .i64 s7, .slice A7 n7 c7, .int .i64 t7, .slice B7 m7 d7]) (by simp [results, Try.results107, go_sem, r]) rfl HE.out
end Go.Proofs.Ytdlcglndhhndpaa
namespace Go.Proofs.Ytdlcglndhhndpaa
open Go.RowKit
abbrev Vx := Nat → Nat → Rw
def isQ (x : Rw) (q : Rat) : Prop := StdF x.s x.l x.t x.k q ∧ fitsF q = true
def Stg (N n r c : Nat) (m : Mx) (i : Nat) (V : Vx) : Prop :=
  divB m n r c = true ∧ (∀ j k, j < n → k < N → isQ (V j k) (if j = r ∨ j < i then pivM m r c j k else m j k)) ∧ ∀ j, j < i → j = r ∨ m j c = 0 ∨ subB m n r c j = true
def Stg2 (N n r c : Nat) (m : Mx) (i k : Nat) (V : Vx) : Prop :=
  divB m n r c = true ∧ (∀ j k', j < n → k' < N → isQ (V j k') (if j = r ∨ j < i ∨ (j = i ∧ k' < k) then pivM m r c j k' else m j k')) ∧ (∀ j, j < i → j = r ∨ m j c = 0 ∨ subB m n r c j = true) ∧ ∀ k', k' < k → stepK (m i k') (m i c) (m r k' / m r c) = true
section
variable {N n r c i k : Nat} {m : Mx} {V : Vx}
theorem pivM_r (m : Mx) (r c k : Nat) : pivM m r c r k = m r k / m r c := by unfold pivM; rw [if_pos rfl]
theorem pivM_i (m : Mx) {r i : Nat} (c k : Nat) (h : i ≠ r) : pivM m r c i k = m i k - m i c * (m r k / m r c) := by unfold pivM; rw [if_neg h]
theorem Stg.next (h : Stg N n r c m i V) (hi : i < n) (h0 : i = r ∨ m i c = 0) : Stg N n r c m (i + 1) V := by
  refine ⟨h.1, fun j k hj hk => ?_, fun j hj => ?_⟩
  · have h1 := h.2.1 j k hj hk
    by_cases e : j = i
    · subst e
      by_cases er : j = r
      · rw [if_pos (Or.inl er)] at h1 ⊢
        exact h1
      · rw [if_neg (by omega)] at h1
        rw [if_pos (by omega), pivM_zero er (h0.resolve_left er)]
        exact h1
    · have : (j = r ∨ j < i + 1) ↔ (j = r ∨ j < i) := by omega
      simp only [this]
      exact h1
  · by_cases e : j = i
    · subst e
      rcases h0 with h0 | h0
      · exact Or.inl h0
      · exact Or.inr (Or.inl h0)
    · exact h.2.2 j (by omega)
theorem Stg2.step (h : Stg2 N n r c m i k V) (hi : i ≠ r) {y : Rw} (hs : stepK (m i k) (m i c) (m r k / m r c) = true) (hy : isQ y (m i k - m i c * (m r k / m r c))) : Stg2 N n r c m i (k + 1) (put2 V i k y) := by
  refine ⟨h.1, fun j k' hj hk => ?_, h.2.2.1, fun k' hk => ?_⟩
  · by_cases e : j = i ∧ k' = k
    · rw [e.1, e.2, put2_at, if_pos (by omega), pivM_i m c k hi]
      exact hy
    · rw [put2_ne V y e]
      have : (j = r ∨ j < i ∨ (j = i ∧ k' < k + 1)) ↔ (j = r ∨ j < i ∨ (j = i ∧ k' < k)) := by omega
      simp only [this]
      exact h.2.1 j k' hj hk
  · by_cases e : k' = k
    · rw [e]; exact hs
    · exact h.2.2.2 k' (by omega)
theorem Stg2.bad (hN : N = n + 1) (hi : i < n) (hir : i ≠ r) (h0 : m i c ≠ 0) (hk : k < N) (hs : stepK (m i k) (m i c) (m r k / m r c) = false) : pivB m n r c = false := by
  have h1 : subB m n r c i = false := by
    unfold subB
    rw [List.all_eq_false]
    refine ⟨k, List.mem_range.2 (by omega), ?_⟩
    unfold stepK at hs
    rw [hs]
    simp
  unfold pivB
  rw [Bool.and_eq_false_iff]
  right
  rw [List.all_eq_false]
  refine ⟨i, List.mem_range.2 hi, ?_⟩
  rw [h1, Bool.or_false, decide_eq_true_iff]
  intro h
  rcases h with h | h
  · exact hir h
  · exact h0 h
theorem Stg2.done (hN : N = n + 1) (h : Stg2 N n r c m i N V) : Stg N n r c m (i + 1) V := by
  refine ⟨h.1, fun j k hj hk => ?_, fun j hj => ?_⟩
  · have : (j = r ∨ j < i + 1) ↔ (j = r ∨ j < i ∨ (j = i ∧ k < N)) := by omega
    simp only [this]
    exact h.2.1 j k hj hk
  · by_cases e : j = i
    · subst e
      refine Or.inr (Or.inr ?_)
      unfold subB
      rw [List.all_eq_true]
      intro k hk
      exact h.2.2.2 k (by have := List.mem_range.1 hk; omega)
    · exact h.2.2.1 j (by omega)
theorem Stg.all (h : Stg N n r c m n V) : ∀ j k, j < n → k < N → isQ (V j k) (pivM m r c j k) := fun j k hj hk => by
  have := h.2.1 j k hj hk
  rw [if_pos (Or.inr hj)] at this
  exact this
theorem Stg.start (hr : r < n) (h0 : m r c ≠ 0) (hN : N = n + 1) (hd : divB m n r c = true) (hr1 : ∀ k, k < N → ∃ o, o = divO1 (m r k) (m r c) ∧ OptF (V r k).s (V r k).l (V r k).t (V r k).k o) (ho : ∀ j k, j < n → k < N → j ≠ r → isQ (V j k) (m j k)) : Stg N n r c m 0 V := by
  refine ⟨hd, fun j k hj hk => ?_, fun j hj => absurd hj (by omega)⟩
  by_cases e : j = r
  · subst e
    rw [if_pos (Or.inl rfl), pivM_r]
    have hk2 : divK (m j k) (m j c) = true := by
      unfold divB at hd
      exact List.all_eq_true.1 hd k (List.mem_range.2 (by omega))
    obtain ⟨o, ho1, h1⟩ := hr1 k hk
    have e1 : divO1 (m j k) (m j c) = some (m j k / m j c) := if_pos hk2
    rw [e1] at ho1
    subst ho1
    have h3 := divK_fits hk2 h0
    generalize m j k / m j c = q at *
    exact ⟨h1, h3⟩
  · rw [if_neg (by omega)]
    exact ho j k hj hk e
end
end Go.Proofs.Ytdlcglndhhndpaa
