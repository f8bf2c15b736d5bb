/- Laws and walks; conditions stand in each theorem. -/
import Derived.Test.YtdlcglndhhndpaaGreatL37
import Derived.Test.YtdlcglndhhndpaaGreatL26
import Derived.Test.YtdlcglndhhndpaaGreatL29
set_option linter.unusedSimpArgs false
set_option linter.unusedVariables false
namespace Go.Proofs.YtdlcglndhhndpaaGreat
open Go.RowKit
def rowV (n : Nat) (r : Nat → Rat) : Rv := ⟨ofF n fun k => fvQ (r k), fvQ (r n)⟩
def GoodR (n : Nat) (z : Rr) (r : Nat → Rat) : Prop := z.rv = rowV n r ∧ z.n = n ∧ ∀ k, k < n + 1 → fitsF (r k) = true
def GoodU (n : Nat) (u : Nat → Rr) (m : Mx) : Prop := ∀ i, i < n → GoodR n (u i) (m i)
theorem isQ_fv {y : Rw} {q : Rat} (h : y.fv = fvQ q) (hf : fitsF q = true) : isQ y q := by
 have h1 := fv_std (x := y.fv) (by rw [h]; exact fvQ_ok hf)
 have e : y.fv.rat = q := by rw [h, fvQ_rat]
 rw [e] at h1
 exact h1
theorem GoodR.val {n : Nat} {z : Rr} {r : Nat → Rat} (h : GoodR n z r) : isQ z.y (r n) := isQ_fv (by have := h.1; unfold rowV Rr.rv at this; injection this) (h.2.2 n (by omega))
theorem GoodR.lst {n : Nat} {z : Rr} {r : Nat → Rat} (h : GoodR n z r) : z.a = ofF n fun k => fvQ (r k) := by have := h.1; unfold rowV Rr.rv at this; injection this
theorem GoodR.ok {n : Nat} {z : Rr} {r : Nat → Rat} (h : GoodR n z r) : z.a.all Fv.ok = true := by
 rw [h.lst]
 exact ofF_allP9 fun i hi => fvQ_ok (h.2.2 i (by omega))
theorem GoodR.at {n j : Nat} {z : Rr} {r : Nat → Rat} (h : GoodR n z r) (hj : j < n) : fvR z.a j = r j := by
 rw [h.lst, fvR_ofF hj, fvQ_rat]
theorem GoodR.congr {n : Nat} {z : Rr} {r r' : Nat → Rat} (h : GoodR n z r) (e : r = r') : GoodR n z r' := e ▸ h
theorem isQ.zero_iff {x : Rw} {q : Rat} (h : isQ x q) : (x.s == 0) = decide (q = 0) := by
 have e : x.s = sgI q.num := h.1.1.1
 rw [e]
 rcases sgI_tri q.num with ⟨h2, h3⟩ | ⟨h2, h3⟩ | ⟨h2, h3⟩
 · rw [h3]
   exact (decide_eq_false (fun hq => by rw [hq] at h2; exact absurd h2 (by decide))).symm
 · rw [h3]
   exact (decide_eq_true (Rat.num_eq_zero.1 h2)).symm
 · rw [h3]
   exact (decide_eq_false (fun hq => by rw [hq] at h2; exact absurd h2 (by decide))).symm
section
variable {w0 W : World} {L : List Blk} {D : List Hl}
theorem elR {n k : Nat} {z : Rr} {r : Nat → Rat} (hz : z.on W) (h : GoodR n z r) (hk : k < n) : ∃ b off, ∃ y : Rw, z.A = some ⟨b, off, none⟩ ∧ (W.cell? ⟨b, off + k * 4, none⟩ = some (.int .i64 y.s) ∧ W.cell? ⟨b, off + k * 4 + 1, none⟩ = some (.slice y.A y.n y.c) ∧ W.cell? ⟨b, off + k * 4 + 2, none⟩ = some (.int .i64 y.t) ∧ W.cell? ⟨b, off + k * 4 + 3, none⟩ = some (.slice y.B y.m y.d)) ∧ isQ y (r k) ∧ RdI W W.heap.size y.A y.n y.c y.l ∧ RdI W W.heap.size y.B y.m y.d y.k := by
 obtain ⟨b, off, A1, n1, c1, A2, n2, c2, x, hA, hb, hx, hc, r1, r2⟩ := hz.1.atF (k := k) (by rw [h.2.1]; exact hk)
 rw [h.lst, ofF_get hk] at hx
 refine ⟨b, off, ⟨x.s, A1, n1, c1, x.l, x.t, A2, n2, c2, x.m⟩, hA, hc, isQ_fv (Option.some.inj hx).symm (h.2.2 k (by omega)), r1, r2⟩
theorem divX_at {X : Nat → Rat} {n c k : Nat} (h : divX X n c = true) (hk : k < n + 1) : divK (X k) (X c) = true := List.all_eq_true.1 h k (List.mem_range.2 hk)
theorem subX_at {X Y : Nat → Rat} {n c k : Nat} (h : subX X Y n c = true) (hk : k < n + 1) : stepK (X k) (X c) (Y k) = true := List.all_eq_true.1 h k (List.mem_range.2 hk)
theorem callDvd {z : Rr} {n c : Nat} {X : Nat → Rat} {b : Bool} (K : St w0 L D W) (hz : z.on W) (h : GoodR n z X) (hc : c < n) (h0 : X c ≠ 0) (hn : n ≤ 1000) (hd : divX X n c = b) :
 Calls Tryz.prog 88 #[.agg #[.slice z.A z.n z.c, .int .i64 z.y.s, .slice z.y.A z.y.n z.y.c, .int .i64 z.y.t, .slice z.y.B z.y.m z.y.d], .int .i64 (n : Int), .int .i64 (c : Int)] W fun e W' => ∃ z' : Rr, e = .returned (.tuple #[.agg #[.slice z'.A z'.n z'.c, .int .i64 z'.y.s, .slice z'.y.A z'.y.n z'.y.c, .int .i64 z'.y.t, .slice z'.y.B z'.y.m z'.y.d], .bool b]) ∧ Hid (b = true → GoodR n z' fun k => X k / X c) ∧ St w0 L D W' ∧ (b = true → ∃ S, St w0 L (⟨z'.on, S⟩ :: D) W') := by
 have e : z.n = n := h.2.1
 subst e
 subst hd
 exact (divided6_any z.A z.n z.c c z.a z.y X W hz.1 hz.2.1 hz.2.2 h.ok (fun j hj => h.at hj) h.val hc h0 hn).mono fun e W' ⟨z', he, hz', hb⟩ => ⟨z', he, Lib.hid fun hd => ⟨(hz' hd).2.2, (hz' hd).1, fun k hk => divK_fits (divX_at hd hk) h0⟩, K.keep hb, fun hd => ⟨_, K.addX hb (hz' hd).2.1⟩⟩
theorem callRdc {z y : Rr} {n c : Nat} {X Y : Nat → Rat} {b : Bool} (K : St w0 L D W) (hz : z.on W) (hy : y.on W) (h : GoodR n z X) (h' : GoodR n y Y) (hc : c < n) (hn : n ≤ 1000) (hd : subX X Y n c = b) :
 Calls Tryz.prog 89 #[.agg #[.slice z.A z.n z.c, .int .i64 z.y.s, .slice z.y.A z.y.n z.y.c, .int .i64 z.y.t, .slice z.y.B z.y.m z.y.d], .agg #[.slice y.A y.n y.c, .int .i64 y.y.s, .slice y.y.A y.y.n y.y.c, .int .i64 y.y.t, .slice y.y.B y.y.m y.y.d], .int .i64 (n : Int), .int .i64 (c : Int)] W fun e W' => ∃ z' : Rr, e = .returned (.tuple #[.agg #[.slice z'.A z'.n z'.c, .int .i64 z'.y.s, .slice z'.y.A z'.y.n z'.y.c, .int .i64 z'.y.t, .slice z'.y.B z'.y.m z'.y.d], .bool b]) ∧ Hid (b = true → GoodR n z' fun k => X k - X c * Y k) ∧ St w0 L D W' ∧ (b = true → ∃ S, St w0 L (⟨z'.on, S⟩ :: D) W') := by
 have e : z.n = n := h.2.1
 subst e
 subst hd
 have e2 : y.n = z.n := h'.2.1
 have hy1 := hy.1
 rw [e2] at hy1 ⊢
 exact (reduced6_any z.A y.A z.n z.c y.c c z.a y.a z.y y.y X Y W hz.1 hz.2.1 hz.2.2 hy1 hy.2.1 hy.2.2 h.ok (fun j hj => h.at hj) h.val h'.ok (fun j hj => h'.at hj) h'.val hc hn).mono fun e W' ⟨z', he, hz', hb⟩ => ⟨z', he, Lib.hid fun hd => ⟨(hz' hd).2.2, (hz' hd).1, fun k hk => by
  have h3 := subX_at hd hk
  unfold stepK at h3
  rw [Bool.and_eq_true] at h3
  have h4 := addK_fits h3.2
  rw [← Rat.sub_eq_add_neg] at h4
  exact h4⟩, K.keep hb, fun hd => ⟨_, K.addX hb (hz' hd).2.1⟩⟩
theorem callZero {y : Rw} {q : Rat} (K : St w0 L D W) (hy : isQ y q) : Calls Tryz.prog 87 #[.agg #[.int .i64 y.s, .slice y.A y.n y.c, .int .i64 y.t, .slice y.B y.m y.d]] W fun e W' => e = .returned (.bool (decide (q = 0))) ∧ St w0 L D W' := by
 have e : (y.s == 0) = decide (q = 0) := isQ.zero_iff hy
 exact (zero6_any y.s y.t y.A y.B y.n y.c y.m y.d W).mono fun e' W' ⟨he, hb⟩ => ⟨by rw [he, e], K.keep hb⟩
end
def stgM (m : Mx) (r c i : Nat) : Mx := fun j k => if j = r ∨ j < i then pivM m r c j k else m j k
theorem stg_row {m : Mx} {r c i : Nat} (hi : i ≠ r) : stgM m r c i i = m i := by
 funext k
 unfold stgM
 rw [if_neg (by omega)]
theorem stg_piv {m : Mx} {r c i : Nat} : stgM m r c i r = fun k => m r k / m r c := by
 funext k
 unfold stgM pivM
 rw [if_pos (Or.inl rfl), if_pos rfl]
theorem stg_skip {m : Mx} {r c i : Nat} (h : i = r ∨ m i c = 0) : stgM m r c (i + 1) = stgM m r c i := by
 funext j k
 unfold stgM
 by_cases e : j = r ∨ j < i
 · rw [if_pos e, if_pos (by omega)]
 · rw [if_neg e]
   by_cases e2 : j = i
   · subst e2
     have hr : j ≠ r := by omega
     rw [if_pos (by omega)]
     exact congrFun (pivM_zero hr (h.resolve_left hr)) k
   · rw [if_neg (by omega)]
theorem stg_next {m : Mx} {r c i : Nat} {n : Nat} {u : Nat → Rr} {z : Rr} (hi : i ≠ r) (h : GoodU n u (stgM m r c i)) (hz : GoodR n z fun k => m i k - m i c * (m r k / m r c)) : GoodU n (putF u i z) (stgM m r c (i + 1)) := fun j hj => by
 by_cases e : j = i
 · subst e
   rw [putF_same]
   refine hz.congr ?_
   funext k
   unfold stgM pivM
   rw [if_pos (by omega), if_neg hi]
 · rw [putF_other e]
   refine (h j hj).congr ?_
   funext k
   unfold stgM
   by_cases e2 : j = r ∨ j < i
   · rw [if_pos e2, if_pos (by omega)]
   · rw [if_neg e2, if_neg (by omega)]
theorem stg_first {m : Mx} {r c n : Nat} {u : Nat → Rr} {z : Rr} (h : GoodU n u m) (hz : GoodR n z fun k => m r k / m r c) : GoodU n (putF u r z) (stgM m r c 0) := fun j hj => by
 by_cases e : j = r
 · subst e
   rw [putF_same, stg_piv]
   exact hz
 · rw [putF_other e]
   refine (h j hj).congr ?_
   funext k
   unfold stgM
   rw [if_neg (by omega)]
theorem stg_last {m : Mx} {r c n : Nat} {u : Nat → Rr} (h : GoodU n u (stgM m r c n)) : GoodU n u (pivM m r c) := fun j hj => (h j hj).congr (by
 funext k
 unfold stgM
 rw [if_pos (Or.inr hj)])
theorem swp_good {m : Mx} {n a b : Nat} {u : Nat → Rr} (h : GoodU n u m) (ha : a < n) (hb : b < n) : GoodU n (putF (putF u a (u b)) b (u a)) (swpM m a b) := fun j hj => by
 unfold swpM
 by_cases e : j = b
 · subst e
   rw [putF_same]
   refine (h a ha).congr ?_
   by_cases e2 : j = a
   · rw [if_pos e2, e2]
   · rw [if_neg e2, if_pos rfl]
 · rw [putF_other e]
   by_cases e2 : j = a
   · subst e2
     rw [putF_same]
     exact (h b hb).congr (by rw [if_pos rfl])
   · rw [putF_other e2]
     exact (h j hj).congr (by rw [if_neg e2, if_neg e])
theorem piv_yes {m : Mx} {n r c : Nat} (hd : divX (m r) n c = true) (h : ∀ i, i < n → i = r ∨ m i c = 0 ∨ subX (m i) (fun k => m r k / m r c) n c = true) : pivB m n r c = true := by
 unfold pivB
 rw [show divB m n r c = true from hd, Bool.true_and, List.all_eq_true]
 intro i hi
 rcases h i (List.mem_range.1 hi) with e | e | e
 · rw [decide_eq_true (Or.inl e)]; rfl
 · rw [decide_eq_true (Or.inr e)]; rfl
 · rw [show subB m n r c i = true from e, Bool.or_true]
theorem piv_no1 {m : Mx} {n r c : Nat} (hd : divX (m r) n c = false) : pivB m n r c = false := by
 unfold pivB
 rw [show divB m n r c = false from hd, Bool.false_and]
theorem piv_no2 {m : Mx} {n r c i : Nat} (hi : i < n) (h1 : i ≠ r) (h2 : m i c ≠ 0) (h : subX (m i) (fun k => m r k / m r c) n c = false) : pivB m n r c = false := by
 unfold pivB
 rw [Bool.and_eq_false_iff]
 right
 rw [List.all_eq_false]
 exact ⟨i, List.mem_range.2 hi, by rw [show subB m n r c i = false from h, decide_eq_false (fun h => h.elim h1 h2)]; decide⟩
theorem St.set5R {w W : World} {L L' : List Blk} {D : List Hl} {b : Nat} {t : TypeId} (h : St w L D W) {x0 x1 x2 x3 x4 u0 u1 u2 u3 u4 : Value} (hU : Upd b #[x0, x1, x2, x3, x4] t #[u0, u1, u2, u3, u4] L L') :
 St w L' D (((((W.setCell ⟨b, 0, none⟩ u0).setCell ⟨b, 1, none⟩ u1).setCell ⟨b, 2, none⟩ u2).setCell ⟨b, 3, none⟩ u3).setCell ⟨b, 4, none⟩ u4) :=
 h.upd hU (((((OnlyB.set W b 0 u0).trans (OnlyB.set _ b 1 u1)).trans (OnlyB.set _ b 2 u2)).trans (OnlyB.set _ b 3 u3)).trans (OnlyB.set _ b 4 u4)) ((((((h.blk hU.mem).set (j := 0) u0).set (j := 1) u1).set (j := 2) u2).set (j := 3) u3).set (j := 4) u4)
def ElimR (w : World) (n : Nat) (stop : Bool) (m0 : Mx) (e : Ending) (w' : World) : Prop :=
 ∃ (A : Option Addr) (cc : Nat) (Af : Option Addr) (cf : Nat) (b : Bool) (fr : List Nat) (m' : Mx), e = .returned (.tuple #[.slice A n cc, .slice Af (List.length fr) cf, .bool b]) ∧ Below w.heap.size w w' ∧ RdI w' w'.heap.size Af fr.length cf (fr.map fun c : Nat => (c : Int)) ∧
  (b = false → elimF n stop n m0 [] = none) ∧ (b = true → elimF n stop n m0 [] = some (m', fr) ∧ (∀ i k, i < n → k < n + 1 → fitsF (m' i k) = true) ∧ RdR w' w'.heap.size A n cc (ofF n fun i => rowV n (m' i)))
theorem ElimR.mk {w W : World} {n g gc : Nat} {J : List Value} {stop b : Bool} {m0 m' : Mx} {u : Nat → Rr} {S : Nat → Nat → Prop} {fr : List Nat} {Xf : List Blk} {vf : Value} (K : St w ((g, recA Rr.cs n u J, 56) :: Xf) [rrF n u S] W) (hn : n ≤ 1000) (hfr : fr.length ≤ n) (ho : OwL 1 iEnc 3 vf (fr.map fun c : Nat => (c : Int)) Xf) (hcc : n ≤ gc ∧ gc ≤ 9223372036854775807)
 (h1 : b = false → elimF n stop n m0 [] = none) (h2 : b = true → elimF n stop n m0 [] = some (m', fr) ∧ GoodU n u m') : ElimR w n stop m0 (.returned (.tuple #[.slice (some ⟨g, 0, none⟩) n gc, vf, .bool b])) W := by
 have K3 : St w (Xf ++ [(g, recA Rr.cs n u J, 56)]) [rrF n u S] W := K.perm (List.perm_append_comm (l₁ := Xf) (l₂ := [_]))
 obtain ⟨Af, cf, hv, hr⟩ := (ho.own iSized K3).rd iSized (by rw [List.length_map]; omega)
 rw [List.length_map] at hv hr
 subst hv
 refine ⟨_, gc, Af, cf, b, fr, m', rfl, K.1, hr, h1, fun hb => ?_⟩
 obtain ⟨g1, g2⟩ := h2 hb
 refine ⟨g1, fun i k hi hk => (g2 i hi).2.2 k hk, ?_⟩
 have := K.rdRR (g := g) (cap := gc) (u := u) (S := S) List.mem_cons_self List.mem_cons_self (by omega) hcc
 rw [ofF_congr (fun i hi => (g2 i hi).1)] at this
 exact this
theorem Pt.fits {q : Rat} {k : Nat} (h : Pt k q) (hk : k ≤ 60) : fitsF q = true := by
 unfold fitsF
 rw [fits_lt h.1 hk, fits_lt (z := (q.den : Int)) (by have := h.2; omega) hk]
 rfl
theorem right_row {n : Nat} {l : List Rv} (h : rightL (n : Int) l = true) {i : Nat} {x : Rv} (hx : l[i]? = some x) : x.a.length = n ∧ x.b.ok = true ∧ (∀ y ∈ x.a, y.ok = true) := by
 unfold rightL at h
 rw [Bool.and_eq_true, List.all_eq_true] at h
 have h1 := h.2 x (List.mem_of_getElem? hx)
 unfold rowF at h1
 rw [Bool.and_eq_true, Bool.and_eq_true, decide_eq_true_eq, List.all_eq_true] at h1
 exact ⟨by omega, h1.1.2, h1.2⟩
theorem mxR_el {n : Nat} {l : List Rv} {i k : Nat} {x : Rv} (hx : l[i]? = some x) (hn : x.a.length = n) {y : Fv} (hy : x.a[k]? = some y) : mxR l i k = y.rat := mxR_at hx (by
 unfold rowL
 rw [List.getElem?_append_left (List.getElem?_eq_some_iff.1 hy).1]
 exact hy)
theorem mxR_val {n : Nat} {l : List Rv} {i : Nat} {x : Rv} (hx : l[i]? = some x) (hn : x.a.length = n) : mxR l i n = x.b.rat := mxR_at hx (by
 unfold rowL
 rw [List.getElem?_append_right (by omega), hn, Nat.sub_self]
 rfl)
section
variable {n : Nat} {l : List Rv}
end
end Go.Proofs.YtdlcglndhhndpaaGreat
