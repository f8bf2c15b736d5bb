/- Laws and walks laid together; the conditions stand in each theorem. -/
import Derived.Test.YtdlcglndhhndpaaT09
import Derived.Test.YtdlcglndhhndpaaT11
import Derived.Test.YtdlcglndhhndpaaT08
set_option linter.unusedSimpArgs false
set_option linter.unusedVariables false
namespace Go.Proofs.Ytdlcglndhhndpaa
open Go.RowKit
theorem rdF_raw {w : World} {B : Nat} {A : Option Addr} {n cap : Nat} {l : List Fv} (h : RdF w B A n cap l) : ∃ v : Nat → Rw, Rd 4 (flat Rw.cs) w B A n cap (ofF n v) ∧ (∀ i, i < n → RdI w B (v i).A (v i).n (v i).c (v i).l ∧ RdI w B (v i).B (v i).m (v i).d (v i).k) ∧ ∀ i, i < n → l[i]? = some (v i).fv := by
  by_cases hn : n = 0
  · subst hn
    exact ⟨fun _ => Rw.zero, ⟨rfl, h.2.1, h.2.2.1, fun h => absurd h (by omega)⟩, fun i hi => absurd hi (by omega), fun i hi => absurd hi (by omega)⟩
  · obtain ⟨b, off, rfl, hb, hc⟩ := h.2.2.2 (by omega)
    have hl := h.1
    have ex : ∀ k, k < n → ∃ x : Rw, l[k]? = some x.fv ∧ (∀ (j : Nat) u, x.cs[j]? = some u → w.cell? ⟨b, off + k * 4 + j, none⟩ = some u) ∧ RdI w B x.A x.n x.c x.l ∧ RdI w B x.B x.m x.d x.k := fun k hk => by
      obtain ⟨cs, ⟨A1, n1, c1, A2, n2, c2, rfl, h1, h2⟩, _, hj⟩ := hc k (by omega)
      exact ⟨⟨l[k].s, A1, n1, c1, l[k].l, l[k].t, A2, n2, c2, l[k].m⟩, by rw [List.getElem?_eq_getElem (by omega)]; rfl, hj, h1, h2⟩
    obtain ⟨v, hv⟩ : ∃ v : Nat → Rw, ∀ k, (hk : k < n) → v k = Classical.choose (ex k hk) := ⟨fun k => if hk : k < n then Classical.choose (ex k hk) else Rw.zero, fun k hk => dif_pos hk⟩
    have hs : ∀ k, k < n → l[k]? = some (v k).fv ∧ (∀ (j : Nat) u, (v k).cs[j]? = some u → w.cell? ⟨b, off + k * 4 + j, none⟩ = some u) ∧ RdI w B (v k).A (v k).n (v k).c (v k).l ∧ RdI w B (v k).B (v k).m (v k).d (v k).k := fun k hk => by
      rw [hv k hk]
      exact Classical.choose_spec (ex k hk)
    refine ⟨v, ⟨ofF_len, h.2.1, h.2.2.1, fun _ => ⟨b, off, rfl, hb, fun k hk => ?_⟩⟩, fun i hi => (hs i hi).2.2, fun i hi => (hs i hi).1⟩
    rw [ofF_len] at hk
    refine ⟨(v k).cs, ?_, rfl, (hs k hk).2.1⟩
    have e : (ofF n v)[k]'(by rw [ofF_len]; exact hk) = v k := by
      have := ofF_get (f := v) hk
      exact ZQ30
    rw [e]
    rfl
theorem frac_parts : ∃ i z, Try.prog.info? 40 = some i ∧ i.zero = some z ∧ i.size = 4 ∧ i.bytes = 64 ∧ z.cells.size = 4 := by
  obtain ⟨i, h1, h2⟩ := Option.map_eq_some_iff.1 frac_made
  simp only [Prod.mk.injEq] at h2
  obtain ⟨h2, h3, h4⟩ := h2
  obtain ⟨z, h5, h6⟩ := Option.map_eq_some_iff.1 h2
  exact ⟨i, z, h1, h5, h3, h4, by rw [h6]; rfl⟩
set_option maxRecDepth 100000 in
set_option maxHeartbeats 1000000 in
theorem lclone_own (A : Option Addr) (n cap : Nat) (v : Nat → Rw) (w0 w : World) (L : List Blk) (D : List Hl) (K : St w0 L D w) (hl : Rd 4 (flat Rw.cs) w w.heap.size A n cap (ofF n v)) (hn2 : n ≤ 1000) :
    Calls Try.prog 85 #[.slice A n cap] w fun e w' => ∃ val X, e = .returned val ∧ OwL 4 Rw.cs 40 val (ofF n v) X ∧ St w0 (X ++ L) D w' := by
  obtain ⟨i0, z0, hi0, hz0, hz1, hz2, hz3⟩ := frac_parts
  have ho0 : Own 4 Rw.cs (w.alloc (.cells #[] 40)) w.heap.size 40 (.slice (some ⟨w.heap.size, 0, none⟩) 0 0) ([] : List Rw) := Own.lit rw_sized (Nat.le_refl _) [] #[] rfl rfl (by omega)
  have hb0 := (Below.refl w.heap.size w).alloc (Nat.le_refl _) (.cells #[] 40)
  have HK := Lib.hid K
  cases A with
  | none =>
    have hn0 : n = 0 := by
      rcases Nat.eq_zero_or_pos n with h | h
      · exact h
      · obtain ⟨b, off, h, _⟩ := hl.2.2.2 h; cases h
    subst hn0
    have hnil := fun w => run_eql_slice_nil (P := Try.prog) w 23 40 none 0 cap Try.underlying23
    clear ho0 hb0 hl K
    go_enter Try.func85, Try.ntmps85
    go_wp2
    go_ret
    exact ⟨_, [], rfl, OwL.nil, HK.out⟩
  | some a =>
    have hnil := fun w => run_eql_slice_nil (P := Try.prog) w 23 40 (some a) n cap Try.underlying23
    have hk0 := (Kept.refl (fun b => (Value.slice none 0 0).ownBlock = some b) w).alloc (.cells #[] 40)
    clear K
    go_enter Try.func85, Try.ntmps85
    go_wp2_with (at_builtin
                 refine wpList_app _ rw_sized rfl _ _ 23 rfl w.heap.size 40 i0 _ 64 Try.underlying23 hi0 hz0 hz1 hz2 hz3 _ [] rfl ho0 _ _ n cap (ofF n v) rfl (hl.up (flat_lasts _) hb0) (by simp only [maxLen, List.length_nil]; omega) (by simp only [List.length_nil]; omega) (by simp) ?_
                 intro v4 w4 ho4 hg4 hx4
                 have hb4 : Below w.heap.size w w4 := Own.grow ho0 (Nat.le_refl _) hb0 (by simp) hg4)
    go_ret
    rw [List.nil_append] at ho4
    have hk4 : Kept (fun b => (Value.slice none 0 0).ownBlock = some b) w w4 := ⟨hb4.os, hb4.tape, hb4.output, hb4.size, fun i hi _ => hb4.block i hi⟩
    obtain ⟨X', hX, hK'⟩ := OwL.of (X := []) rw_sized OwL.nil HK.out (ho4.mono HK.out.1.size) hk4 (fun g hg => Or.inr (by
      rcases ho4.2 with ⟨rfl, -⟩ | ⟨g', cap', cur, rfl, hg', -⟩
      · cases hg
      · have e : some g' = some g := hg
        injection e with e
        rw [← e]; exact hg'))
    exact ⟨_, X', rfl, hX, hK'⟩
end Go.Proofs.Ytdlcglndhhndpaa
namespace Go.Proofs.Ytdlcglndhhndpaa
open Go.RowKit
def fxP (A : Option Addr) (n cap : Nat) (v : Nat → Rw) : World → Prop := fun W => Rd 4 (flat Rw.cs) W W.heap.size A n cap (ofF n v) ∧ rwP n v W
def fxS (A : Option Addr) (n : Nat) (v : Nat → Rw) : Nat → Prop := fun b => rdS A n b ∨ rwS n v b
theorem Rd.only {α : Type} {sz : Nat} {enc : α → List Value} {W W' : World} {A : Option Addr} {n cap : Nat} {l : List α} (h : Rd sz (flat enc) W W.heap.size A n cap l) (hs : W.heap.size ≤ W'.heap.size) (hb : ∀ b, rdS A n b → W'.heap[b]? = W.heap[b]?) : Rd sz (flat enc) W' W'.heap.size A n cap l := by
  refine ⟨h.1, h.2.1, h.2.2.1, fun hn => ?_⟩
  obtain ⟨b', off, e, hlt, hc⟩ := h.2.2.2 hn
  refine ⟨b', off, e, Nat.lt_of_lt_of_le hlt hs, fun k hk => ?_⟩
  obtain ⟨cs, hr, hlen, hj⟩ := hc k hk
  exact ⟨cs, hr, hlen, fun j u hu => (cell_of (p := ⟨b', off + k * sz + j, none⟩) (hb b' ⟨hn, _, e, rfl⟩)).trans (hj j u hu)⟩
theorem fx_keep {A : Option Addr} {n cap : Nat} {v : Nat → Rw} {W W' : World} (h : fxP A n cap v W) (hs : W.heap.size ≤ W'.heap.size) (hb : ∀ b, fxS A n v b → W'.heap[b]? = W.heap[b]?) : fxP A n cap v W' :=
  ⟨h.1.only hs fun b hS => hb b (Or.inl hS), fun i hi => ⟨rdP_keep (h.2 i hi).1 hs fun b hS => hb b (Or.inr ⟨i, hi, Or.inl hS⟩), rdP_keep (h.2 i hi).2 hs fun b hS => hb b (Or.inr ⟨i, hi, Or.inr hS⟩)⟩⟩
theorem Rd.sup {α : Type} {sz : Nat} {R : Enc α} {W : World} {B : Nat} {A : Option Addr} {n cap : Nat} {l : List α} (h : Rd sz R W B A n cap l) {b : Nat} (hS : rdS A n b) : b < B := by
  obtain ⟨hn, a, rfl, rfl⟩ := hS
  obtain ⟨b', off, e, hlt, -⟩ := h.2.2.2 hn
  rw [Option.some.inj e]
  exact hlt
theorem fx_sup {A : Option Addr} {n cap : Nat} {v : Nat → Rw} {W : World} (h : fxP A n cap v W) {b : Nat} (hS : fxS A n v b) : b < W.heap.size := by
  rcases hS with hS | ⟨i, hi, hS | hS⟩
  · exact h.1.sup hS
  · exact Rd.sup (h.2 i hi).1 hS
  · exact Rd.sup (h.2 i hi).2 hS
section
variable {w0 w W : World} {L : List Blk} {D : List Hl} {A : Option Addr} {n cap i : Nat} {v : Nat → Rw}
theorem St.fxAdd (K : St w0 L D W) (h : fxP A n cap v W) (hd : ∀ b, fxS A n v b → ∀ p ∈ L, p.1 ≠ b) : St w0 L (⟨fxP A n cap v, fxS A n v⟩ :: D) W :=
  K.add ⟨h, fun b hS => ⟨fx_sup h hS, hd b hS⟩, fun W' h1 h2 => fx_keep h h1 h2⟩
theorem St.fxOld (K : St w L D W) {l : List Fv} (h : RdF w w.heap.size A n cap l) : ∃ v : Nat → Rw, (∀ i, i < n → l[i]? = some (v i).fv) ∧ St w L (⟨fxP A n cap v, fxS A n v⟩ :: D) W := by
  obtain ⟨v, h1, h2, h3⟩ := rdF_raw h
  have h0 : fxP A n cap v w := ⟨h1, fun i hi => h2 i hi⟩
  have hs : ∀ b, fxS A n v b → b < w.heap.size := fun b hS => fx_sup h0 hS
  refine ⟨v, h3, K.fxAdd (fx_keep h0 K.1.size fun b hS => K.1.block b (hs b hS)) fun b hS p hp e => ?_⟩
  have g1 := (K.2.1 p hp).1
  have g2 := hs b hS
  omega
theorem St.fxRd (K : St w0 L D W) (hm : (⟨fxP A n cap v, fxS A n v⟩ : Hl) ∈ D) (hi : i < n) : St w0 L (⟨rdP (v i).B (v i).m (v i).d (v i).k, rdS (v i).B (v i).m⟩ :: ⟨rdP (v i).A (v i).n (v i).c (v i).l, rdS (v i).A (v i).n⟩ :: D) W := by
  have h := K.okAt hm
  have h1 : (⟨rdP (v i).A (v i).n (v i).c (v i).l, rdS (v i).A (v i).n⟩ : Hl).ok L W := ⟨(h.1.2 i hi).1, fun b hS => h.2.1 b (Or.inr ⟨i, hi, Or.inl hS⟩), fun W' g1 g2 => rdP_keep (h.1.2 i hi).1 g1 g2⟩
  have h2 : (⟨rdP (v i).B (v i).m (v i).d (v i).k, rdS (v i).B (v i).m⟩ : Hl).ok L W := ⟨(h.1.2 i hi).2, fun b hS => h.2.1 b (Or.inr ⟨i, hi, Or.inr hS⟩), fun W' g1 g2 => rdP_keep (h.1.2 i hi).2 g1 g2⟩
  exact (K.add h1).add h2
theorem St.fxAt (K : St w0 L D W) (hm : (⟨fxP A n cap v, fxS A n v⟩ : Hl) ∈ D) (hn : 0 < n) : ∃ b off, A = some ⟨b, off, none⟩ := by
  obtain ⟨b, off, e, -⟩ := (K.okAt hm).1.1.2.2.2 hn
  exact ⟨b, off, e⟩
theorem St.fxCell {b off : Nat} (K : St w0 L D W) (hm : (⟨fxP (some ⟨b, off, none⟩) n cap v, fxS (some ⟨b, off, none⟩) n v⟩ : Hl) ∈ D) (hi : i < n) :
    W.cell? ⟨b, off + i * 4, none⟩ = some (.int .i64 (v i).s) ∧ W.cell? ⟨b, off + i * 4 + 1, none⟩ = some (.slice (v i).A (v i).n (v i).c) ∧ W.cell? ⟨b, off + i * 4 + 2, none⟩ = some (.int .i64 (v i).t) ∧ W.cell? ⟨b, off + i * 4 + 3, none⟩ = some (.slice (v i).B (v i).m (v i).d) := by
  obtain ⟨b', off', e, hlt, hc⟩ := (K.okAt hm).1.1.2.2.2 (by omega)
  cases e
  obtain ⟨cs, hr, hlen, hj⟩ := hc i (by rw [ofF_len]; exact hi)
  have e2 : (ofF n v)[i]'(by rw [ofF_len]; exact hi) = v i := by
    have := ofF_get (f := v) hi
    rw [List.getElem?_eq_getElem (by rw [ofF_len]; exact hi)] at this
    exact Option.some.inj this
  rw [e2] at hr
  have hr : cs = (v i).cs := hr
  subst hr
  exact ⟨hj 0 _ rfl, hj 1 _ rfl, hj 2 _ rfl, hj 3 _ rfl⟩
theorem St.fxCap (K : St w0 L D W) (hm : (⟨fxP A n cap v, fxS A n v⟩ : Hl) ∈ D) : n ≤ cap ∧ cap ≤ 9223372036854775807 := ⟨(K.okAt hm).1.1.2.1, (K.okAt hm).1.1.2.2.1.1⟩
end
end Go.Proofs.Ytdlcglndhhndpaa
namespace Go.Proofs.Ytdlcglndhhndpaa
open Go.RowKit
theorem addS {x z : Rat} {y : Rw} {o : Option Rat} {er : Int} (ho : o = binO true (addK x z) (x + z)) (he : er = binE true (addK x z)) (h : OptF y.s y.l y.t y.k o) : AddS x z y er := by
  unfold binO at ho
  unfold binE at he
  unfold AddS
  generalize hk : addK x z = B at ho he
  cases B
  · have e1 : er = 6 := by simpa using he
    subst e1
    exact ⟨(fun e => by cases e), rfl⟩
  · have e1 : er = 0 := by simpa using he
    have e2 : o = some (x + z) := by simpa using ho
    subst e1 e2
    exact ⟨fun _ => ⟨h, addK_fits hk⟩, rfl⟩
theorem divS {x z : Rat} {y : Rw} {o : Option Rat} {er : Int} (h0 : z ≠ 0) (ho : o = divO1 x z) (he : er = divE1 x z) (h : OptF y.s y.l y.t y.k o) : DivS x z y er := by
  unfold divO1 at ho
  unfold divE1 at he
  unfold DivS
  generalize hk : divK x z = B at ho he
  cases B
  · exact ZQ87
  · rw [if_pos rfl] at ho he
    subst ho he
    exact ⟨fun _ => ⟨h, divK_fits hk h0⟩, rfl⟩
section
variable {w0 W : World} {L : List Blk} {D : List Hl}
theorem callAdd {Y Z : Rw} {f q : Rat} (K : St w0 L D W) (hY : isQ Y f) (hZ : isQ Z q) (m1 : (⟨rdP Y.A Y.n Y.c Y.l, rdS Y.A Y.n⟩ : Hl) ∈ D) (m2 : (⟨rdP Y.B Y.m Y.d Y.k, rdS Y.B Y.m⟩ : Hl) ∈ D) (m3 : (⟨rdP Z.A Z.n Z.c Z.l, rdS Z.A Z.n⟩ : Hl) ∈ D) (m4 : (⟨rdP Z.B Z.m Z.d Z.k, rdS Z.B Z.m⟩ : Hl) ∈ D) :
    Calls Try.prog 24 #[.agg #[.int .i64 Y.s, .slice Y.A Y.n Y.c, .int .i64 Y.t, .slice Y.B Y.m Y.d], .agg #[.int .i64 Z.s, .slice Z.A Z.n Z.c, .int .i64 Z.t, .slice Z.B Z.m Z.d]] W (FrT w0 L D (AddS f q)) := by
  obtain ⟨o, ho⟩ : ∃ o, o = binO true (addK f q) (f + q) := ⟨_, rfl⟩
  obtain ⟨er, her⟩ : ∃ er, er = binE true (addK f q) := ⟨_, rfl⟩
  have h := fAdd_any Y.s Y.t Z.s Z.t Y.A Y.B Z.A Z.B Y.n Y.c Y.m Y.d Z.n Z.c Z.m Z.d Y.l Y.k Z.l Z.k W (K.rd m1) (K.rd m2) (K.rd m3) (K.rd m4)
  rw [hY.1.right hY.2, hZ.1.right hZ.2, hY.1.rat, hZ.1.rat, Bool.and_true, ← ho, ← her] at h
  have HS := fun y : Rw => addS (y := y) ho her
  clear ho her
  exact h.mono fun e W' ⟨s31, A31, n31, c31, l31, t31, B31, m31, d31, k31, he, ⟨hra, hrb⟩, hop, ⟨hfa, hfb⟩, hbb⟩ => ⟨⟨s31, A31, n31, c31, l31, t31, B31, m31, d31, k31⟩, er, he, Lib.hid (HS _ hop), K.retF hbb hra hrb hfa hfb⟩
theorem callDiv {Y Z : Rw} {f q : Rat} (K : St w0 L D W) (hY : isQ Y f) (hZ : isQ Z q) (h0 : q ≠ 0) (m1 : (⟨rdP Y.A Y.n Y.c Y.l, rdS Y.A Y.n⟩ : Hl) ∈ D) (m2 : (⟨rdP Y.B Y.m Y.d Y.k, rdS Y.B Y.m⟩ : Hl) ∈ D) (m3 : (⟨rdP Z.A Z.n Z.c Z.l, rdS Z.A Z.n⟩ : Hl) ∈ D) (m4 : (⟨rdP Z.B Z.m Z.d Z.k, rdS Z.B Z.m⟩ : Hl) ∈ D) :
    Calls Try.prog 120 #[.agg #[.int .i64 Y.s, .slice Y.A Y.n Y.c, .int .i64 Y.t, .slice Y.B Y.m Y.d], .agg #[.int .i64 Z.s, .slice Z.A Z.n Z.c, .int .i64 Z.t, .slice Z.B Z.m Z.d]] W (FrT w0 L D (DivS f q)) := by
  obtain ⟨o, ho⟩ : ∃ o, o = divO1 f q := ⟨_, rfl⟩
  obtain ⟨er, her⟩ : ∃ er, er = divE1 f q := ⟨_, rfl⟩
  have h := qDiv f q Y.s Y.t Z.s Z.t Y.A Y.B Z.A Z.B Y.n Y.c Y.m Y.d Z.n Z.c Z.m Z.d Y.l Y.k Z.l Z.k W (K.rd m1) (K.rd m2) (K.rd m3) (K.rd m4) hY.1 hY.2 hZ.1 hZ.2 h0
  rw [← ho, ← her] at h
  have HS := fun y : Rw => divS (y := y) h0 ho her
  clear ho her
  exact h.mono fun e W' ⟨s31, A31, n31, c31, l31, t31, B31, m31, d31, k31, he, ⟨hra, hrb⟩, hop, ⟨hfa, hfb⟩, hbb⟩ => ⟨⟨s31, A31, n31, c31, l31, t31, B31, m31, d31, k31⟩, er, he, Lib.hid (HS _ hop), K.retF hbb hra hrb hfa hfb⟩
end
def prdK (x y : Nat → Rat) : Nat → Bool
  | 0 => true
  | n + 1 => prdK x y n && (mulK (x n) (y n) && addK (smQ (fun i => x i * y i) n) (x n * y n))
theorem prdK_succ (x y : Nat → Rat) (n : Nat) : prdK x y (n + 1) = (prdK x y n && (mulK (x n) (y n) && addK (smQ (fun i => x i * y i) n) (x n * y n))) := by rw [prdK]
theorem prdK_pre {x y : Nat → Rat} : ∀ {n k : Nat}, prdK x y n = true → k ≤ n → prdK x y k = true
  | 0, k, h, hk => by rw [show k = 0 by omega]; exact h
  | n + 1, k, h, hk => by
    by_cases e : k = n + 1
    · rw [e]; exact h
    · rw [prdK_succ, Bool.and_eq_true] at h
      exact prdK_pre h.1 (by omega)
end Go.Proofs.Ytdlcglndhhndpaa
namespace Go.Proofs.Ytdlcglndhhndpaa
open Go.RowKit
theorem Upd.none {b : Nat} {c c' : Bool} {R : List Value} {t : TypeId} {L L' : List Blk} (h : Upd b (Value.bool c :: R).toArray t (Value.bool c' :: R).toArray L L') (e : c = c') : L = L' := by
  subst e
  revert h
  generalize (Value.bool c :: R).toArray = cs
  intro h
  induction h with
  | head L => rfl
  | tail x h ih => rw [ih]
end Go.Proofs.Ytdlcglndhhndpaa
namespace Go.Proofs.Ytdlcglndhhndpaa
open Go.RowKit
def ZrP (w0 : World) (L : List Blk) (D : List Hl) (n : Nat) (x : Nat → Rat) (e : Ending) (W' : World) : Prop :=
  ∃ (g : Nat) (v : Nat → Rw), e = Ending.returned (.slice (some ⟨g, 0, none⟩) n n) ∧ Hid (∀ j, j < n → isQ (v j) (x j)) ∧ St w0 ((g, rwA n v [], 40) :: L) (⟨rwP n v, rwS n v⟩ :: D) W'
set_option maxRecDepth 100000 in
set_option maxHeartbeats 2000000 in
theorem zeros_any (n : Nat) (w0 W : World) (L : List Blk) (D : List Hl) (K : St w0 L D W) (hn : n ≤ 1000) :
    Calls Try.prog 68 #[.int .i64 n] W (ZrP w0 L D n fun _ => 0) := by
  have HZ := Lib.hid pzero_any
  have hn0 : (0 : Int) ≤ (n : Int) := by omega
  have r := K.raw
  go_enter Try.func68, Try.ntmps68
  go_wp2_with (at_make; refine K.make rfl _ _ _ _ rfl _ _ _ Try.underlying23 frac_made n rfl rfl _ (made_fracs n) (by omega) (by omega) ?_; clear K r; intro W0 g K; have r := K.rawS)
  go_loopg [9] n (fun gk s9 wr => ∃ (k : Nat) (v : Nat → Rw), k ≤ n ∧ gk = n - k ∧ s9 = .int .i64 k ∧ Hid (∀ j, j < k → isQ (v j) 0) ∧ St w0 ((g, rwA n v [], 40) :: L) (⟨rwP n v, rwS n v⟩ :: D) wr)
  case atStart => exact ⟨0, fun _ => Rw.zero, Nat.zero_le _, rfl, rfl, Lib.hid (fun j h => absurd h (by omega)), K.rwNew n⟩
  case round =>
    clear K r
    obtain ⟨k, v, hk, rfl, rfl, HV, K⟩ := hrel
    by_cases hlt : k < n
    · have hki : (k : Int) < (n : Int) := by omega
      have hk0 : (0 : Int) ≤ (k : Int) := by omega
      have r := K.rawS
      go_wp2_with (first
        | (go_at_call 100; refine (HZ.out _).mono ?_; rintro e W' ⟨s7, A7, n7, c7, l7, t7, B7, m7, d7, k7, rfl, ⟨hra, hrb⟩, ho, ⟨hfa, hfb⟩, hb⟩; replace K := K.retF hb hra hrb hfa hfb; clear hra hrb hfa hfb hb r; have HO := Lib.hid ho; clear ho; have r := K.rawS)
        | (refine K.storeR rfl rfl _ _ _ rfl g k n (⟨s7, A7, n7, c7, l7, t7, B7, m7, d7, k7⟩ : Rw) rfl rfl hlt ZUA frac_size ?_; clear K r; intro W8 K))
      have HK := Lib.hid ((K.rwPut (v := v) (⟨s7, A7, n7, c7, l7, t7, B7, m7, d7, k7⟩ : Rw) k ZMB ZMB ZMB).less (D' := ⟨rwP n (putF v k (⟨s7, A7, n7, c7, l7, t7, B7, m7, d7, k7⟩ : Rw)), rwS n (putF v k (⟨s7, A7, n7, c7, l7, t7, B7, m7, d7, k7⟩ : Rw))⟩ :: D) fun x hx => by
        simp only [List.mem_cons] at hx ⊢
        rcases hx with h | h
        · exact Or.inl h
        · exact Or.inr (Or.inr (Or.inr (Or.inr h))))
      have HV2 := Lib.hid (show ∀ j, j < k + 1 → isQ (putF v k (⟨s7, A7, n7, c7, l7, t7, B7, m7, d7, k7⟩ : Rw) j) 0 from fun j hj => by
        by_cases e : j = k
        · subst e; rw [putF_same]; exact ⟨HO.out, fitsF_zero⟩
        · rw [putF_other e]; exact HV.out j (by omega))
      clear K HO HV
      go_wp2_with fail
      go_roundg (n - (k + 1))
      case rel => exact ⟨k + 1, _, hlt, rfl, by go_num, HV2, HK.out⟩
      case measure => omega
    · have e : n = k := by omega
      subst e
      have HE := Lib.hid (⟨g, v, rfl, HV, K⟩ : ZrP w0 L D n (fun _ => 0) (.returned (.slice (some ⟨g, 0, none⟩) n n)) wr)
      clear K HV hlt
      go_wp2_with fail
      go_ret
      exact HE.out
end Go.Proofs.Ytdlcglndhhndpaa
namespace Go.Proofs.Ytdlcglndhhndpaa
open Go.RowKit
section
variable {P : Program} {o : Oper} {a : Act} {KK : Act → World → Prop} {Q : Exit → Act → World → Prop} {w W : World} {L X : List Blk} {D : List Hl}
theorem St.litOp (K : St w L D W) (ty : TypeId) (x : Operand) (ho : o.op = .buildSlice ty 1 #[(0, x)]) (u : Value) (hx : a.eval x = u) (cs : Array Value) (e : TypeId) (hrun : (Instr.buildSlice ty 1 #[(0, u)]).run P W = .ok (.slice (some ⟨W.heap.size, 0, none⟩) 1 1) (W.alloc (.cells cs e)))
    (h : ∀ b W', St w ((b, cs, e) :: L) D W' → KK (a.put o.dst (.slice (some ⟨b, 0, none⟩) 1 1)) W') : o.wp P a W KK Q := by
  unfold Oper.wp execOp
  simp [ho, hx, hrun, Oper.upon]
  exact h _ _ (K.new cs e)
theorem St.appOp {α : Type} {sz : Nat} {enc : α → List Value} {e : TypeId} {v : Value} {l : List α} (K : St w (X ++ L) D W) (ho : OwL sz enc e v l X) (hs : Sized sz enc) (s x : Operand) (t : TypeId)
    (hop : o.op = .call { callee := .builtin .append, args := #[s, x], argTypes := #[t, t] }) (z : Array Value) (bytes : Nat) (ht : P.underlying t = some (.slice e)) (hi : (P.info? e).map (fun i => (i.zero.map (·.cells), i.size, i.bytes)) = some (some z, sz, bytes)) (hz : z.size = sz)
    (hv : a.eval s = v) (y : α) (b : Nat) (e' : TypeId) (hb : ((b, (enc y).toArray, e') : Blk) ∈ L) (hx : a.eval x = .slice (some ⟨b, 0, none⟩) 1 1) (hlen : l.length ≤ 1000000) (hbb : bytes ≤ 1000)
    (h : ∀ v' X' W', OwL sz enc e v' (l ++ [y]) X' → St w (X' ++ L) D W' → KK (a.put o.dst v') W') : o.wp P a W KK Q := by
  obtain ⟨i, h1, h2⟩ := Option.map_eq_some_iff.1 hi
  simp only [Prod.mk.injEq] at h2
  obtain ⟨h2, h3, h4⟩ := h2
  obtain ⟨zv, h5, h6⟩ := Option.map_eq_some_iff.1 h2
  have hB := K.blk (List.mem_append_right X hb)
  have hr : Rd sz (flat enc) W W.heap.size (some ⟨b, 0, none⟩) 1 1 [y] := ⟨rfl, Nat.le_refl _, ⟨by omega, by omega⟩, fun _ => ⟨b, 0, rfl, hB.lt, fun k hk => by
    have hk0 : k = 0 := by simp at hk; exact hk
    subst hk0
    exact ⟨enc y, rfl, (hs.2 y).1, fun j u hu => by
      rw [Nat.zero_add, Nat.zero_mul, Nat.zero_add]
      exact hB.cell (by rw [List.getElem?_toArray]; exact hu)⟩⟩⟩
  have hbyt : (l.length + 1) * bytes ≤ (1000000 + 1) * 1000 := Nat.mul_le_mul (by omega) hbb
  obtain ⟨v', W', hrun, g1, g2, g3⟩ := run_app (P := P) W hs w.heap.size t o.type e i zv bytes ht h1 h5 h3 h4 (by rw [h6, hz]) v l (ho.own hs K) W.heap.size (some ⟨b, 0, none⟩) 1 1 [y] hr (by unfold maxLen; omega) (by omega) K.1.size
  obtain ⟨X', hX, K'⟩ := ho.of hs K g1 (grown_kept g2) (fun g hg => by
    rcases g3 with g3 | g3
    · exact Or.inl (g3 ▸ hg)
    · rw [g3] at hg
      injection hg with hg
      right
      omega)
  unfold Oper.wp execOp
  simp only [hop, resolve, invoke, builtin, Sem.run_bind, Sem.run_pure, Result.andThen_ok, List.map_toArray, List.map_cons, List.map_nil, hv, hx, hrun]
  exact h v' X' W' hX K'
theorem St.setOp1 {L' : List Blk} (K : St w L D W) (hd : o.dst = none) (ty : TypeId) (x y : Operand) (ho : o.op = .store ty x y) {b off : Nat} {cs cs' : Array Value} {t : TypeId} (u : Value) (hx : a.eval x = .pointer (some ⟨b, off, none⟩)) (hy : a.eval y = u) (hu : u.cells = #[u])
    (hU : Upd b cs t cs' L L') (hcs : cs.setIfInBounds off u = cs') (hi : (P.info? ty).map (·.size) = some 1) (hfit : off < cs.size) (h1 : u.oneCell' = true) (h : ∀ W', St w L' D W' → KK a W') : o.wp P a W KK Q := by
  obtain ⟨W', r1, r2, r3⟩ := run_storeVar_any (P := P) (off := off) ty u (K.blk hU.mem) (by rw [hi, hu]; rfl) (by rw [hu]; simpa using Nat.succ_le_of_lt hfit) (fun z hz => by rw [hu] at hz; simp at hz; rw [hz]; exact h1)
  have e : spl cs off u.cells.toList = cs' := by rw [hu]; exact hcs
  rw [e] at r2
  unfold Oper.wp execOp
  simp only [ho, hx, hy, Instr.storeAt, Instr.sureAddr, Sem.run_bind, Sem.run_pure, Result.andThen_ok, r1]
  have := h W' (K.upd hU r3 r2)
  have e : a.put o.dst undef = a := by rw [hd]; rfl
  first | exact this | (rw [e]; exact this) | (simp only [Oper.upon]; first | exact this | (rw [e]; exact this))
end
theorem wpAnyT.two {P : Program} {ops : Array Oper} {Q : Exit → Act → World → Prop} {md : Region.Mode} {S : World → Prop} {n i j : Nat} {oi oj : Oper} {fuel : Nat} {listed : Array Bool} {a : Act} {w : World} (hi : ops[i]? = some oi) (hj : ops[j]? = some oj) (hg : oi.guard = none) (hg' : oj.guard = none) (hB : (decide (i ≠ n) && decide (j ≠ n) && decide (Region.ready md ops listed = [i, j])) = true)
    (h : ∀ K : Act → World → Prop, Hid (∀ a' w', S w' → (S w' → wpAnyT P md ops Q S n fuel (listed.setIfInBounds i true) a' w') → K a' w') → oi.wp P a w K Q)
    (h' : ∀ K : Act → World → Prop, Hid (∀ a' w', S w' → (S w' → wpAnyT P md ops Q S n fuel (listed.setIfInBounds j true) a' w') → K a' w') → oj.wp P a w K Q) : wpAnyT P md ops Q S n (fuel + 1) listed a w := by
  simp only [Bool.and_eq_true, decide_eq_true_eq] at hB
  refine ⟨(fun h0 => by rw [hB.2] at h0; cases h0), fun k hk => ?_⟩
  rw [hB.2] at hk
  have hw : ∀ o : Oper, o.guard = none → Region.wanted o (yielded ops a.tmps) = true := fun o hg => by simp [Region.wanted, hg]
  rcases List.mem_cons.1 hk with rfl | hk
  · unfold wpOp
    simp only [hi, hw oi hg, if_true]
    exact Or.inl (h _ (Lib.hid fun a' w' hS hW => ⟨fun _ => hS, hW hS⟩))
  · rw [List.mem_singleton] at hk
    subst hk
    unfold wpOp
    simp only [hj, hw oj hg', if_true]
    exact Or.inl (h' _ (Lib.hid fun a' w' hS hW => ⟨fun _ => hS, hW hS⟩))
end Go.Proofs.Ytdlcglndhhndpaa
