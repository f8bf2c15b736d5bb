/- Laws and walks; conditions stand in each theorem. -/
import Derived.Test.YtdlcglndhhndpaaGreatL13
import Derived.Test.YtdlcglndhhndpaaGreatL10
import Derived.Test.YtdlcglndhhndpaaGreatL08
set_option linter.unusedSimpArgs false
set_option linter.unusedVariables false
set_option maxHeartbeats 1000000
set_option maxRecDepth 100000
namespace Go.Proofs.YtdlcglndhhndpaaGreat
open Go.RowKit
theorem ZL103 {p : Prop} (h : p := by
 first
  | (rw [if_neg (by decide)] at ho he
     subst he
     exact ⟨(fun e => by cases e), rfl⟩)
  | fail) : p := h
def MulS (f q : Rat) (y : Rw) (er : Int) : Prop := (er = 0 → isQ y (f * q)) ∧ (er != 0) = !mulK f q
def SubS (x z : Rat) (y : Rw) (er : Int) : Prop := (er = 0 → isQ y (x - z)) ∧ (er != 0) = !addK x (-z)
def DivS (x z : Rat) (y : Rw) (er : Int) : Prop := (er = 0 → isQ y (x / z)) ∧ (er != 0) = !divK x z
def AddS (x z : Rat) (y : Rw) (er : Int) : Prop := (er = 0 → isQ y (x + z)) ∧ (er != 0) = !addK x z
def FrT (w0 : World) (L : List Blk) (D : List Hl) (G : Rw → Int → Prop) (e : Ending) (W' : World) : Prop :=
 ∃ y er, e = Ending.returned (.tuple #[.agg #[.int .i64 y.s, .slice y.A y.n y.c, .int .i64 y.t, .slice y.B y.m y.d], .int .i64 er]) ∧ Hid (G y er) ∧ St w0 L (⟨rdP y.B y.m y.d y.k, rdS y.B y.m⟩ :: ⟨rdP y.A y.n y.c y.l, rdS y.A y.n⟩ :: D) W'
theorem mulS {f q : Rat} {y : Rw} {o : Option Rat} {er : Int} (ho : o = mulO1 f q) (he : er = mulE1 f q) (h : OptF y.s y.l y.t y.k o) : MulS f q y er := by
 unfold mulO1 at ho
 unfold mulE1 at he
 unfold MulS
 generalize hk : mulK f q = B at ho he
 cases B
 · exact ZL103
 · rw [if_pos rfl] at ho he
   subst ho he
   exact ⟨fun _ => ⟨h, mulK_fits hk⟩, rfl⟩
theorem subS {x z : Rat} {y : Rw} {o : Option Rat} {er : Int} (ho : o = subO1 x (some z)) (he : er = subE1 x (some z)) (h : OptF y.s y.l y.t y.k o) : SubS x z y er := by
 rw [subO1_some] at ho
 rw [subE1_some] at he
 unfold SubS
 generalize hk : addK x (-z) = B at ho he
 cases B
 · exact ZL103
 · rw [if_pos rfl] at ho he
   subst ho he
   exact ⟨fun _ => ⟨h, by rw [Rat.sub_eq_add_neg]; exact addK_fits hk⟩, rfl⟩
section
variable {w0 W : World} {L : List Blk} {D : List Hl}
end
theorem rdF_raw {w : World} {B : Nat} {A : Option Addr} {n cap : Nat} {l : List Fv} (h : RdF w B A n cap l) : ∃ v : Nat → Rw, Rd 4 (flat Rw.cs) w B A n cap (ofF n v) ∧ (∀ i, i < n → RdI w B (v i).A (v i).n (v i).c (v i).l ∧ RdI w B (v i).B (v i).m (v i).d (v i).k) ∧ ∀ i, i < n → l[i]? = some (v i).fv := by
 by_cases hn : n = 0
 · subst hn
   exact ⟨fun _ => Rw.zero, ⟨rfl, h.2.1, h.2.2.1, fun h => absurd h (by omega)⟩, fun i hi => absurd hi (by omega), fun i hi => absurd hi (by omega)⟩
 · obtain ⟨b, off, rfl, hb, hc⟩ := h.2.2.2 (by omega)
   have hl := h.1
   have ex : ∀ k, k < n → ∃ x : Rw, l[k]? = some x.fv ∧ (∀ (j : Nat) u, x.cs[j]? = some u → w.cell? ⟨b, off + k * 4 + j, none⟩ = some u) ∧ RdI w B x.A x.n x.c x.l ∧ RdI w B x.B x.m x.d x.k := fun k hk => by
    obtain ⟨cs, ⟨A1, n1, c1, A2, n2, c2, rfl, h1, h2⟩, _, hj⟩ := hc k (by omega)
    exact ⟨⟨l[k].s, A1, n1, c1, l[k].l, l[k].t, A2, n2, c2, l[k].m⟩, by rw [List.getElem?_eq_getElem (by omega)]; rfl, hj, h1, h2⟩
   obtain ⟨v, hv⟩ : ∃ v : Nat → Rw, ∀ k, (hk : k < n) → v k = Classical.choose (ex k hk) := ⟨fun k => if hk : k < n then Classical.choose (ex k hk) else Rw.zero, fun k hk => dif_pos hk⟩
   have hs : ∀ k, k < n → l[k]? = some (v k).fv ∧ (∀ (j : Nat) u, (v k).cs[j]? = some u → w.cell? ⟨b, off + k * 4 + j, none⟩ = some u) ∧ RdI w B (v k).A (v k).n (v k).c (v k).l ∧ RdI w B (v k).B (v k).m (v k).d (v k).k := fun k hk => by
    rw [hv k hk]
    exact Classical.choose_spec (ex k hk)
   refine ⟨v, ⟨ofF_len, h.2.1, h.2.2.1, fun _ => ⟨b, off, rfl, hb, fun k hk => ?_⟩⟩, fun i hi => (hs i hi).2.2, fun i hi => (hs i hi).1⟩
   rw [ofF_len] at hk
   refine ⟨(v k).cs, ?_, rfl, (hs k hk).2.1⟩
   have e : (ofF n v)[k]'(by rw [ofF_len]; exact hk) = v k := by
    have := ofF_get (f := v) hk
    exact ZL36
   rw [e]
   rfl
theorem frac_parts : ∃ i z, Tryz.prog.info? 50 = some i ∧ i.zero = some z ∧ i.size = 4 ∧ i.bytes = 64 ∧ z.cells.size = 4 := by
 obtain ⟨i, h1, h2⟩ := Option.map_eq_some_iff.1 frac_made
 simp only [Prod.mk.injEq] at h2
 obtain ⟨h2, h3, h4⟩ := h2
 obtain ⟨z, h5, h6⟩ := Option.map_eq_some_iff.1 h2
 exact ⟨i, z, h1, h5, h3, h4, by rw [h6]; rfl⟩
theorem lclone_own (A : Option Addr) (n cap : Nat) (v : Nat → Rw) (w0 w : World) (L : List Blk) (D : List Hl) (K : St w0 L D w) (hl : Rd 4 (flat Rw.cs) w w.heap.size A n cap (ofF n v)) (hn2 : n ≤ 1000) :
 Calls Tryz.prog 84 #[.slice A n cap] w fun e w' => ∃ val X, e = .returned val ∧ OwL 4 Rw.cs 50 val (ofF n v) X ∧ St w0 (X ++ L) D w' := by
 obtain ⟨i0, z0, hi0, hz0, hz1, hz2, hz3⟩ := frac_parts
 have ho0 : Own 4 Rw.cs (w.alloc (.cells #[] 50)) w.heap.size 50 (.slice (some ⟨w.heap.size, 0, none⟩) 0 0) ([] : List Rw) := Own.lit rw_sized (Nat.le_refl _) [] #[] rfl rfl (by omega)
 have hb0 := (Below.refl w.heap.size w).alloc (Nat.le_refl _) (.cells #[] 50)
 have HK := Lib.hid K
 cases A with
 | none =>
  have hn0 : n = 0 := by
   rcases Nat.eq_zero_or_pos n with h | h
   · exact h
   · obtain ⟨b, off, h, _⟩ := hl.2.2.2 h; cases h
  subst hn0
  have hnil := fun w => run_eql_slice_nil (P := Tryz.prog) w 23 50 none 0 cap Tryz.underlying23
  clear ho0 hb0 hl K
  go_enter Tryz.func84, Tryz.ntmps84
  go_wp2
  go_ret
  exact ⟨_, [], rfl, OwL.nil, HK.out⟩
 | some a =>
  have hnil := fun w => run_eql_slice_nil (P := Tryz.prog) w 23 50 (some a) n cap Tryz.underlying23
  have hk0 := (Kept.refl (fun b => (Value.slice none 0 0).ownBlock = some b) w).alloc (.cells #[] 50)
  clear K
  go_enter Tryz.func84, Tryz.ntmps84
  go_wp2_with (at_builtin
               refine wpList_app _ rw_sized rfl _ _ 23 rfl w.heap.size 50 i0 _ 64 Tryz.underlying23 hi0 hz0 hz1 hz2 hz3 _ [] rfl ho0 _ _ n cap (ofF n v) rfl (hl.up (flat_lasts _) hb0) (by simp only [maxLen, List.length_nil]; omega) (by simp only [List.length_nil]; omega) (by simp) ?_
               intro v4 w4 ho4 hg4 hx4
               have hb4 : Below w.heap.size w w4 := Own.grow ho0 (Nat.le_refl _) hb0 (by simp) hg4)
  go_ret
  rw [List.nil_append] at ho4
  have hk4 : Kept (fun b => (Value.slice none 0 0).ownBlock = some b) w w4 := ⟨hb4.os, hb4.tape, hb4.output, hb4.size, fun i hi _ => hb4.block i hi⟩
  obtain ⟨X', hX, hK'⟩ := OwL.of (X := []) rw_sized OwL.nil HK.out (ho4.mono HK.out.1.size) hk4 (fun g hg => Or.inr (by
   rcases ho4.2 with ⟨rfl, -⟩ | ⟨g', cap', cur, rfl, hg', -⟩
   · cases hg
   · have e : some g' = some g := hg
     injection e with e
     rw [← e]; exact hg'))
  exact ⟨_, X', rfl, hX, hK'⟩
def fxP (A : Option Addr) (n cap : Nat) (v : Nat → Rw) : World → Prop := fun W => Rd 4 (flat Rw.cs) W W.heap.size A n cap (ofF n v) ∧ rwP n v W
def fxS (A : Option Addr) (n : Nat) (v : Nat → Rw) : Nat → Prop := fun b => rdS A n b ∨ rwS n v b
theorem Rd.only {α : Type} {sz : Nat} {enc : α → List Value} {W W' : World} {A : Option Addr} {n cap : Nat} {l : List α} (h : Rd sz (flat enc) W W.heap.size A n cap l) (hs : W.heap.size ≤ W'.heap.size) (hb : ∀ b, rdS A n b → W'.heap[b]? = W.heap[b]?) : Rd sz (flat enc) W' W'.heap.size A n cap l := by
 refine ⟨h.1, h.2.1, h.2.2.1, fun hn => ?_⟩
 obtain ⟨b', off, e, hlt, hc⟩ := h.2.2.2 hn
 refine ⟨b', off, e, Nat.lt_of_lt_of_le hlt hs, fun k hk => ?_⟩
 obtain ⟨cs, hr, hlen, hj⟩ := hc k hk
 exact ⟨cs, hr, hlen, fun j u hu => (cell_of (p := ⟨b', off + k * sz + j, none⟩) (hb b' ⟨hn, _, e, rfl⟩)).trans (hj j u hu)⟩
theorem fx_keep {A : Option Addr} {n cap : Nat} {v : Nat → Rw} {W W' : World} (h : fxP A n cap v W) (hs : W.heap.size ≤ W'.heap.size) (hb : ∀ b, fxS A n v b → W'.heap[b]? = W.heap[b]?) : fxP A n cap v W' :=
 ⟨h.1.only hs fun b hS => hb b (Or.inl hS), fun i hi => ⟨rdP_keep (h.2 i hi).1 hs fun b hS => hb b (Or.inr ⟨i, hi, Or.inl hS⟩), rdP_keep (h.2 i hi).2 hs fun b hS => hb b (Or.inr ⟨i, hi, Or.inr hS⟩)⟩⟩
theorem Rd.sup {α : Type} {sz : Nat} {R : Enc α} {W : World} {B : Nat} {A : Option Addr} {n cap : Nat} {l : List α} (h : Rd sz R W B A n cap l) {b : Nat} (hS : rdS A n b) : b < B := by
 obtain ⟨hn, a, rfl, rfl⟩ := hS
 obtain ⟨b', off, e, hlt, -⟩ := h.2.2.2 hn
 rw [Option.some.inj e]
 exact hlt
theorem fx_sup {A : Option Addr} {n cap : Nat} {v : Nat → Rw} {W : World} (h : fxP A n cap v W) {b : Nat} (hS : fxS A n v b) : b < W.heap.size := by
 rcases hS with hS | ⟨i, hi, hS | hS⟩
 · exact h.1.sup hS
 · exact Rd.sup (h.2 i hi).1 hS
 · exact Rd.sup (h.2 i hi).2 hS
section
variable {w0 w W : World} {L : List Blk} {D : List Hl} {A : Option Addr} {n cap i : Nat} {v : Nat → Rw}
theorem St.fxAdd (K : St w0 L D W) (h : fxP A n cap v W) (hd : ∀ b, fxS A n v b → ∀ p ∈ L, p.1 ≠ b) : St w0 L (⟨fxP A n cap v, fxS A n v⟩ :: D) W :=
 K.add ⟨h, fun b hS => ⟨fx_sup h hS, hd b hS⟩, fun W' h1 h2 => fx_keep h h1 h2⟩
theorem St.fxOld (K : St w L D W) {l : List Fv} (h : RdF w w.heap.size A n cap l) : ∃ v : Nat → Rw, (∀ i, i < n → l[i]? = some (v i).fv) ∧ St w L (⟨fxP A n cap v, fxS A n v⟩ :: D) W := by
 obtain ⟨v, h1, h2, h3⟩ := rdF_raw h
 have h0 : fxP A n cap v w := ⟨h1, fun i hi => h2 i hi⟩
 have hs : ∀ b, fxS A n v b → b < w.heap.size := fun b hS => fx_sup h0 hS
 refine ⟨v, h3, K.fxAdd (fx_keep h0 K.1.size fun b hS => K.1.block b (hs b hS)) fun b hS p hp e => ?_⟩
 have g1 := (K.2.1 p hp).1
 have g2 := hs b hS
 omega
theorem St.fxRd (K : St w0 L D W) (hm : (⟨fxP A n cap v, fxS A n v⟩ : Hl) ∈ D) (hi : i < n) : St w0 L (⟨rdP (v i).B (v i).m (v i).d (v i).k, rdS (v i).B (v i).m⟩ :: ⟨rdP (v i).A (v i).n (v i).c (v i).l, rdS (v i).A (v i).n⟩ :: D) W := by
 have h := K.okAt hm
 have h1 : (⟨rdP (v i).A (v i).n (v i).c (v i).l, rdS (v i).A (v i).n⟩ : Hl).ok L W := ⟨(h.1.2 i hi).1, fun b hS => h.2.1 b (Or.inr ⟨i, hi, Or.inl hS⟩), fun W' g1 g2 => rdP_keep (h.1.2 i hi).1 g1 g2⟩
 have h2 : (⟨rdP (v i).B (v i).m (v i).d (v i).k, rdS (v i).B (v i).m⟩ : Hl).ok L W := ⟨(h.1.2 i hi).2, fun b hS => h.2.1 b (Or.inr ⟨i, hi, Or.inr hS⟩), fun W' g1 g2 => rdP_keep (h.1.2 i hi).2 g1 g2⟩
 exact (K.add h1).add h2
theorem St.fxAt (K : St w0 L D W) (hm : (⟨fxP A n cap v, fxS A n v⟩ : Hl) ∈ D) (hn : 0 < n) : ∃ b off, A = some ⟨b, off, none⟩ := by
 obtain ⟨b, off, e, -⟩ := (K.okAt hm).1.1.2.2.2 hn
 exact ⟨b, off, e⟩
theorem St.fxCell {b off : Nat} (K : St w0 L D W) (hm : (⟨fxP (some ⟨b, off, none⟩) n cap v, fxS (some ⟨b, off, none⟩) n v⟩ : Hl) ∈ D) (hi : i < n) :
 W.cell? ⟨b, off + i * 4, none⟩ = some (.int .i64 (v i).s) ∧ W.cell? ⟨b, off + i * 4 + 1, none⟩ = some (.slice (v i).A (v i).n (v i).c) ∧ W.cell? ⟨b, off + i * 4 + 2, none⟩ = some (.int .i64 (v i).t) ∧ W.cell? ⟨b, off + i * 4 + 3, none⟩ = some (.slice (v i).B (v i).m (v i).d) := by
 obtain ⟨b', off', e, hlt, hc⟩ := (K.okAt hm).1.1.2.2.2 (by omega)
 cases e
 obtain ⟨cs, hr, hlen, hj⟩ := hc i (by rw [ofF_len]; exact hi)
 have e2 : (ofF n v)[i]'(by rw [ofF_len]; exact hi) = v i := by
  have := ofF_get (f := v) hi
  rw [List.getElem?_eq_getElem (by rw [ofF_len]; exact hi)] at this
  exact Option.some.inj this
 rw [e2] at hr
 have hr : cs = (v i).cs := hr
 subst hr
 exact ⟨hj 0 _ rfl, hj 1 _ rfl, hj 2 _ rfl, hj 3 _ rfl⟩
end
theorem addS {x z : Rat} {y : Rw} {o : Option Rat} {er : Int} (ho : o = binO true (addK x z) (x + z)) (he : er = binE true (addK x z)) (h : OptF y.s y.l y.t y.k o) : AddS x z y er := by
 unfold binO at ho
 unfold binE at he
 unfold AddS
 generalize hk : addK x z = B at ho he
 cases B
 · have e1 : er = 6 := by simpa using he
   subst e1
   exact ⟨(fun e => by cases e), rfl⟩
 · have e1 : er = 0 := by simpa using he
   have e2 : o = some (x + z) := by simpa using ho
   subst e1 e2
   exact ⟨fun _ => ⟨h, addK_fits hk⟩, rfl⟩
theorem divS {x z : Rat} {y : Rw} {o : Option Rat} {er : Int} (h0 : z ≠ 0) (ho : o = divO1 x z) (he : er = divE1 x z) (h : OptF y.s y.l y.t y.k o) : DivS x z y er := by
 unfold divO1 at ho
 unfold divE1 at he
 unfold DivS
 generalize hk : divK x z = B at ho he
 cases B
 · exact ZL103
 · rw [if_pos rfl] at ho he
   subst ho he
   exact ⟨fun _ => ⟨h, divK_fits hk h0⟩, rfl⟩
section
variable {w0 W : World} {L : List Blk} {D : List Hl}
end
theorem Upd.none {b : Nat} {c c' : Bool} {R : List Value} {t : TypeId} {L L' : List Blk} (h : Upd b (Value.bool c :: R).toArray t (Value.bool c' :: R).toArray L L') (e : c = c') : L = L' := by
 subst e
 revert h
 generalize (Value.bool c :: R).toArray = cs
 intro h
 induction h with
 | head L => rfl
 | tail x h ih => rw [ih]
end Go.Proofs.YtdlcglndhhndpaaGreat
