/- Laws and walks; conditions stand in each theorem. -/
import Derived.Test.YtdlcglndhhndpaaGreatL32
import Derived.Test.YtdlcglndhhndpaaGreatL24
import Derived.Test.YtdlcglndhhndpaaGreatL33
import Derived.Test.YtdlcglndhhndpaaGreatL26
import Derived.Test.YtdlcglndhhndpaaGreatL17
import Derived.Test.YtdlcglndhhndpaaGreatL30
import Derived.Test.YtdlcglndhhndpaaGreatL08
import Derived.Test.YtdlcglndhhndpaaGreatL16
set_option linter.unusedSimpArgs false
set_option linter.unusedVariables false
set_option maxHeartbeats 2000000
set_option maxRecDepth 100000
namespace Go.Proofs.YtdlcglndhhndpaaGreat
open Go.RowKit
section
variable {w0 W : World} {L : List Blk} {D : List Hl}
def FrGE (w0 : World) (L : List Blk) (D : List Hl) (G : Rw → Int → Prop) (e : Ending) (W' : World) : Prop :=
 ∃ y er, e = Ending.returned (.tuple #[.agg #[.int .i64 y.s, .slice y.A y.n y.c, .int .i64 y.t, .slice y.B y.m y.d], .int .i64 er]) ∧ Hid (G y er ∧ FrA w0.heap.size y.A ∧ FrA w0.heap.size y.B) ∧ St w0 L (⟨rdP y.B y.m y.d y.k, rdS y.B y.m⟩ :: ⟨rdP y.A y.n y.c y.l, rdS y.A y.n⟩ :: D) W'
theorem callSubG {Y Z : Rw} {f q : Rat} (K : St w0 L D W) (hY : isQ Y f) (hZ : isQ Z q) (m1 : (⟨rdP Y.A Y.n Y.c Y.l, rdS Y.A Y.n⟩ : Hl) ∈ D) (m2 : (⟨rdP Y.B Y.m Y.d Y.k, rdS Y.B Y.m⟩ : Hl) ∈ D) (m3 : (⟨rdP Z.A Z.n Z.c Z.l, rdS Z.A Z.n⟩ : Hl) ∈ D) (m4 : (⟨rdP Z.B Z.m Z.d Z.k, rdS Z.B Z.m⟩ : Hl) ∈ D) :
 Calls Tryz.prog 43 #[.agg #[.int .i64 Y.s, .slice Y.A Y.n Y.c, .int .i64 Y.t, .slice Y.B Y.m Y.d], .agg #[.int .i64 Z.s, .slice Z.A Z.n Z.c, .int .i64 Z.t, .slice Z.B Z.m Z.d]] W (FrGE w0 L D (SubS f q)) := by
 obtain ⟨o, ho⟩ : ∃ o, o = subO1 f (some q) := ⟨_, rfl⟩
 obtain ⟨er, her⟩ : ∃ er, er = subE1 f (some q) := ⟨_, rfl⟩
 have h := gSub_any Y.s Y.t Z.s Z.t Y.A Y.B Z.A Z.B Y.n Y.c Y.m Y.d Z.n Z.c Z.m Z.d Y.l Y.k Z.l Z.k W (K.rd m1) (K.rd m2) (K.rd m3) (K.rd m4)
 rw [hY.1.right hY.2, hZ.1.right hZ.2, hY.1.rat, hZ.1.rat, Bool.and_true] at h
 have e1 : binO true (addK f (-q)) (f - q) = o := by
  rw [ho, subO1_some]
  unfold binO
  simp
 have e2 : binE true (addK f (-q)) = er := by
  rw [her, subE1_some]
  unfold binE
  simp
 rw [e1, e2] at h
 have HS := fun y : Rw => subS (y := y) ho her
 clear ho her e1 e2
 exact h.mono fun e W' ⟨s31, A31, n31, c31, l31, t31, B31, m31, d31, k31, he, ⟨hra, hrb⟩, hop, ⟨hfa, hfb⟩, hbb⟩ => ⟨⟨s31, A31, n31, c31, l31, t31, B31, m31, d31, k31⟩, er, he, Lib.hid ⟨HS _ hop, fun a ha => Nat.le_trans K.1.size (hfa a ha), fun a ha => Nat.le_trans K.1.size (hfb a ha)⟩, K.retF hbb hra hrb hfa hfb⟩
theorem callDivG {Y Z : Rw} {f q : Rat} (K : St w0 L D W) (hY : isQ Y f) (hZ : isQ Z q) (h0 : q ≠ 0) (m1 : (⟨rdP Y.A Y.n Y.c Y.l, rdS Y.A Y.n⟩ : Hl) ∈ D) (m2 : (⟨rdP Y.B Y.m Y.d Y.k, rdS Y.B Y.m⟩ : Hl) ∈ D) (m3 : (⟨rdP Z.A Z.n Z.c Z.l, rdS Z.A Z.n⟩ : Hl) ∈ D) (m4 : (⟨rdP Z.B Z.m Z.d Z.k, rdS Z.B Z.m⟩ : Hl) ∈ D) :
 Calls Tryz.prog 129 #[.agg #[.int .i64 Y.s, .slice Y.A Y.n Y.c, .int .i64 Y.t, .slice Y.B Y.m Y.d], .agg #[.int .i64 Z.s, .slice Z.A Z.n Z.c, .int .i64 Z.t, .slice Z.B Z.m Z.d]] W (FrGE w0 L D (DivS f q)) := by
 obtain ⟨o, ho⟩ : ∃ o, o = divO1 f q := ⟨_, rfl⟩
 obtain ⟨er, her⟩ : ∃ er, er = divE1 f q := ⟨_, rfl⟩
 have h := gDiv_any Y.s Y.t Z.s Z.t Y.A Y.B Z.A Z.B Y.n Y.c Y.m Y.d Z.n Z.c Z.m Z.d Y.l Y.k Z.l Z.k W (K.rd m1) (K.rd m2) (K.rd m3) (K.rd m4)
 rw [hY.1.right hY.2, hZ.1.right hZ.2, hY.1.rat, hZ.1.rat, Bool.and_true] at h
 have e1 : divO true f q = o := by
  rw [ho]
  unfold divO divO1 binO
  rw [if_neg h0]
  simp
 have e2 : divE true f q = er := by
  rw [her]
  unfold divE divE1 binE
  rw [if_neg (fun h => h0 h.2)]
  simp
 rw [e1, e2] at h
 have HS := fun y : Rw => divS (y := y) h0 ho her
 clear ho her e1 e2
 exact h.mono fun e W' ⟨s31, A31, n31, c31, l31, t31, B31, m31, d31, k31, he, ⟨hra, hrb⟩, hop, ⟨hfa, hfb⟩, hbb⟩ => ⟨⟨s31, A31, n31, c31, l31, t31, B31, m31, d31, k31⟩, er, he, Lib.hid ⟨HS _ hop, fun a ha => Nat.le_trans K.1.size (hfa a ha), fun a ha => Nat.le_trans K.1.size (hfb a ha)⟩, K.retF hbb hra hrb hfa hfb⟩
end
def LesS (a f b : Rat) (y : Rw) (er : Int) : Prop := (er = 0 → isQ y (a - f * b)) ∧ (er != 0) = !stepK a f b
def LessR (w : World) (a f b : Rat) (e : Ending) (w' : World) : Prop := ∃ (y : Rw) (er : Int), e = .returned (.tuple #[.agg #[.int .i64 y.s, .slice y.A y.n y.c, .int .i64 y.t, .slice y.B y.m y.d], .int .i64 er]) ∧ LesS a f b y er ∧ (RdI w' w'.heap.size y.A y.n y.c y.l ∧ RdI w' w'.heap.size y.B y.m y.d y.k) ∧ (FrA w.heap.size y.A ∧ FrA w.heap.size y.B) ∧ Below w.heap.size w w'
theorem less6_any (ya yf yb : Rw) (a f b : Rat) (w : World) (r1 : RdI w w.heap.size ya.A ya.n ya.c ya.l) (r2 : RdI w w.heap.size ya.B ya.m ya.d ya.k) (r3 : RdI w w.heap.size yf.A yf.n yf.c yf.l) (r4 : RdI w w.heap.size yf.B yf.m yf.d yf.k) (r5 : RdI w w.heap.size yb.A yb.n yb.c yb.l) (r6 : RdI w w.heap.size yb.B yb.m yb.d yb.k) (ha : isQ ya a) (hf : isQ yf f) (hb : isQ yb b) :
 Calls Tryz.prog 130 #[.agg #[.int .i64 ya.s, .slice ya.A ya.n ya.c, .int .i64 ya.t, .slice ya.B ya.m ya.d], .agg #[.int .i64 yf.s, .slice yf.A yf.n yf.c, .int .i64 yf.t, .slice yf.B yf.m yf.d], .agg #[.int .i64 yb.s, .slice yb.A yb.n yb.c, .int .i64 yb.t, .slice yb.B yb.m yb.d]] w (LessR w a f b) := by
 have K := ((((((St.start w).rdOld r1).rdOld r2).rdOld r3).rdOld r4).rdOld r5).rdOld r6
 have Ha := Lib.hid ha
 have Hf := Lib.hid hf
 have Hb := Lib.hid hb
 have r := K.raw
 clear r1 r2 r3 r4 r5 r6 ha hf hb
 go_enter Tryz.func130, Tryz.ntmps130
 go_wp2_with (first | ((first | (apply K.alloc; rfl; rfl; exact frac_zero) | (apply K.box; rfl; rfl; rfl)); clear K r; intro W b5 K; have r := K.rawS) | (apply K.storeA; rfl; rfl; rfl; rfl; rfl; (exact ZUP); exact frac_size; rfl; rfl; rfl; clear K r; intro W K; have r := K.rawS))
 refine (callMulG K Hf.out Hb.out ZMB ZMB ZMB ZMB).mono ?_
 rintro e V1 ⟨y1, er1, rfl, gy1, k1⟩
 replace K := k1
 clear k1 r
 have r := K.rawS
 by_cases he : er1 = 0
 · subst he
   have gz1 := Lib.hid (gy1.out.1 rfl)
   have HM := Lib.hid (show mulK f b = true from by simpa using gy1.out.2)
   clear gy1
   go_wp2_with (first | ((first | (apply K.alloc; rfl; rfl; exact frac_zero) | (apply K.box; rfl; rfl; rfl)); clear K r; intro W b5 K; have r := K.rawS) | (apply K.storeA; rfl; rfl; rfl; rfl; rfl; (exact ZUP); exact frac_size; rfl; rfl; rfl; clear K r; intro W K; have r := K.rawS))
   refine (callSubG K Ha.out gz1.out ZMB ZMB ZMB ZMB).mono ?_
   rintro e V2 ⟨y2, er2, rfl, gy2, k2⟩
   replace K := k2
   clear k2 r gz1
   have r := K.rawS
   go_wp2_with (first | ((first | (apply K.alloc; rfl; rfl; exact frac_zero) | (apply K.box; rfl; rfl; rfl)); clear K r; intro W b5 K; have r := K.rawS) | (apply K.storeA; rfl; rfl; rfl; rfl; rfl; (exact ZUP); exact frac_size; rfl; rfl; rfl; clear K r; intro W K; have r := K.rawS))
   have HX := Lib.hid (show LessR w a f b (.returned (.tuple #[.agg #[.int .i64 y2.s, .slice y2.A y2.n y2.c, .int .i64 y2.t, .slice y2.B y2.m y2.d], .int .i64 er2])) _ from ⟨y2, er2, rfl, ⟨gy2.out.1.1, by rw [gy2.out.1.2]; unfold stepK; rw [HM.out, Bool.true_and]⟩, ⟨K.rd ZMB, K.rd ZMB⟩, gy2.out.2, K.1⟩)
   clear gy2 HM
   have r := K.rawS
   exact bodyPost_ret (v := .tuple #[.agg #[.int .i64 y2.s, .slice y2.A y2.n y2.c, .int .i64 y2.t, .slice y2.B y2.m y2.d], .int .i64 er2]) (by simp [results, Tryz.results130, go_sem, r]) rfl HX.out
 · have hx : (er1 != 0) = true := by simpa using he
   have HM := Lib.hid (show mulK f b = false from by have := gy1.out.2; rw [hx] at this; simpa using this)
   clear gy1
   go_wp2_with (first | ((first | (apply K.alloc; rfl; rfl; exact frac_zero) | (apply K.box; rfl; rfl; rfl)); clear K r; intro W b5 K; have r := K.rawS) | (apply K.storeA; rfl; rfl; rfl; rfl; rfl; (exact ZUP); exact frac_size; rfl; rfl; rfl; clear K r; intro W K; have r := K.rawS))
   have HX := Lib.hid (show LessR w a f b (.returned (.tuple #[.agg #[.int .i64 0, .slice none 0 0, .int .i64 0, .slice none 0 0], .int .i64 er1])) _ from ⟨Rw.zero, er1, rfl, ⟨fun h => absurd h he, by rw [hx]; unfold stepK; rw [HM.out]; rfl⟩, ⟨Rd.nil, Rd.nil⟩, ⟨FrA.none, FrA.none⟩, K.1⟩)
   clear HM
   have r := K.rawS
   exact bodyPost_ret (v := .tuple #[.agg #[.int .i64 0, .slice none 0 0, .int .i64 0, .slice none 0 0], .int .i64 er1]) (by simp [results, Tryz.results130, go_sem, r]) rfl HX.out
def Rr.onK (x : Rr) (w w' : World) : Prop := ∀ W : World, w'.heap.size ≤ W.heap.size → (∀ b, w.heap.size ≤ b → b < w'.heap.size → W.heap[b]? = w'.heap[b]?) → x.on W
theorem FrK.row {w W : World} {L : List Blk} {D : List Hl} {A : Option Addr} {n c : Nat} {a : List Fv} {y : Rw} (h : FrK w W A n c a) (K : St w L D W) (m2 : (⟨rdP y.A y.n y.c y.l, rdS y.A y.n⟩ : Hl) ∈ D) (m3 : (⟨rdP y.B y.m y.d y.k, rdS y.B y.m⟩ : Hl) ∈ D) (f2 : FrA w.heap.size y.A) (f3 : FrA w.heap.size y.B) : (⟨A, n, c, a, y⟩ : Rr).onK w W := fun W' h1 h2 =>
 ⟨h W' h1 h2, (K.2.2.2 _ m2).2.2 W' h1 (fun b hS => h2 b (by obtain ⟨-, a, e1, e2⟩ := hS; rw [← e2]; exact f2 a e1) ((K.2.2.2 _ m2).2.1 b hS).1), (K.2.2.2 _ m3).2.2 W' h1 (fun b hS => h2 b (by obtain ⟨-, a, e1, e2⟩ := hS; rw [← e2]; exact f3 a e1) ((K.2.2.2 _ m3).2.1 b hS).1)⟩
theorem St.addX {w W W' : World} {L : List Blk} {D : List Hl} (K : St w L D W) (hb : Below W.heap.size W W') {x : Rr} (h : x.onK W W') : St w L (⟨x.on, betS W W'⟩ :: D) W' :=
 (K.keep hb).add ⟨h W' (Nat.le_refl _) (fun _ _ _ => rfl), fun b hS => ⟨hS.2, fun p hp e => by
  have h1 := (K.2.1 p hp).2.lt
  have h2 := hS.1
  omega⟩, fun W'' h1 h2 => h W'' h1 (fun b h3 h4 => h2 b ⟨h3, h4⟩)⟩
section
variable {P : Program} {ops : Array Oper} {rest : List Oper} {o : Oper} {a : Act} {Q : Exit → Act → World → Prop} {w W : World} {L L' X : List Blk} {D : List Hl}
theorem St.appW {α : Type} {sz : Nat} {enc : α → List Value} {e : TypeId} {v : Value} {l : List α} (K : St w (X ++ L) D W) (ho : OwL sz enc e v l X) (hs : Sized sz enc) (hgd : o.guard = none) (s x : Operand) (t : TypeId)
 (hop : o.op = .call { callee := .builtin .append, args := #[s, x], argTypes := #[t, t] }) (z : Array Value) (bytes : Nat) (ht : P.underlying t = some (.slice e)) (hi : (P.info? e).map (fun i => (i.zero.map (·.cells), i.size, i.bytes)) = some (some z, sz, bytes)) (hz : z.size = sz)
 (hv : a.eval s = v) (A : Option Addr) (n cap : Nat) (l2 : List α) (hx : a.eval x = .slice A n cap) (hr : Rd sz (flat enc) W W.heap.size A n cap l2) (hlen : l.length + n ≤ 1000000) (hbb : bytes ≤ 1000)
 (h : ∀ v' X' W', OwL sz enc e v' (l ++ l2) X' → St w (X' ++ L) D W' → wpList P ops Q rest (a.put o.dst v') W') : wpList P ops Q (o :: rest) a W := by
 obtain ⟨i, h1, h2⟩ := Option.map_eq_some_iff.1 hi
 simp only [Prod.mk.injEq] at h2
 obtain ⟨h2, h3, h4⟩ := h2
 obtain ⟨zv, h5, h6⟩ := Option.map_eq_some_iff.1 h2
 have hbyt : (l.length + n) * bytes ≤ 1000000 * 1000 := Nat.mul_le_mul hlen hbb
 refine wpList_app W hs hgd s x t hop w.heap.size e i zv bytes ht h1 h5 h3 h4 (by rw [h6, hz]) v l hv (ho.own hs K) W.heap.size A n cap l2 hx hr (by unfold maxLen; omega) (by omega) K.1.size ?_
 intro v' W' g1 g2 g3
 obtain ⟨X', hX, K'⟩ := ho.of hs K g1 (grown_kept g2) (fun g hg => by
  exact ZL88)
 exact h v' X' W' hX K'
theorem OwL.empty {α : Type} (sz : Nat) (enc : α → List Value) (e : TypeId) (g : Nat) : OwL sz enc e (.slice (some ⟨g, 0, none⟩) 0 0) ([] : List α) [(g, #[], e)] := Or.inr ⟨g, 0, [], rfl, rfl, Nat.le_refl _, by unfold maxLen; omega, by simp⟩
theorem St.storeRR (K : St w L D W) (hgd : o.guard = none) (hd : o.dst = none) (ty : TypeId) (x y : Operand) (ho : o.op = .store ty x y) (g i N : Nat) {v : Nat → Rr} {J : List Value} {t : TypeId} (z : Rr)
 (hx : a.eval x = .pointer (some ⟨g, i * 5, none⟩)) (hy : a.eval y = .agg #[.slice z.A z.n z.c, .int .i64 z.y.s, .slice z.y.A z.y.n z.y.c, .int .i64 z.y.t, .slice z.y.B z.y.m z.y.d]) (hi : i < N) (hU : Upd g (recA Rr.cs N v J) t (recA Rr.cs N (putF v i z) J) L L') (hz : (P.info? ty).map (·.size) = some 5)
 (h : ∀ W', St w L' D W' → wpList P ops Q rest a W') : wpList P ops Q (o :: rest) a W :=
 K.store (off := i * 5) hgd hd ty x y ho _ hx hy z.cs rfl hU (recA_spl rr_sized hi z) hz (by
  rw [recA_size rr_sized]
  have := mul_step (sz := 5) hi
  show i * 5 + 5 ≤ _
  omega) (fun u hu => (rr_sized.2 z).2 u hu) h
theorem St.cellRR {n i g : Nat} {v : Nat → Rr} {t : TypeId} {J : List Value} (h : St w L D W) (hi : i < n) (hb : ((g, recA Rr.cs n v J, t) : Blk) ∈ L) : (W.cell? ⟨g, i * 5, none⟩ = some (.slice (v i).A (v i).n (v i).c) ∧ W.cell? ⟨g, i * 5 + 1, none⟩ = some (.int .i64 (v i).y.s) ∧ W.cell? ⟨g, i * 5 + 2, none⟩ = some (.slice (v i).y.A (v i).y.n (v i).y.c) ∧ W.cell? ⟨g, i * 5 + 3, none⟩ = some (.int .i64 (v i).y.t) ∧ W.cell? ⟨g, i * 5 + 4, none⟩ = some (.slice (v i).y.B (v i).y.m (v i).y.d)) ∧ ∀ j, W.frozen? ⟨g, j, none⟩ = false := by
 have hB := h.blk hb
 exact ⟨⟨hB.cell (recA_get rr_sized (j := 0) hi (by omega)), hB.cell (recA_get rr_sized (j := 1) hi (by omega)), hB.cell (recA_get rr_sized (j := 2) hi (by omega)), hB.cell (recA_get rr_sized (j := 3) hi (by omega)), hB.cell (recA_get rr_sized (j := 4) hi (by omega))⟩, fun j => hB.thaw⟩
end
theorem St.rdRR {w W : World} {L : List Blk} {D : List Hl} {n g cap : Nat} {u : Nat → Rr} {S : Nat → Nat → Prop} {J : List Value} (K : St w L D W) (hb : ((g, recA Rr.cs n u J, 56) : Blk) ∈ L) (hm : rrF n u S ∈ D) (hn : n ≤ 1000000) (hc : n ≤ cap ∧ cap ≤ 9223372036854775807) : RdR W W.heap.size (some ⟨g, 0, none⟩) n cap (ofF n fun i => (u i).rv) := by
 have hB := K.blk hb
 refine ⟨ofF_len, hc.1, ⟨hc.2, by omega⟩, fun hn => ⟨g, 0, rfl, hB.lt, fun k hk => ?_⟩⟩
 rw [ofF_len] at hk
 refine ⟨(u k).cs, ?_, rfl, fun j v hv => ?_⟩
 · have e : (ofF n fun i => (u i).rv)[k]'(by rw [ofF_len]; exact hk) = (u k).rv := by
    have := ofF_get (f := fun i => (u i).rv) hk
    exact ZL36
   rw [e]
   have ho := (K.famAt hm (i := k) hk).1
   exact ⟨_, _, _, _, rfl, ho.1, _, _, _, _, _, _, rfl, ho.2.1, ho.2.2⟩
 · have hj : j < 5 := (List.getElem?_eq_some_iff.1 hv).1
   rw [Nat.zero_add]
   exact hB.cell ((recA_get (J := J) (v := u) rr_sized hk hj).trans hv)
end Go.Proofs.YtdlcglndhhndpaaGreat
