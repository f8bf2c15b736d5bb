/- Laws and walks; conditions stand in each theorem. -/
import Derived.Test.YtdlcglndhhndpaaGreatP22
set_option linter.unusedSimpArgs false
set_option linter.unusedVariables false
namespace Go.Proofs.YtdlcglndhhndpaaGreat
open Go.RowKit
theorem ZQ33 {p : Prop} (h : p := by
 first
  | (obtain ⟨g1, g2, g3⟩ := h
     refine ⟨(g1.step h2 (fun _ => Iff.rfl)).congr ⟨fun h j hj hne => ?_, fun h => ⟨fun j hj hne => h j (by omega) hne, h k (by omega) hks⟩⟩, fun l j hn => ?_, fun j hj hne hs => ?_⟩
     · by_cases e : j = k
       · rw [e]; exact h.2
       · exact h.1 j (by omega) hne
     · rw [put2_ne V' x (fun e => hn ⟨e.1, by omega, by omega⟩)]
       exact g2 l j (fun e => hn ⟨e.1, by omega, e.2.2⟩)
     · by_cases e : j = k
       · rw [e] at hs ⊢
         rw [put2_at, hx.q]
         exact hz hs
       · rw [put2_ne V' x (fun h => e h.2)]
         exact g3 j (by omega) hne hs)
  | fail) : p := h
theorem ZQ74 {p : Prop} (h : p := by
 first
  | (obtain ⟨h1, h2, h3⟩ := h
     refine ⟨h1.congr ⟨fun h j hj hne => h j (by omega) hne, fun h j hj hne => h j (by omega) hne⟩, fun l j hn => h2 l j (fun e => hn ⟨e.1, by omega, e.2.2⟩), fun j hj hne => h3 j (by omega) hne⟩)
  | fail) : p := h
def Rw.q (x : Rw) : Rat := ratF x.s x.l x.t x.k
theorem isQ.q {x : Rw} {z : Rat} (h : isQ x z) : x.q = z := h.1.rat
theorem isQ.self {x : Rw} {z : Rat} (h : isQ x z) : isQ x x.q := by rw [h.q]; exact h
structure Ln where
 y : Rw
 h : Hd
def Ln.cs (x : Ln) : List Value := [.int .i64 x.y.s, .slice x.y.A x.y.n x.y.c, .int .i64 x.y.t, .slice x.y.B x.y.m x.y.d, .slice x.h.A x.h.n x.h.c]
theorem ln_sized : Sized 5 Ln.cs := ⟨by omega, fun x => ⟨rfl, by
 intro u hu
 simp [Ln.cs] at hu
 rcases hu with rfl | rfl | rfl | rfl | rfl <;> rfl⟩⟩
abbrev lnF (Y : Nat → Rw) (h : Nat → Hd) : Nat → Ln := fun i => ⟨Y i, h i⟩
theorem lnF_put {Y : Nat → Rw} {h : Nat → Hd} {i : Nat} (z : Rw) : putF (lnF Y h) i ⟨z, h i⟩ = lnF (putF Y i z) h := by
 funext k
 by_cases e : k = i
 · subst e
   rw [putF_same]
   show _ = (⟨putF Y k z k, h k⟩ : Ln)
   rw [putF_same]
 · rw [putF_other e]
   show _ = (⟨putF Y i z k, h k⟩ : Ln)
   rw [putF_other e]
theorem lnA_spl {n i : Nat} {Y : Nat → Rw} {h : Nat → Hd} {J : List Value} (hi : i < n) (z : Rw) : spl (recA Ln.cs n (lnF Y h) J) (i * 5) z.cs = recA Ln.cs n (lnF (putF Y i z) h) J := by
 rw [← lnF_put, ← recA_spl ln_sized hi ⟨z, h i⟩]
 apply Array.ext_getElem?
 intro q
 have hsz := recA_size (n := n) (v := lnF Y h) (J := J) ln_sized
 have hin := mul_step (sz := 5) hi
 have l1 : z.cs.length = 4 := rfl
 have l2 : (Ln.cs ⟨z, h i⟩).length = 5 := rfl
 rw [spl_get _ _ _ _ (by rw [hsz, l1]; omega), spl_get _ _ _ _ (by rw [hsz, l2]; omega), l1, l2]
 by_cases h1 : i * 5 ≤ q ∧ q < i * 5 + 4
 · rw [if_pos h1, if_pos (by omega)]
   obtain ⟨j, hj⟩ : ∃ j, j = q - i * 5 := ⟨_, rfl⟩
   rw [← hj]
   have hj4 : j < 4 := by omega
   match j, hj4 with
   | 0, _ => rfl
   | 1, _ => rfl
   | 2, _ => rfl
   | 3, _ => rfl
 · rw [if_neg h1]
   by_cases h2 : q = i * 5 + 4
   · subst h2
     rw [if_pos (by omega), recA_get ln_sized hi (by omega), show i * 5 + 4 - i * 5 = 4 by omega]
     rfl
   · rw [if_neg (by omega)]
section
variable {P : Program} {ops : Array Oper} {rest : List Oper} {o : Oper} {a : Act} {Q : Exit → Act → World → Prop}
theorem St.storeL {w W : World} {L L' : List Blk} {D : List Hl} (K : St w L D W) (hgd : o.guard = none) (hd : o.dst = none) (ty : TypeId) (x y : Operand) (ho : o.op = .store ty x y) (g i N : Nat) {Y : Nat → Rw} {h : Nat → Hd} {J : List Value} {t : TypeId} (z : Rw)
 (hx : a.eval x = .pointer (some ⟨g, i * 5, none⟩)) (hy : a.eval y = .agg #[.int .i64 z.s, .slice z.A z.n z.c, .int .i64 z.t, .slice z.B z.m z.d]) (hi : i < N) (hU : Upd g (recA Ln.cs N (lnF Y h) J) t (recA Ln.cs N (lnF (putF Y i z) h) J) L L') (hz : (P.info? ty).map (·.size) = some 4)
 (hk : ∀ W', St w L' D W' → wpList P ops Q rest a W') : wpList P ops Q (o :: rest) a W :=
 K.store (off := i * 5) hgd hd ty x y ho _ hx hy z.cs rfl hU (lnA_spl hi z) hz (by
  rw [recA_size ln_sized]
  have := mul_step (sz := 5) hi
  show i * 5 + 4 ≤ _
  omega) (fun u hu => by
  simp [Rw.cs] at hu
  rcases hu with rfl | rfl | rfl | rfl <;> rfl) hk
end
section
variable {w W : World} {L L0 : List Blk} {D : List Hl} {n i g : Nat} {Y : Nat → Rw} {h : Nat → Hd} {J : List Value} {t : TypeId}
theorem St.cellL (K : St w L D W) (hi : i < n) (hb : ((g, recA Ln.cs n (lnF Y h) J, t) : Blk) ∈ L) : (W.cell? ⟨g, i * 5, none⟩ = some (.int .i64 (Y i).s) ∧ W.cell? ⟨g, i * 5 + 1, none⟩ = some (.slice (Y i).A (Y i).n (Y i).c) ∧ W.cell? ⟨g, i * 5 + 2, none⟩ = some (.int .i64 (Y i).t) ∧ W.cell? ⟨g, i * 5 + 3, none⟩ = some (.slice (Y i).B (Y i).m (Y i).d)) ∧ W.cell? ⟨g, i * 5 + 4, none⟩ = some (.slice (h i).A (h i).n (h i).c) := by
 have hB := K.blk hb
 have c := fun j hj => recA_get (J := J) (v := lnF Y h) ln_sized hi (j := j) hj
 exact ⟨⟨hB.cell ((c 0 (by omega)).trans rfl), hB.cell ((c 1 (by omega)).trans rfl), hB.cell ((c 2 (by omega)).trans rfl), hB.cell ((c 3 (by omega)).trans rfl)⟩, hB.cell ((c 4 (by omega)).trans rfl)⟩
theorem St.rwRd (K : St w L D W) (hm : (⟨rwP n Y, rwS n Y⟩ : Hl) ∈ D) (hi : i < n) : St w L (⟨rdP (Y i).B (Y i).m (Y i).d (Y i).k, rdS (Y i).B (Y i).m⟩ :: ⟨rdP (Y i).A (Y i).n (Y i).c (Y i).l, rdS (Y i).A (Y i).n⟩ :: D) W := by
 have hh := K.okAt hm
 have h1 : (⟨rdP (Y i).A (Y i).n (Y i).c (Y i).l, rdS (Y i).A (Y i).n⟩ : Hl).ok L W := ⟨(hh.1 i hi).1, fun b hS => hh.2.1 b ⟨i, hi, Or.inl hS⟩, fun W' g1 g2 => rdP_keep (hh.1 i hi).1 g1 g2⟩
 have h2 : (⟨rdP (Y i).B (Y i).m (Y i).d (Y i).k, rdS (Y i).B (Y i).m⟩ : Hl).ok L W := ⟨(hh.1 i hi).2, fun b hS => hh.2.1 b ⟨i, hi, Or.inr hS⟩, fun W' g1 g2 => rdP_keep (hh.1 i hi).2 g1 g2⟩
 exact (K.add h1).add h2
end
def GoodV (q N : Nat) (V : Nat → Nat → Rw) : Prop := ∀ i j, i < q → j < N → isQ (V i j) (V i j).q
def GoodY (m : Nat) (Y : Nat → Rw) : Prop := ∀ i, i < m → isQ (Y i) (Y i).q
theorem GoodV.put {q N r k : Nat} {V : Nat → Nat → Rw} {x : Rw} {z : Rat} (h : GoodV q N V) (hx : isQ x z) : GoodV q N (put2 V r k x) := fun i j hi hj => by
 by_cases e : i = r ∧ j = k
 · rw [e.1, e.2, put2_at]
   exact hx.self
 · rw [put2_ne V x e]
   exact h i j hi hj
theorem GoodY.put {m r : Nat} {Y : Nat → Rw} {x : Rw} {z : Rat} (h : GoodY m Y) (hx : isQ x z) : GoodY m (putF Y r x) := fun i hi => by
 by_cases e : i = r
 · rw [e, putF_same]
   exact hx.self
 · rw [putF_other e]
   exact h i hi
def FulK (b b' : Bool) (P : Prop) : Prop := b' = false ↔ b = false ∧ P
theorem FulK.step {b b1 b2 k : Bool} {P Q : Prop} (h : FulK b b1 P) (h2 : b2 = (b1 || !k)) (hk : P → (k = true ↔ Q)) : FulK b b2 (P ∧ Q) := by
 unfold FulK at *
 subst h2
 cases k
 · rw [Bool.not_false, Bool.or_true]
   constructor
   · intro e; cases e
   · rintro ⟨-, hp, hq⟩
     have := (hk hp).2 hq
     cases this
 · rw [Bool.not_true, Bool.or_false, h]
   exact ⟨fun ⟨e, hp⟩ => ⟨e, hp, (hk hp).1 rfl⟩, fun ⟨e, hp, _⟩ => ⟨e, hp⟩⟩
theorem FulK.congr {b b' : Bool} {P Q : Prop} (h : FulK b b' P) (hpq : P ↔ Q) : FulK b b' Q := by
 unfold FulK at *
 rw [h, hpq]
theorem FulK.trans {b b1 b2 : Bool} {P Q : Prop} (h : FulK b b1 P) (h2 : FulK b1 b2 Q) : FulK b b2 (P ∧ Q) := by
 unfold FulK at *
 rw [h2, h, and_assoc]
def LpQ (i r s k : Nat) (b b' : Bool) (V V' : Nat → Nat → Rw) : Prop :=
 FulK b b' (∀ j, j < k → j ≠ s → stepK (V i j).q (V i s).q (V r j).q = true) ∧ (∀ l j, ¬ (l = i ∧ j < k ∧ j ≠ s) → V' l j = V l j) ∧ ∀ j, j < k → j ≠ s → stepK (V i j).q (V i s).q (V r j).q = true → (V' i j).q = (V i j).q - (V i s).q * (V r j).q
theorem LpQ.zero (i r s : Nat) (b : Bool) (V : Nat → Nat → Rw) : LpQ i r s 0 b b V V :=
 ⟨⟨fun h => ⟨h, fun j hj => absurd hj (by omega)⟩, fun h => h.1⟩, fun l j _ => rfl, fun j hj => absurd hj (by omega)⟩
theorem LpQ.skip {i r s : Nat} {b b' : Bool} {V V' : Nat → Nat → Rw} (h : LpQ i r s s b b' V V') : LpQ i r s (s + 1) b b' V V' := by
 exact ZQ74
theorem LpQ.same {i r s k : Nat} {b b' : Bool} {V V' : Nat → Nat → Rw} (h : LpQ i r s k b b' V V') (hir : i ≠ r) : V' i k = V i k ∧ V' r k = V r k ∧ V' i s = V i s ∧ V' r s = V r s :=
 ⟨h.2.1 i k (by omega), h.2.1 r k (by omega), h.2.1 i s (by omega), h.2.1 r s (by omega)⟩
theorem LpQ.step {i r s k : Nat} {b b' b2 : Bool} {V V' : Nat → Nat → Rw} {x : Rw} {z : Rat} (h : LpQ i r s k b b' V V') (hks : k ≠ s) (h2 : b2 = (b' || !stepK (V i k).q (V i s).q (V r k).q)) (hx : isQ x z) (hz : stepK (V i k).q (V i s).q (V r k).q = true → z = (V i k).q - (V i s).q * (V r k).q) : LpQ i r s (k + 1) b b2 V (put2 V' i k x) := by
 exact ZQ33
def TkV (N i r s : Nat) (V V' : Nat → Nat → Rw) : Prop := (∀ l j, l ≠ i → V' l j = V l j) ∧ ∀ j, j < N → stepK (if j = s then 0 else (V i j).q) (V i s).q (V r j).q = true → (V' i j).q = (if j = s then 0 else (V i j).q) - (V i s).q * (V r j).q
def TkF (N i r s : Nat) (V : Nat → Nat → Rw) : Prop := ∀ j, j < N → stepK (if j = s then 0 else (V i j).q) (V i s).q (V r j).q = true
theorem LpQ.last {i r s N : Nat} {b b' b2 : Bool} {V V' : Nat → Nat → Rw} {x : Rw} {z : Rat} (h : LpQ i r s N b b' V V') (hs : s < N) (h2 : b2 = (b' || !stepK 0 (V i s).q (V r s).q)) (hx : isQ x z) (hz : stepK 0 (V i s).q (V r s).q = true → z = 0 - (V i s).q * (V r s).q) : FulK b b2 (TkF N i r s V) ∧ TkV N i r s V (put2 V' i s x) := by
 obtain ⟨g1, g2, g3⟩ := h
 refine ⟨(g1.step h2 (fun _ => Iff.rfl)).congr ⟨fun h j hj => ?_, fun h => ⟨fun j hj hne => ?_, ?_⟩⟩, fun l j hl => ?_, fun j hj hk => ?_⟩
 · by_cases e : j = s
   · rw [if_pos e, e]; exact h.2
   · rw [if_neg e]; exact h.1 j hj e
 · have := h j hj
   rw [if_neg hne] at this
   exact this
 · have := h s hs
   rw [if_pos rfl] at this
   exact this
 · rw [put2_ne V' x (fun e => hl e.1)]
   exact g2 l j (fun e => hl e.1)
 · by_cases e : j = s
   · rw [if_pos e] at hk ⊢
     rw [e] at hk ⊢
     rw [put2_at, hx.q]
     exact hz hk
   · rw [if_neg e] at hk ⊢
     rw [put2_ne V' x (fun h => e h.2)]
     exact g3 j hj e hk
def DvQ (r s k : Nat) (p : Rat) (b b' : Bool) (V V' : Nat → Nat → Rw) : Prop :=
 FulK b b' (∀ j, j < k → j ≠ s → divK (V r j).q p = true) ∧ (∀ l j, ¬ (l = r ∧ j < k ∧ j ≠ s) → V' l j = V l j) ∧ ∀ j, j < k → j ≠ s → divK (V r j).q p = true → (V' r j).q = (V r j).q / p
theorem DvQ.zero (r s : Nat) (p : Rat) (b : Bool) (V : Nat → Nat → Rw) : DvQ r s 0 p b b V V :=
 ⟨⟨fun h => ⟨h, fun j hj => absurd hj (by omega)⟩, fun h => h.1⟩, fun l j _ => rfl, fun j hj => absurd hj (by omega)⟩
theorem DvQ.skip {r s : Nat} {p : Rat} {b b' : Bool} {V V' : Nat → Nat → Rw} (h : DvQ r s s p b b' V V') : DvQ r s (s + 1) p b b' V V' := by
 exact ZQ74
theorem DvQ.step {r s k : Nat} {p : Rat} {b b' b2 : Bool} {V V' : Nat → Nat → Rw} {x : Rw} {z : Rat} (h : DvQ r s k p b b' V V') (hks : k ≠ s) (h2 : b2 = (b' || !divK (V r k).q p)) (hx : isQ x z) (hz : divK (V r k).q p = true → z = (V r k).q / p) : DvQ r s (k + 1) p b b2 V (put2 V' r k x) := by
 exact ZQ33
def DvF (N r s : Nat) (p : Rat) (V : Nat → Nat → Rw) : Prop := ∀ j, j < N → divK (if j = s then 1 else (V r j).q) p = true
def DvV (N r s : Nat) (p : Rat) (V V' : Nat → Nat → Rw) : Prop := (∀ l j, l ≠ r → V' l j = V l j) ∧ ∀ j, j < N → divK (if j = s then 1 else (V r j).q) p = true → (V' r j).q = (if j = s then 1 else (V r j).q) / p
theorem DvQ.last {r s N : Nat} {p : Rat} {b b' b2 : Bool} {V V' : Nat → Nat → Rw} {x : Rw} {z : Rat} (h : DvQ r s N p b b' V V') (hs : s < N) (h2 : b2 = (b' || !divK 1 p)) (hx : isQ x z) (hz : divK 1 p = true → z = 1 / p) : FulK b b2 (DvF N r s p V) ∧ DvV N r s p V (put2 V' r s x) := by
 obtain ⟨g1, g2, g3⟩ := h
 refine ⟨(g1.step h2 (fun _ => Iff.rfl)).congr ⟨fun h j hj => ?_, fun h => ⟨fun j hj hne => ?_, ?_⟩⟩, fun l j hl => ?_, fun j hj hk => ?_⟩
 · by_cases e : j = s
   · rw [if_pos e]; exact h.2
   · rw [if_neg e]; exact h.1 j hj e
 · have := h j hj
   rw [if_neg hne] at this
   exact this
 · have := h s hs
   rw [if_pos rfl] at this
   exact this
 · rw [put2_ne V' x (fun e => hl e.1)]
   exact g2 l j (fun e => hl e.1)
 · by_cases e : j = s
   · rw [if_pos e] at hk ⊢
     rw [e, put2_at, hx.q]
     exact hz hk
   · rw [if_neg e] at hk ⊢
     rw [put2_ne V' x (fun h => e h.2)]
     exact g3 j hj e hk
end Go.Proofs.YtdlcglndhhndpaaGreat
