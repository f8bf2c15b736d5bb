/- Laws and walks; conditions stand in each theorem. -/
import Derived.BigRegion
import Derived.Test.YtdlcglndhhndpaaGreatL24
set_option linter.unusedSimpArgs false
set_option linter.unusedVariables false
namespace Go.Proofs.YtdlcglndhhndpaaGreat
open Go.RowKit
theorem ZL31 {p : Prop} (h : p := by
 first
  | (obtain ⟨g1, g2, g3⟩ := h
     refine ⟨(g1.step h2 (fun _ => Iff.rfl)).congr ⟨fun h j hj hne => ?_, fun h => ⟨fun j hj hne => h j (by omega) hne, h k (by omega) hks⟩⟩, fun l j hn => ?_, fun j hj hne hs => ?_⟩
     · by_cases e : j = k
       · rw [e]; exact h.2
       · exact h.1 j (by omega) hne
     · rw [put2_ne V' x (fun e => hn ⟨e.1, by omega, by omega⟩)]
       exact g2 l j (fun e => hn ⟨e.1, by omega, e.2.2⟩)
     · by_cases e : j = k
       · rw [e] at hs ⊢
         rw [put2_at, hx.q]
         exact hz hs
       · rw [put2_ne V' x (fun h => e h.2)]
         exact g3 j (by omega) hne hs)
  | fail) : p := h
theorem ZL77 {p : Prop} (h : p := by
 first
  | (obtain ⟨h1, h2, h3⟩ := h
     refine ⟨h1.congr ⟨fun h j hj hne => h j (by omega) hne, fun h j hj hne => h j (by omega) hne⟩, fun l j hn => h2 l j (fun e => hn ⟨e.1, by omega, e.2.2⟩), fun j hj hne => h3 j (by omega) hne⟩)
  | fail) : p := h
def Rw.q (x : Rw) : Rat := ratF x.s x.l x.t x.k
theorem isQ.q {x : Rw} {z : Rat} (h : isQ x z) : x.q = z := h.1.rat
theorem isQ.self {x : Rw} {z : Rat} (h : isQ x z) : isQ x x.q := by rw [h.q]; exact h
structure Ln where
 y : Rw
 h : Hd
def Ln.cs (x : Ln) : List Value := [.int .i64 x.y.s, .slice x.y.A x.y.n x.y.c, .int .i64 x.y.t, .slice x.y.B x.y.m x.y.d, .slice x.h.A x.h.n x.h.c]
abbrev lnF (Y : Nat → Rw) (h : Nat → Hd) : Nat → Ln := fun i => ⟨Y i, h i⟩
section
variable {P : Program} {ops : Array Oper} {rest : List Oper} {o : Oper} {a : Act} {Q : Exit → Act → World → Prop}
end
section
variable {w W : World} {L L0 : List Blk} {D : List Hl} {n i g : Nat} {Y : Nat → Rw} {h : Nat → Hd} {J : List Value} {t : TypeId}
end
def GoodV (q N : Nat) (V : Nat → Nat → Rw) : Prop := ∀ i j, i < q → j < N → isQ (V i j) (V i j).q
def GoodY (m : Nat) (Y : Nat → Rw) : Prop := ∀ i, i < m → isQ (Y i) (Y i).q
theorem GoodV.put {q N r k : Nat} {V : Nat → Nat → Rw} {x : Rw} {z : Rat} (h : GoodV q N V) (hx : isQ x z) : GoodV q N (put2 V r k x) := fun i j hi hj => by
 by_cases e : i = r ∧ j = k
 · rw [e.1, e.2, put2_at]
   exact hx.self
 · rw [put2_ne V x e]
   exact h i j hi hj
theorem GoodY.put {m r : Nat} {Y : Nat → Rw} {x : Rw} {z : Rat} (h : GoodY m Y) (hx : isQ x z) : GoodY m (putF Y r x) := fun i hi => by
 by_cases e : i = r
 · rw [e, putF_same]
   exact hx.self
 · rw [putF_other e]
   exact h i hi
def FulK (b b' : Bool) (P : Prop) : Prop := b' = false ↔ b = false ∧ P
theorem FulK.step {b b1 b2 k : Bool} {P Q : Prop} (h : FulK b b1 P) (h2 : b2 = (b1 || !k)) (hk : P → (k = true ↔ Q)) : FulK b b2 (P ∧ Q) := by
 unfold FulK at *
 subst h2
 cases k
 · rw [Bool.not_false, Bool.or_true]
   constructor
   · intro e; cases e
   · rintro ⟨-, hp, hq⟩
     have := (hk hp).2 hq
     cases this
 · rw [Bool.not_true, Bool.or_false, h]
   exact ⟨fun ⟨e, hp⟩ => ⟨e, hp, (hk hp).1 rfl⟩, fun ⟨e, hp, _⟩ => ⟨e, hp⟩⟩
theorem FulK.congr {b b' : Bool} {P Q : Prop} (h : FulK b b' P) (hpq : P ↔ Q) : FulK b b' Q := by
 unfold FulK at *
 rw [h, hpq]
theorem FulK.trans {b b1 b2 : Bool} {P Q : Prop} (h : FulK b b1 P) (h2 : FulK b1 b2 Q) : FulK b b2 (P ∧ Q) := by
 unfold FulK at *
 rw [h2, h, and_assoc]
def LpQ (i r s k : Nat) (b b' : Bool) (V V' : Nat → Nat → Rw) : Prop :=
 FulK b b' (∀ j, j < k → j ≠ s → stepK (V i j).q (V i s).q (V r j).q = true) ∧ (∀ l j, ¬ (l = i ∧ j < k ∧ j ≠ s) → V' l j = V l j) ∧ ∀ j, j < k → j ≠ s → stepK (V i j).q (V i s).q (V r j).q = true → (V' i j).q = (V i j).q - (V i s).q * (V r j).q
theorem LpQ.zero (i r s : Nat) (b : Bool) (V : Nat → Nat → Rw) : LpQ i r s 0 b b V V :=
 ⟨⟨fun h => ⟨h, fun j hj => absurd hj (by omega)⟩, fun h => h.1⟩, fun l j _ => rfl, fun j hj => absurd hj (by omega)⟩
theorem LpQ.skip {i r s : Nat} {b b' : Bool} {V V' : Nat → Nat → Rw} (h : LpQ i r s s b b' V V') : LpQ i r s (s + 1) b b' V V' := by
 exact ZL77
theorem LpQ.same {i r s k : Nat} {b b' : Bool} {V V' : Nat → Nat → Rw} (h : LpQ i r s k b b' V V') (hir : i ≠ r) : V' i k = V i k ∧ V' r k = V r k ∧ V' i s = V i s ∧ V' r s = V r s :=
 ⟨h.2.1 i k (by omega), h.2.1 r k (by omega), h.2.1 i s (by omega), h.2.1 r s (by omega)⟩
theorem LpQ.step {i r s k : Nat} {b b' b2 : Bool} {V V' : Nat → Nat → Rw} {x : Rw} {z : Rat} (h : LpQ i r s k b b' V V') (hks : k ≠ s) (h2 : b2 = (b' || !stepK (V i k).q (V i s).q (V r k).q)) (hx : isQ x z) (hz : stepK (V i k).q (V i s).q (V r k).q = true → z = (V i k).q - (V i s).q * (V r k).q) : LpQ i r s (k + 1) b b2 V (put2 V' i k x) := by
 exact ZL31
def TkV (N i r s : Nat) (V V' : Nat → Nat → Rw) : Prop := (∀ l j, l ≠ i → V' l j = V l j) ∧ ∀ j, j < N → stepK (if j = s then 0 else (V i j).q) (V i s).q (V r j).q = true → (V' i j).q = (if j = s then 0 else (V i j).q) - (V i s).q * (V r j).q
def TkF (N i r s : Nat) (V : Nat → Nat → Rw) : Prop := ∀ j, j < N → stepK (if j = s then 0 else (V i j).q) (V i s).q (V r j).q = true
theorem LpQ.last {i r s N : Nat} {b b' b2 : Bool} {V V' : Nat → Nat → Rw} {x : Rw} {z : Rat} (h : LpQ i r s N b b' V V') (hs : s < N) (h2 : b2 = (b' || !stepK 0 (V i s).q (V r s).q)) (hx : isQ x z) (hz : stepK 0 (V i s).q (V r s).q = true → z = 0 - (V i s).q * (V r s).q) : FulK b b2 (TkF N i r s V) ∧ TkV N i r s V (put2 V' i s x) := by
 obtain ⟨g1, g2, g3⟩ := h
 refine ⟨(g1.step h2 (fun _ => Iff.rfl)).congr ⟨fun h j hj => ?_, fun h => ⟨fun j hj hne => ?_, ?_⟩⟩, fun l j hl => ?_, fun j hj hk => ?_⟩
 · by_cases e : j = s
   · rw [if_pos e, e]; exact h.2
   · rw [if_neg e]; exact h.1 j hj e
 · have := h j hj
   rw [if_neg hne] at this
   exact this
 · have := h s hs
   rw [if_pos rfl] at this
   exact this
 · rw [put2_ne V' x (fun e => hl e.1)]
   exact g2 l j (fun e => hl e.1)
 · by_cases e : j = s
   · rw [if_pos e] at hk ⊢
     rw [e] at hk ⊢
     rw [put2_at, hx.q]
     exact hz hk
   · rw [if_neg e] at hk ⊢
     rw [put2_ne V' x (fun h => e h.2)]
     exact g3 j hj e hk
def DvQ (r s k : Nat) (p : Rat) (b b' : Bool) (V V' : Nat → Nat → Rw) : Prop :=
 FulK b b' (∀ j, j < k → j ≠ s → divK (V r j).q p = true) ∧ (∀ l j, ¬ (l = r ∧ j < k ∧ j ≠ s) → V' l j = V l j) ∧ ∀ j, j < k → j ≠ s → divK (V r j).q p = true → (V' r j).q = (V r j).q / p
theorem DvQ.zero (r s : Nat) (p : Rat) (b : Bool) (V : Nat → Nat → Rw) : DvQ r s 0 p b b V V :=
 ⟨⟨fun h => ⟨h, fun j hj => absurd hj (by omega)⟩, fun h => h.1⟩, fun l j _ => rfl, fun j hj => absurd hj (by omega)⟩
theorem DvQ.skip {r s : Nat} {p : Rat} {b b' : Bool} {V V' : Nat → Nat → Rw} (h : DvQ r s s p b b' V V') : DvQ r s (s + 1) p b b' V V' := by
 exact ZL77
theorem DvQ.step {r s k : Nat} {p : Rat} {b b' b2 : Bool} {V V' : Nat → Nat → Rw} {x : Rw} {z : Rat} (h : DvQ r s k p b b' V V') (hks : k ≠ s) (h2 : b2 = (b' || !divK (V r k).q p)) (hx : isQ x z) (hz : divK (V r k).q p = true → z = (V r k).q / p) : DvQ r s (k + 1) p b b2 V (put2 V' r k x) := by
 exact ZL31
def DvF (N r s : Nat) (p : Rat) (V : Nat → Nat → Rw) : Prop := ∀ j, j < N → divK (if j = s then 1 else (V r j).q) p = true
def DvV (N r s : Nat) (p : Rat) (V V' : Nat → Nat → Rw) : Prop := (∀ l j, l ≠ r → V' l j = V l j) ∧ ∀ j, j < N → divK (if j = s then 1 else (V r j).q) p = true → (V' r j).q = (if j = s then 1 else (V r j).q) / p
theorem DvQ.last {r s N : Nat} {p : Rat} {b b' b2 : Bool} {V V' : Nat → Nat → Rw} {x : Rw} {z : Rat} (h : DvQ r s N p b b' V V') (hs : s < N) (h2 : b2 = (b' || !divK 1 p)) (hx : isQ x z) (hz : divK 1 p = true → z = 1 / p) : FulK b b2 (DvF N r s p V) ∧ DvV N r s p V (put2 V' r s x) := by
 obtain ⟨g1, g2, g3⟩ := h
 refine ⟨(g1.step h2 (fun _ => Iff.rfl)).congr ⟨fun h j hj => ?_, fun h => ⟨fun j hj hne => ?_, ?_⟩⟩, fun l j hl => ?_, fun j hj hk => ?_⟩
 · by_cases e : j = s
   · rw [if_pos e]; exact h.2
   · rw [if_neg e]; exact h.1 j hj e
 · have := h j hj
   rw [if_neg hne] at this
   exact this
 · have := h s hs
   rw [if_pos rfl] at this
   exact this
 · rw [put2_ne V' x (fun e => hl e.1)]
   exact g2 l j (fun e => hl e.1)
 · by_cases e : j = s
   · rw [if_pos e] at hk ⊢
     rw [e, put2_at, hx.q]
     exact hz hk
   · rw [if_neg e] at hk ⊢
     rw [put2_ne V' x (fun h => e h.2)]
     exact g3 j hj e hk
def TkY (goal : Bool) (i r s : Nat) (Y : Nat → Rw) (V : Nat → Nat → Rw) : Prop := goal = false → stepK (Y i).q (V i s).q (Y r).q = true
def TkW (goal : Bool) (i r s : Nat) (Y : Nat → Rw) (V : Nat → Nat → Rw) (Y' : Nat → Rw) : Prop := (∀ k, k ≠ i → Y' k = Y k) ∧ (goal = true → Y' = Y) ∧ (goal = false → stepK (Y i).q (V i s).q (Y r).q = true → (Y' i).q = (Y i).q - (V i s).q * (Y r).q)
def XcQ (N r s k : Nat) (b b' : Bool) (Y Y' : Nat → Rw) (V V' : Nat → Nat → Rw) : Prop :=
 FulK b b' (∀ i, i < k → i ≠ r → stepK (Y i).q (V i s).q (Y r).q = true ∧ TkF N i r s V) ∧ (∀ i, (k ≤ i ∨ i = r) → Y' i = Y i ∧ ∀ j, V' i j = V i j) ∧ ∀ i, i < k → i ≠ r → (stepK (Y i).q (V i s).q (Y r).q = true → (Y' i).q = (Y i).q - (V i s).q * (Y r).q) ∧ ∀ j, j < N → stepK (if j = s then 0 else (V i j).q) (V i s).q (V r j).q = true → (V' i j).q = (if j = s then 0 else (V i j).q) - (V i s).q * (V r j).q
theorem XcQ.zero (N r s : Nat) (b : Bool) (Y : Nat → Rw) (V : Nat → Nat → Rw) : XcQ N r s 0 b b Y Y V V :=
 ⟨⟨fun h => ⟨h, fun j hj => absurd hj (by omega)⟩, fun h => h.1⟩, fun i _ => ⟨rfl, fun _ => rfl⟩, fun i hi => absurd hi (by omega)⟩
theorem XcQ.skip {N r s : Nat} {b b' : Bool} {Y Y' : Nat → Rw} {V V' : Nat → Nat → Rw} (h : XcQ N r s r b b' Y Y' V V') : XcQ N r s (r + 1) b b' Y Y' V V' :=
 ⟨h.1.congr ⟨fun h i hi hne => h i (by omega) hne, fun h i hi hne => h i (by omega) hne⟩, fun i hi => h.2.1 i (by omega), fun i hi hne => h.2.2 i (by omega) hne⟩
theorem TkF.congr {N i r s : Nat} {V V' : Nat → Nat → Rw} (h1 : ∀ j, V' i j = V i j) (h2 : ∀ j, V' r j = V r j) : TkF N i r s V' ↔ TkF N i r s V := by
 unfold TkF
 simp only [h1, h2]
theorem XcQ.step {N r s k : Nat} {b b' b2 : Bool} {Y Y' Y2 : Nat → Rw} {V V' V2 : Nat → Nat → Rw} (h : XcQ N r s k b b' Y Y' V V') (hkr : k ≠ r) (h1 : FulK b' b2 (TkY false k r s Y' V' ∧ TkF N k r s V')) (h2 : TkV N k r s V' V2) (h3 : TkW false k r s Y' V' Y2) : XcQ N r s (k + 1) b b2 Y Y2 V V2 := by
 obtain ⟨g1, g2, g3⟩ := h
 obtain ⟨e1, e2⟩ := g2 k (Or.inl (Nat.le_refl _))
 obtain ⟨e3, e4⟩ := g2 r (Or.inr rfl)
 unfold TkY at h1
 unfold TkW at h3
 rw [TkF.congr e2 e4, e1, e2, e3] at h1
 rw [e1, e2, e3] at h3
 refine ⟨(g1.trans h1).congr ⟨fun hh i hi hne => ?_, fun hh => ⟨fun i hi hne => hh i (by omega) hne, fun _ => (hh k (by omega) hkr).1, (hh k (by omega) hkr).2⟩⟩, fun i hi => ?_, fun i hi hne => ?_⟩
 · by_cases e : i = k
   · rw [e]; exact ⟨hh.2.1 rfl, hh.2.2⟩
   · exact hh.1 i (by omega) hne
 · have hne : i ≠ k := by omega
   obtain ⟨a1, a2⟩ := g2 i (by omega)
   exact ⟨(h3.1 i hne).trans a1, fun j => (h2.1 i j hne).trans (a2 j)⟩
 · by_cases e : i = k
   · rw [e]
     refine ⟨h3.2.2 rfl, fun j hj hk => ?_⟩
     have := h2.2 j hj
     rw [e2, e2, e4] at this
     exact this hk
   · obtain ⟨a1, a2⟩ := g3 i (by omega) hne
     refine ⟨fun hk => ?_, fun j hj hk => ?_⟩
     · rw [h3.1 i e]
       exact a1 hk
     · rw [h2.1 i j e]
       exact a2 j hj hk
def dcOf (m : Nat) (Y : Nat → Rw) (V : Nat → Nat → Rw) (own free : Nat → Nat) : Dc := ⟨fun i => (Y i).q, fun i j => (V i j).q, fun j => (V m j).q, own, free⟩
structure Dc.Eqv (m n : Nat) (D D' : Dc) : Prop where
 v : ∀ i, i < m → D.v i = D'.v i
 a : ∀ i j, i < m → j < n → D.a i j = D'.a i j
 c : ∀ j, j < n → D.c j = D'.c j
 own : ∀ i, i < m → D.own i = D'.own i
 free : ∀ j, j < n → D.free j = D'.free j
theorem Dc.fitX_iff {m n r s : Nat} {D : Dc} : D.fitX m n r s = true ↔ divK (D.v r) (D.a r s) = true ∧ (∀ j, j < n → divK (if j = s then 1 else D.a r j) (D.a r s) = true) ∧ (∀ i, i < m → i ≠ r → stepK (D.v i) (D.a i s) (D.v r / D.a r s) = true ∧ ∀ j, j < n → stepK (if j = s then 0 else D.a i j) (D.a i s) ((if j = s then 1 else D.a r j) / D.a r s) = true) ∧ ∀ j, j < n → stepK (if j = s then 0 else D.c j) (D.c s) ((if j = s then 1 else D.a r j) / D.a r s) = true := by
 have e : ∀ x y z, lesK x y z = stepK x y z := fun x y z => rfl
 unfold Dc.fitX
 simp only [Bool.and_eq_true, Bool.or_eq_true, decide_eq_true_eq, List.all_eq_true, List.mem_range, e, and_assoc]
 refine and_congr Iff.rfl (and_congr Iff.rfl (and_congr ⟨fun h i hi hne => ?_, fun h i hi => ?_⟩ Iff.rfl))
 · rcases h i hi with h | h
   · exact absurd h hne
   · exact h
 · by_cases hne : i = r
   · exact Or.inl hne
   · exact Or.inr (h i hi hne)
theorem iA_set {n i : Nat} {f : Nat → Int} {J : List Value} (hi : i < n) (x : Int) : (recA iEnc n f J).setIfInBounds i (.int .i64 x) = recA iEnc n (putF f i x) J := by
 have := recA_spl (J := J) (v := f) iSized hi x
 rw [Nat.mul_one] at this
 exact this
theorem St.setI {w W : World} {L L' : List Blk} {D : List Hl} {n i g : Nat} {f : Nat → Int} {t : TypeId} {J : List Value} (h : St w L D W) (x : Int) (hi : i < n) (hU : Upd g (recA iEnc n f J) t (recA iEnc n (putF f i x) J) L L') : St w L' D (W.setCell ⟨g, i, none⟩ (.int .i64 x)) := by
 refine h.upd hU (OnlyB.set W g _ _) ?_
 rw [← iA_set hi x]
 exact (h.blk hU.mem).set (j := i) (.int .i64 x)
def Agr (m N : Nat) (Y : Nat → Rw) (V : Nat → Nat → Rw) (G : Dc) : Prop := (∀ i, i < m → isQ (Y i) (G.v i)) ∧ (∀ i j, i < m → j < N → isQ (V i j) (G.a i j)) ∧ ∀ j, j < N → isQ (V m j) (G.c j)
abbrev vfam (q N : Nat) (V : Nat → Nat → Rw) : Hl := Mm.fam ⟨N, fun _ => 0, fun _ => 0, fun _ => [], V⟩ q
def DicL (m N db : Nat) (b : Bool) (G : Dc) (Ld : List Blk) (Dd : List Hl) : Prop :=
 ∃ (hR hO hF : Hd) (gv : Rw) (hd : Nat → Hd) (Y : Nat → Rw) (V : Nat → Nat → Rw) (Xr Xo Xf : List Blk) (Xs : Nat → List Blk),
  OwL 5 Ln.cs 89 (Value.slice hR.A hR.n hR.c) (ofF m (lnF Y hd)) Xr ∧ OwL 1 iEnc 3 (Value.slice hO.A hO.n hO.c) (ofF m (fun i => ((G.own i : Nat) : Int))) Xo ∧ OwL 1 iEnc 3 (Value.slice hF.A hF.n hF.c) (ofF N (fun i => ((G.free i : Nat) : Int))) Xf ∧ (∀ i, i < m + 1 → OwL 4 Rw.cs 50 (Value.slice (hd i).A (hd i).n (hd i).c) (ofF N (V i)) (Xs i)) ∧ Agr m N Y V G ∧
  Ld = (db, (Value.bool b :: [Value.slice hR.A hR.n hR.c, .int .i64 gv.s, .slice gv.A gv.n gv.c, .int .i64 gv.t, .slice gv.B gv.m gv.d, Value.slice (hd m).A (hd m).n (hd m).c, Value.slice hO.A hO.n hO.c, Value.slice hF.A hF.n hF.c]).toArray, 91) :: (Xr ++ (Xo ++ (Xf ++ (ofF (m + 1) Xs).flatten))) ∧ Dd = [vfam (m + 1) N V, ⟨rwP m Y, rwS m Y⟩]
theorem mem_flat {α : Type} {n i : Nat} {X : Nat → List α} {x : α} (hi : i < n) (hx : x ∈ X i) : x ∈ (ofF n X).flatten := List.mem_flatten.2 ⟨_, ofF_in (f := X) hi, hx⟩
section
variable {m N db : Nat} {b : Bool} {G : Dc} {Ld : List Blk} {Dd : List Hl} {w0 : World} {L : List Blk}
theorem DicL.goal (h : DicL m N db b G Ld Dd) (hs : Ld.Sublist L) {j : Nat} (hj : j < N) : ∃ rb cp x, isQ x (G.c j) ∧ (N ≤ cp ∧ cp ≤ 9223372036854775807) ∧ ∀ (W : World) (D : List Hl), St w0 L D W → W.cell? ⟨db, 6, none⟩ = some (.slice (some ⟨rb, 0, none⟩) N cp) ∧ (W.cell? ⟨rb, j * 4, none⟩ = some (.int .i64 x.s) ∧ W.cell? ⟨rb, j * 4 + 1, none⟩ = some (.slice x.A x.n x.c) ∧ W.cell? ⟨rb, j * 4 + 2, none⟩ = some (.int .i64 x.t) ∧ W.cell? ⟨rb, j * 4 + 3, none⟩ = some (.slice x.B x.m x.d)) ∧ ((∀ x ∈ Dd, x ∈ D) → St w0 L (⟨rdP x.B x.m x.d x.k, rdS x.B x.m⟩ :: ⟨rdP x.A x.n x.c x.l, rdS x.A x.n⟩ :: D) W) := by
 obtain ⟨hR, hO, hF, gv, hd, Y, V, Xr, Xo, Xf, Xs, h1, h2, h3, h4, h5, rfl, rfl⟩ := h
 have hmem := hs.subset List.mem_cons_self
 obtain ⟨rb, cp, J2, f, g, hcp⟩ := (h4 m (by omega)).blk (by omega)
 injection f with f1 f2 f3
 have hm2 : ((rb, rwA N (V m) J2, 50) : Blk) ∈ L := hs.subset (List.mem_cons_of_mem _ (List.mem_append_right _ (List.mem_append_right _ (List.mem_append_right _ (mem_flat (X := Xs) (i := m) (by omega) (by rw [g]; exact List.mem_cons_self))))))
 refine ⟨rb, cp, V m j, h5.2.2 j hj, hcp, fun W D K => ⟨?_, ?_, fun hD => ?_⟩⟩
 · rw [← f1, ← f2, ← f3]
   exact (K.blk hmem).cell (j := 6) rfl
 · have hB := K.blk hm2
   exact ⟨hB.cell (rwA_get (j := 0) hj (by omega)), hB.cell (rwA_get (j := 1) hj (by omega)), hB.cell (rwA_get (j := 2) hj (by omega)), hB.cell (rwA_get (j := 3) hj (by omega))⟩
 · exact K.famRd (M := ⟨N, fun _ => 0, fun _ => 0, fun _ => [], V⟩) (n := m + 1) (i := m) (j := j) (hD _ List.mem_cons_self) (by omega) hj
end
theorem OwL.blk2 {e : TypeId} {val : Value} {sz n : Nat} {α : Type} {enc : α → List Value} {f : Nat → α} {X : List Blk} (hs : Sized sz enc) (h : OwL sz enc e val (ofF n f) X) (hn : 0 < n) : ∃ g cap J, val = .slice (some ⟨g, 0, none⟩) n cap ∧ X = [(g, recA enc n f J, e)] ∧ (n ≤ cap ∧ cap ≤ 9223372036854775807) ∧ ∀ f', OwL sz enc e val (ofF n f') [(g, recA enc n f' J, e)] := by
 rcases h with ⟨rfl, h0, rfl⟩ | ⟨g, cap, J, rfl, rfl, h1, h2, h3⟩
 · have : n = 0 := by rw [← ofF_len (n := n) (f := f), h0]; rfl
   omega
 · rw [ofF_len] at h1
   refine ⟨g, cap, J, by rw [ofF_len], rfl, ⟨h1, by unfold maxLen at h2; exact h2⟩, fun f' => Or.inr ⟨g, cap, J, by rw [ofF_len, ofF_len], rfl, by rw [ofF_len]; exact h1, h2, ?_⟩⟩
   rw [List.length_append, recA_len hs] at h3 ⊢
   exact h3
theorem Dc.Eqv.fitX {m n r s : Nat} {D D' : Dc} (h : D.Eqv m n D') (hr : r < m) (hs : s < n) : D.fitX m n r s = D'.fitX m n r s := by
 refine Bool.eq_iff_iff.2 ?_
 rw [Dc.fitX_iff, Dc.fitX_iff, h.v r hr, h.a r s hr hs, h.c s hs]
 refine and_congr Iff.rfl (and_congr (forall_congr' fun j => forall_congr' fun hj => ?_) (and_congr (forall_congr' fun i => forall_congr' fun hi => forall_congr' fun hne => ?_) (forall_congr' fun j => forall_congr' fun hj => ?_)))
 · rw [h.a r j hr hj]
 · rw [h.v i hi, h.a i s hi hs]
   refine and_congr Iff.rfl (forall_congr' fun j => forall_congr' fun hj => ?_)
   rw [h.a i j hi hj, h.a r j hr hj]
 · rw [h.c j hj, h.a r j hr hj]
theorem Dc.Eqv.xch {m n r s : Nat} {D D' : Dc} (h : D.Eqv m n D') (hr : r < m) (hs : s < n) : (D.xch r s).Eqv m n (D'.xch r s) := by
 refine ⟨fun i hi => ?_, fun i j hi hj => ?_, fun j hj => ?_, fun i hi => ?_, fun j hj => ?_⟩
 · show (if i = r then D.v r / D.a r s else D.v i - D.a i s * (D.v r / D.a r s)) = if i = r then D'.v r / D'.a r s else D'.v i - D'.a i s * (D'.v r / D'.a r s)
   rw [h.v r hr, h.a r s hr hs, h.v i hi, h.a i s hi hs]
 · show (if i = r then (if j = s then 1 / D.a r s else D.a r j / D.a r s) else (if j = s then 0 - D.a i s * (1 / D.a r s) else D.a i j - D.a i s * (D.a r j / D.a r s))) = if i = r then (if j = s then 1 / D'.a r s else D'.a r j / D'.a r s) else (if j = s then 0 - D'.a i s * (1 / D'.a r s) else D'.a i j - D'.a i s * (D'.a r j / D'.a r s))
   rw [h.a r s hr hs, h.a i s hi hs, h.a r j hr hj, h.a i j hi hj]
 · show (if j = s then 0 - D.c s * (1 / D.a r s) else D.c j - D.c s * (D.a r j / D.a r s)) = if j = s then 0 - D'.c s * (1 / D'.a r s) else D'.c j - D'.c s * (D'.a r j / D'.a r s)
   rw [h.a r s hr hs, h.c s hs, h.a r j hr hj, h.c j hj]
 · show (if i = r then D.free s else D.own i) = if i = r then D'.free s else D'.own i
   rw [h.free s hs, h.own i hi]
 · show (if j = s then D.own r else D.free j) = if j = s then D'.own r else D'.free j
   rw [h.own r hr, h.free j hj]
theorem Dc.Eqv.trans {m n : Nat} {D D' D'' : Dc} (h : D.Eqv m n D') (h' : D'.Eqv m n D'') : D.Eqv m n D'' :=
 ⟨fun i hi => (h.v i hi).trans (h'.v i hi), fun i j hi hj => (h.a i j hi hj).trans (h'.a i j hi hj), fun j hj => (h.c j hj).trans (h'.c j hj), fun i hi => (h.own i hi).trans (h'.own i hi), fun j hj => (h.free j hj).trans (h'.free j hj)⟩
theorem Agr.of {m N : Nat} {Y : Nat → Rw} {V : Nat → Nat → Rw} {G : Dc} {own free : Nat → Nat} (hY : GoodY m Y) (hV : GoodV (m + 1) N V) (h : (dcOf m Y V own free).Eqv m N G) : Agr m N Y V G := by
 refine ⟨fun i hi => ?_, fun i j hi hj => ?_, fun j hj => ?_⟩
 · rw [← h.v i hi]; exact hY i hi
 · rw [← h.a i j hi hj]; exact hV i j (by omega) hj
 · rw [← h.c j hj]; exact hV m j (by omega) hj
theorem sgI_tri (x : Int) : (x < 0 ∧ sgI x = -1) ∨ (x = 0 ∧ sgI x = 0) ∨ (0 < x ∧ sgI x = 1) := by
 unfold sgI
 split
 · exact Or.inl ⟨by assumption, rfl⟩
 · split
   · exact Or.inr (Or.inl ⟨by assumption, rfl⟩)
   · exact Or.inr (Or.inr ⟨by omega, rfl⟩)
section
variable {m N db : Nat} {b : Bool} {G : Dc} {Ld : List Blk} {Dd : List Hl} {w0 V : World} {L : List Blk} {D : List Hl} {b0 : Nat} {t0 : TypeId}
end
section
variable {P : Program} {ops : Array Oper} {rest : List Oper} {o : Oper} {a : Act} {Q : Exit → Act → World → Prop} {w W : World} {L : List Blk} {D : List Hl}
end
def NxI : Nxt → Int → Int → Prop
 | .best, r, s => r = -1 ∧ s = -1
 | .contra i, r, s => r = (i : Int) ∧ s = -1
 | .endless j, r, s => r = -1 ∧ s = (j : Int)
 | .swap _ _, _, _ => False
def SrQ (m N : Nat) (G G' : Dc) (b : Bool) (r s : Int) : Prop := (b = true → Srch m N G none ∧ r = -1 ∧ s = -1) ∧ (b = false → Srch m N G (some G') ∧ NxI (G'.pick m N) r s)
def SrL (m N : Nat) (G G' : Dc) (b : Bool) (t : Nat) : Prop := (b = true → Srch m N G none) ∧ (b = false → G'.Ok m N ∧ (∀ R, Srch m N G' R → Srch m N G R) ∧ ¬ (Dc.seq m N t G').live m N)
theorem SrL.full {m N t : Nat} {G G' : Dc} (h : SrL m N G G' true t) : SrQ m N G G' true (-1) (-1) := ⟨fun _ => ⟨h.1 rfl, rfl, rfl⟩, (fun e => by cases e)⟩
theorem SrL.stop {m N t : Nat} {G G' : Dc} {p : Nxt} {r s : Int} (h : SrL m N G G' false t) (hp : G'.pick m N = p) (hn : NxI p r s) : SrQ m N G G' false r s :=
 ⟨(fun e => by cases e), fun _ => ⟨(h.2 rfl).2.1 _ (.stop fun ⟨a, b, e⟩ => by rw [← hp, e] at hn; exact hn), by rw [hp]; exact hn⟩⟩
theorem SrL.step {m N t r s : Nat} {G G' G2 : Dc} {b : Bool} (h : SrL m N G G' false t) (hp : G'.pick m N = .swap r s) (hf : FulK false b (G'.fitX m N r s = true)) (hx : G'.fitX m N r s = true → G2 = G'.xch r s) : 0 < t ∧ SrL m N G G2 b (t - 1) := by
 obtain ⟨hOk, hR, hF⟩ := h.2 rfl
 cases t with
 | zero => exact absurd ⟨r, s, hp⟩ hF
 | succ t =>
  refine ⟨by omega, fun e => ?_, fun e => ?_⟩
  · refine hR _ (.full hp ?_)
    cases hq : G'.fitX m N r s
    · rfl
    · have := hf.2 ⟨rfl, hq⟩
      rw [e] at this
      cases this
  · have hq := (hf.1 e).2
    have e2 := hx hq
    obtain ⟨h1, h2, -⟩ := Dc.pick_swap hOk hp
    have e3 : G'.nxt m N = G'.xch r s := by unfold Dc.nxt; rw [hp]
    rw [e2]
    refine ⟨hOk.xch h1 h2, fun R hS => hR _ (.step hp hq hS), ?_⟩
    rw [← e3]
    exact hF
def PutX (f : Nat → Nat) (val : Nat → Rat) (n lo k : Nat) (x0 x : Nat → Rat) : Prop := ∀ u, u < n → x u = match idxP f (lo + u) k with
 | some i => val i
 | none => x0 u
theorem PutX.zero (f : Nat → Nat) (val : Nat → Rat) (n lo : Nat) (x0 : Nat → Rat) : PutX f val n lo 0 x0 x0 := fun u _ => rfl
theorem PutX.skip {f : Nat → Nat} {val : Nat → Rat} {n lo k : Nat} {x0 x : Nat → Rat} (h : PutX f val n lo k x0 x) (hf : ¬ (lo ≤ f k ∧ f k < lo + n)) : PutX f val n lo (k + 1) x0 x := fun u hu => by
 rw [h u hu, idxP]
 cases e : idxP f (lo + u) k with
 | some i => rfl
 | none =>
  rw [if_neg (by omega)]
theorem PutX.put {f : Nat → Nat} {val : Nat → Rat} {n lo k : Nat} {x0 x : Nat → Rat} (h : PutX f val n lo k x0 x) (hinj : ∀ i, i < k → f i ≠ f k) {v : Nat} (hv : f k = lo + v) : PutX f val n lo (k + 1) x0 (putF x v (val k)) := fun u hu => by
 rw [idxP]
 by_cases e : u = v
 · subst e
   rw [putF_same, idxP_out (fun i hi => by rw [← hv]; exact hinj i hi), ← hv, if_pos rfl]
 · rw [putF_other e, h u hu]
   cases e2 : idxP f (lo + u) k with
   | some i => rfl
   | none => rw [if_neg (by omega)]
section
variable {m N db : Nat} {b : Bool} {G : Dc} {Ld : List Blk} {Dd : List Hl} {w0 W : World} {L1 : List Blk} {D : List Hl}
end
end Go.Proofs.YtdlcglndhhndpaaGreat
