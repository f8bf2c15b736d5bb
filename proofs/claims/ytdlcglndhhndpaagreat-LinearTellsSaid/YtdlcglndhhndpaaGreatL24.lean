/- Laws and walks; conditions stand in each theorem. -/
import Derived.Test.YtdlcglndhhndpaaGreatL08
import Derived.Test.YtdlcglndhhndpaaGreatL14
import Derived.Test.YtdlcglndhhndpaaGreatL23
import Derived.Test.YtdlcglndhhndpaaGreatL13
set_option linter.unusedSimpArgs false
set_option linter.unusedVariables false
namespace Go.Proofs.YtdlcglndhhndpaaGreat
open Go.RowKit
structure Dc where
 v : Nat → Rat
 a : Nat → Nat → Rat
 c : Nat → Rat
 own : Nat → Nat
 free : Nat → Nat
def Dc.xch (D : Dc) (r s : Nat) : Dc :=
 ⟨fun i => if i = r then D.v r / D.a r s else D.v i - D.a i s * (D.v r / D.a r s),
  fun i j => if i = r then (if j = s then 1 / D.a r s else D.a r j / D.a r s) else (if j = s then 0 - D.a i s * (1 / D.a r s) else D.a i j - D.a i s * (D.a r j / D.a r s)),
  fun j => if j = s then 0 - D.c s * (1 / D.a r s) else D.c j - D.c s * (D.a r j / D.a r s),
  fun i => if i = r then D.free s else D.own i,
  fun j => if j = s then D.own r else D.free j⟩
structure Dc.Ok (m n : Nat) (D : Dc) : Prop where
 lo : ∀ i, i < m → D.own i < n + m
 lf : ∀ j, j < n → D.free j < n + m
 io : ∀ i k, i < m → k < m → D.own i = D.own k → i = k
 jf : ∀ j k, j < n → k < n → D.free j = D.free k → j = k
 ne : ∀ i j, i < m → j < n → D.own i ≠ D.free j
 all : ∀ u, u < n + m → (∃ i, i < m ∧ D.own i = u) ∨ (∃ j, j < n ∧ D.free j = u)
theorem Dc.Ok.xch {m n r s : Nat} {D : Dc} (h : D.Ok m n) (hr : r < m) (hs : s < n) : (D.xch r s).Ok m n := by
 refine ⟨fun i hi => ?_, fun j hj => ?_, fun i k hi hk e => ?_, fun j k hj hk e => ?_, fun i j hi hj e => ?_, fun u hu => ?_⟩
 · show (if i = r then D.free s else D.own i) < n + m
   split
   · exact h.lf s hs
   · exact h.lo i hi
 · show (if j = s then D.own r else D.free j) < n + m
   split
   · exact h.lo r hr
   · exact h.lf j hj
 · change (if i = r then D.free s else D.own i) = (if k = r then D.free s else D.own k) at e
   by_cases e1 : i = r
   · by_cases e2 : k = r
     · omega
     · rw [if_pos e1, if_neg e2] at e
       exact absurd e.symm (h.ne k s hk hs)
   · by_cases e2 : k = r
     · rw [if_neg e1, if_pos e2] at e
       exact absurd e (h.ne i s hi hs)
     · rw [if_neg e1, if_neg e2] at e
       exact h.io i k hi hk e
 · change (if j = s then D.own r else D.free j) = (if k = s then D.own r else D.free k) at e
   by_cases e1 : j = s
   · by_cases e2 : k = s
     · omega
     · rw [if_pos e1, if_neg e2] at e
       exact absurd e (h.ne r k hr hk)
   · by_cases e2 : k = s
     · rw [if_neg e1, if_pos e2] at e
       exact absurd e.symm (h.ne r j hr hj)
     · rw [if_neg e1, if_neg e2] at e
       exact h.jf j k hj hk e
 · change (if i = r then D.free s else D.own i) = (if j = s then D.own r else D.free j) at e
   by_cases e1 : i = r
   · by_cases e2 : j = s
     · rw [if_pos e1, if_pos e2] at e
       exact absurd e.symm (h.ne r s hr hs)
     · rw [if_pos e1, if_neg e2] at e
       exact e2 (h.jf j s hj hs e.symm)
   · by_cases e2 : j = s
     · rw [if_neg e1, if_pos e2] at e
       exact e1 (h.io i r hi hr e)
     · rw [if_neg e1, if_neg e2] at e
       exact h.ne i j hi hj e
 · rcases h.all u hu with ⟨i, hi, e⟩ | ⟨j, hj, e⟩
   · by_cases e1 : i = r
     · exact Or.inr ⟨s, hs, by show (if s = s then D.own r else D.free s) = u; rw [if_pos rfl, ← e1]; exact e⟩
     · exact Or.inl ⟨i, hi, by show (if i = r then D.free s else D.own i) = u; rw [if_neg e1]; exact e⟩
   · by_cases e1 : j = s
     · exact Or.inl ⟨r, hr, by show (if r = r then D.free s else D.own r) = u; rw [if_pos rfl, ← e1]; exact e⟩
     · exact Or.inr ⟨j, hj, by show (if j = s then D.own r else D.free j) = u; rw [if_neg e1]; exact e⟩
def Dc.on (m n : Nat) (D : Dc) (x : Nat → Rat) (f : Rat) : Prop := ∀ i, i < m → x (D.own i) = D.v i * f - smQ (fun j => D.a i j * x (D.free j)) n
def Dc.gol (n : Nat) (D : Dc) (x : Nat → Rat) : Rat := smQ (fun j => D.c j * x (D.free j)) n
structure Dc.Like (m n : Nat) (D D' : Dc) : Prop where
 on : ∀ x f, D.on m n x f ↔ D'.on m n x f
 gol : ∃ κ : Rat, ∀ x f, D.on m n x f → D.gol n x = D'.gol n x + κ * f
theorem Dc.Like.refl (m n : Nat) (D : Dc) : D.Like m n D := ⟨fun _ _ => Iff.rfl, 0, fun x f _ => by grind⟩
theorem Dc.Like.trans {m n : Nat} {D D' D'' : Dc} (h : D.Like m n D') (h' : D'.Like m n D'') : D.Like m n D'' := by
 obtain ⟨k, hk⟩ := h.gol
 obtain ⟨k', hk'⟩ := h'.gol
 exact ⟨fun x f => (h.on x f).trans (h'.on x f), k + k', fun x f hx => by
  rw [hk x f hx, hk' x f ((h.on x f).1 hx)]
  grind⟩
theorem Dc.Like.symm {m n : Nat} {D D' : Dc} (h : D.Like m n D') : D'.Like m n D := by
 obtain ⟨k, hk⟩ := h.gol
 exact ⟨fun x f => (h.on x f).symm, -k, fun x f hx => by
  rw [hk x f ((h.on x f).2 hx)]
  grind⟩
theorem Dc.Ok.vals {m n : Nat} {D : Dc} (h : D.Ok m n) (α β : Nat → Rat) : ∃ x : Nat → Rat, (∀ i, i < m → x (D.own i) = α i) ∧ (∀ j, j < n → x (D.free j) = β j) := by
 classical
 refine ⟨fun u => if hu : ∃ i, i < m ∧ D.own i = u then α hu.choose else if hv : ∃ j, j < n ∧ D.free j = u then β hv.choose else 0, fun i hi => ?_, fun j hj => ?_⟩
 · have hu : ∃ k, k < m ∧ D.own k = D.own i := ⟨i, hi, rfl⟩
   show (if hu : ∃ k, k < m ∧ D.own k = D.own i then α hu.choose else _) = _
   rw [dif_pos hu]
   have := hu.choose_spec
   rw [h.io _ _ this.1 hi this.2]
 · have hn : ¬ ∃ k, k < m ∧ D.own k = D.free j := fun ⟨k, hk, e⟩ => h.ne k j hk hj e
   have hv : ∃ k, k < n ∧ D.free k = D.free j := ⟨j, hj, rfl⟩
   show (if hu : ∃ k, k < m ∧ D.own k = D.free j then α hu.choose else if hv : ∃ k, k < n ∧ D.free k = D.free j then β hv.choose else 0) = _
   rw [dif_neg hn, dif_pos hv]
   have := hv.choose_spec
   rw [h.jf _ _ this.1 hj this.2]
theorem smQ_zero {f : Nat → Rat} {n : Nat} (h : ∀ i, i < n → f i = 0) : smQ f n = 0 := by
 rw [smQ_congr h]
 have : ∀ n : Nat, smQ (fun _ => (0 : Rat)) n = 0 := fun n => by
  induction n with
  | zero => rw [smQ]
  | succ n ih => rw [smQ, ih]; grind
 exact this n
theorem Dc.Ok.ray {m n s : Nat} {D : Dc} (h : D.Ok m n) (hs : s < n) : ∃ x : Nat → Rat, D.on m n x 0 ∧ (∀ i, i < m → x (D.own i) = -(D.a i s)) ∧ x (D.free s) = 1 ∧ (∀ j, j < n → j ≠ s → x (D.free j) = 0) ∧ D.gol n x = D.c s := by
 obtain ⟨x, h1, h2⟩ := h.vals (fun i => -(D.a i s)) (fun j => if j = s then 1 else 0)
 have hx : x (D.free s) = 1 := by rw [h2 s hs, if_pos rfl]
 have hz : ∀ j, j < n → j ≠ s → x (D.free j) = 0 := fun j hj hne => by rw [h2 j hj, if_neg hne]
 have one : ∀ l : Nat → Rat, smQ (fun j => l j * x (D.free j)) n = l s := fun l => by
  rw [smQ_one (f := fun _ => 0) (b := s) (c := l s) hs (by rw [hx]; grind) (fun j hj hne => by rw [hz j hj hne]; grind), smQ_zero (fun _ _ => rfl)]
  grind
 refine ⟨x, fun i hi => ?_, h1, hx, hz, one D.c⟩
 rw [h1 i hi, one (D.a i)]
 grind
def lstP (vars : Nat → Nat) (ch : Nat → Bool) : Nat → Option Nat
 | 0 => none
 | k + 1 => match lstP vars ch k with
  | none => if ch k = true then some k else none
  | some i => if ch k = true ∧ vars k < vars i then some k else some i
theorem lstP_spec (vars : Nat → Nat) (ch : Nat → Bool) : ∀ n : Nat, (lstP vars ch n = none ∧ ∀ i, i < n → ch i = false) ∨ (∃ i, lstP vars ch n = some i ∧ i < n ∧ ch i = true ∧ ∀ k, k < n → ch k = true → vars i ≤ vars k)
 | 0 => Or.inl ⟨rfl, fun i hi => absurd hi (by omega)⟩
 | n + 1 => by
  rw [lstP]
  rcases lstP_spec vars ch n with ⟨h1, h2⟩ | ⟨i, h1, h2, h3, h4⟩
  · rw [h1]
    cases hc : ch n
    · exact Or.inl ⟨by simp, fun i hi => by
       by_cases e : i = n
       · rw [e]; exact hc
       · exact h2 i (by omega)⟩
    · refine Or.inr ⟨n, by simp, by omega, hc, fun k hk hck => ?_⟩
      by_cases e : k = n
      · rw [e]; exact Nat.le_refl _
      · rw [h2 k (by omega)] at hck; cases hck
  · rw [h1]
    simp only
    by_cases hc : ch n = true ∧ vars n < vars i
    · rw [if_pos hc]
      refine Or.inr ⟨n, rfl, by omega, hc.1, fun k hk hck => ?_⟩
      by_cases e : k = n
      · rw [e]; exact Nat.le_refl _
      · have := h4 k (by omega) hck; omega
    · rw [if_neg hc]
      refine Or.inr ⟨i, rfl, by omega, h3, fun k hk hck => ?_⟩
      by_cases e : k = n
      · subst e
        apply Nat.le_of_not_lt
        intro hl
        exact hc ⟨hck, hl⟩
      · exact h4 k (by omega) hck
theorem lstP_none {vars : Nat → Nat} {ch : Nat → Bool} {n : Nat} (h : lstP vars ch n = none) : ∀ i, i < n → ch i = false := by
 rcases lstP_spec vars ch n with ⟨_, h2⟩ | ⟨i, h1, _⟩
 · exact h2
 · rw [h] at h1; cases h1
theorem lstP_some {vars : Nat → Nat} {ch : Nat → Bool} {n i : Nat} (h : lstP vars ch n = some i) : i < n ∧ ch i = true ∧ ∀ k, k < n → ch k = true → vars i ≤ vars k := by
 rcases lstP_spec vars ch n with ⟨h1, _⟩ | ⟨k, h1, h2⟩
 · rw [h] at h1; cases h1
 · rw [h] at h1
   rw [Option.some.inj h1]
   exact h2
inductive Nxt
 | best
 | contra (r : Nat)
 | endless (s : Nat)
 | swap (r s : Nat)
def Dc.negR (D : Dc) (i : Nat) : Bool := decide (D.v i < 0)
def Dc.posC (D : Dc) (j : Nat) : Bool := decide (0 < D.c j)
def Dc.negA (D : Dc) (r j : Nat) : Bool := decide (D.a r j < 0)
def Dc.posA (D : Dc) (s i : Nat) : Bool := decide (0 < D.a i s)
def Dc.rowP (n : Nat) (D : Dc) (r : Nat) : Nxt := match lstP D.free (D.negA r) n with
 | none => .contra r
 | some s => .swap r s
def Dc.colP (m : Nat) (D : Dc) (s : Nat) : Nxt := match lstP D.own (D.posA s) m with
 | none => .endless s
 | some r => .swap r s
def Dc.pick (m n : Nat) (D : Dc) : Nxt := match lstP D.own D.negR m, lstP D.free D.posC n with
 | none, none => .best
 | some r, none => D.rowP n r
 | none, some s => D.colP m s
 | some r, some s => if D.own r < D.free s then D.rowP n r else D.colP m s
theorem Dc.rowP_swap {n r r' s : Nat} {D : Dc} (h : D.rowP n r = .swap r' s) : r' = r ∧ s < n ∧ D.a r s < 0 ∧ ∀ j, j < n → D.free j < D.free s → 0 ≤ D.a r j := by
 unfold Dc.rowP at h
 split at h
 · cases h
 · rename_i s' hs
   cases h
   obtain ⟨h1, h2, h3⟩ := lstP_some hs
   refine ⟨rfl, h1, of_decide_eq_true h2, fun j hj hlt => Rat.not_lt.1 fun hn => ?_⟩
   have := h3 j hj (decide_eq_true hn)
   omega
theorem Dc.colP_swap {m r s s' : Nat} {D : Dc} (h : D.colP m s = .swap r s') : s' = s ∧ r < m ∧ 0 < D.a r s ∧ ∀ i, i < m → D.own i < D.own r → D.a i s ≤ 0 := by
 unfold Dc.colP at h
 split at h
 · cases h
 · rename_i r' hs
   cases h
   obtain ⟨h1, h2, h3⟩ := lstP_some hs
   refine ⟨rfl, h1, of_decide_eq_true h2, fun i hi hlt => Rat.not_lt.1 fun hn => ?_⟩
   have := h3 i hi (decide_eq_true hn)
   omega
def Dc.RowFirst (m n : Nat) (D : Dc) (r s : Nat) : Prop := D.v r < 0 ∧ D.a r s < 0 ∧ (∀ j, j < n → D.free j < D.free s → 0 ≤ D.a r j) ∧ (∀ i, i < m → D.own i < D.own r → 0 ≤ D.v i) ∧ (∀ j, j < n → D.free j < D.own r → D.c j ≤ 0)
def Dc.ColFirst (m n : Nat) (D : Dc) (r s : Nat) : Prop := 0 < D.c s ∧ 0 < D.a r s ∧ (∀ i, i < m → D.own i < D.own r → D.a i s ≤ 0) ∧ (∀ i, i < m → D.own i < D.free s → 0 ≤ D.v i) ∧ (∀ j, j < n → D.free j < D.free s → D.c j ≤ 0)
theorem Dc.pick_swap {m n r s : Nat} {D : Dc} (hD : D.Ok m n) (h : D.pick m n = .swap r s) : r < m ∧ s < n ∧ (D.RowFirst m n r s ∨ D.ColFirst m n r s) := by
 unfold Dc.pick at h
 have rowN : ∀ {i : Nat} {r : Nat}, lstP D.own D.negR m = some r → i < m → D.own i < D.own r → 0 ≤ D.v i := fun {i r} hr hi hlt => Rat.not_lt.1 fun hn => by
  have := (lstP_some hr).2.2 i hi (decide_eq_true hn)
  omega
 have colN : ∀ {j : Nat} {s : Nat}, lstP D.free D.posC n = some s → j < n → D.free j < D.free s → D.c j ≤ 0 := fun {j s} hs hj hlt => Rat.not_lt.1 fun hn => by
  have := (lstP_some hs).2.2 j hj (decide_eq_true hn)
  omega
 have rowA : lstP D.own D.negR m = none → ∀ i, i < m → 0 ≤ D.v i := fun hr i hi => Rat.not_lt.1 fun hn => by
  have := lstP_none hr i hi
  rw [Dc.negR, decide_eq_true hn] at this
  cases this
 have colA : lstP D.free D.posC n = none → ∀ j, j < n → D.c j ≤ 0 := fun hs j hj => Rat.not_lt.1 fun hn => by
  have := lstP_none hs j hj
  rw [Dc.posC, decide_eq_true hn] at this
  cases this
 split at h
 · cases h
 · rename_i r0 hr hs
   obtain ⟨e, h1, h2, h3⟩ := Dc.rowP_swap h
   subst e
   exact ⟨(lstP_some hr).1, h1, Or.inl ⟨of_decide_eq_true (lstP_some hr).2.1, h2, h3, fun i hi hl => rowN hr hi hl, fun j hj _ => colA hs j hj⟩⟩
 · rename_i s0 hr hs
   obtain ⟨e, h1, h2, h3⟩ := Dc.colP_swap h
   subst e
   exact ⟨h1, (lstP_some hs).1, Or.inr ⟨of_decide_eq_true (lstP_some hs).2.1, h2, h3, fun i hi _ => rowA hr i hi, fun j hj hl => colN hs hj hl⟩⟩
 · rename_i r0 s0 hr hs
   by_cases hlt : D.own r0 < D.free s0
   · rw [if_pos hlt] at h
     obtain ⟨e, h1, h2, h3⟩ := Dc.rowP_swap h
     subst e
     exact ⟨(lstP_some hr).1, h1, Or.inl ⟨of_decide_eq_true (lstP_some hr).2.1, h2, h3, fun i hi hl => rowN hr hi hl, fun j hj hl => colN hs hj (by omega)⟩⟩
   · rw [if_neg hlt] at h
     obtain ⟨e, h1, h2, h3⟩ := Dc.colP_swap h
     subst e
     refine ⟨h1, (lstP_some hs).1, Or.inr ⟨of_decide_eq_true (lstP_some hs).2.1, h2, h3, fun i hi hl => rowN hr hi (by omega), fun j hj hl => colN hs hj hl⟩⟩
def Dc.nxt (m n : Nat) (D : Dc) : Dc := match D.pick m n with
 | .swap r s => D.xch r s
 | _ => D
def Dc.live (m n : Nat) (D : Dc) : Prop := ∃ r s, D.pick m n = .swap r s
def Dc.seq (m n : Nat) : Nat → Dc → Dc
 | 0, D => D
 | t + 1, D => Dc.seq m n t (D.nxt m n)
section
variable {m n : Nat} {D : Dc}
end
structure Lin (φ : (Nat → Rat) → Rat) : Prop where
 add : ∀ x y, φ (fun k => x k + y k) = φ x + φ y
 mul : ∀ (t : Rat) x, φ (fun k => t * x k) = t * φ x
theorem Lin.zero {φ : (Nat → Rat) → Rat} (h : Lin φ) : φ (fun _ => 0) = 0 := by
 have e := h.mul 0 (fun _ => 0)
 have e2 : (fun k : Nat => (0 : Rat) * (fun _ : Nat => (0 : Rat)) k) = fun _ => 0 := by funext k; grind
 rw [e2] at e
 rw [e]; grind
section
variable {m n : Nat} {A : Nat → Nat → Rat} {b c : Nat → Rat} {D : Dc}
end
def lesK (x f q : Rat) : Bool := mulK f q && addK x (-(f * q))
def Dc.fitX (m n : Nat) (D : Dc) (r s : Nat) : Bool :=
 (divK (D.v r) (D.a r s) && (List.range n).all fun j => divK (if j = s then 1 else D.a r j) (D.a r s)) &&
 ((List.range m).all fun i => decide (i = r) || (lesK (D.v i) (D.a i s) (D.v r / D.a r s) && (List.range n).all fun j => lesK (if j = s then 0 else D.a i j) (D.a i s) ((if j = s then 1 else D.a r j) / D.a r s))) &&
 (List.range n).all fun j => lesK (if j = s then 0 else D.c j) (D.c s) ((if j = s then 1 else D.a r j) / D.a r s)
def Dc.fits (m n : Nat) (D : Dc) : Prop := (∀ i, i < m → fitsF (D.v i) = true ∧ ∀ j, j < n → fitsF (D.a i j) = true) ∧ ∀ j, j < n → fitsF (D.c j) = true
inductive Srch (m n : Nat) : Dc → Option Dc → Prop
 | stop {D : Dc} (h : ¬ D.live m n) : Srch m n D (some D)
 | full {D : Dc} {r s : Nat} (h : D.pick m n = .swap r s) (hf : D.fitX m n r s = false) : Srch m n D none
 | step {D : Dc} {r s : Nat} {R : Option Dc} (h : D.pick m n = .swap r s) (hf : D.fitX m n r s = true) (hR : Srch m n (D.xch r s) R) : Srch m n D R
theorem Srch.ex {m n : Nat} : ∀ (t : Nat) {D : Dc}, ¬ (Dc.seq m n t D).live m n → ∃ R, Srch m n D R
 | 0, D, h => ⟨_, .stop h⟩
 | t + 1, D, h => by
  by_cases hl : D.live m n
  · obtain ⟨r, s, he⟩ := hl
    cases hf : D.fitX m n r s
    · exact ⟨_, .full he hf⟩
    · have e : D.nxt m n = D.xch r s := by unfold Dc.nxt; rw [he]
      obtain ⟨R, hR⟩ := Srch.ex (D := D.xch r s) t (by rw [← e]; exact h)
      exact ⟨R, .step he hf hR⟩
  · exact ⟨_, .stop hl⟩
def idxP (f : Nat → Nat) (u : Nat) : Nat → Option Nat
 | 0 => none
 | k + 1 => match idxP f u k with
  | some i => some i
  | none => if f k = u then some k else none
theorem idxP_spec (f : Nat → Nat) (u : Nat) : ∀ m : Nat, (idxP f u m = none ∧ ∀ i, i < m → f i ≠ u) ∨ ∃ i, idxP f u m = some i ∧ i < m ∧ f i = u
 | 0 => Or.inl ⟨rfl, fun i hi => absurd hi (by omega)⟩
 | m + 1 => by
  rw [idxP]
  rcases idxP_spec f u m with ⟨h1, h2⟩ | ⟨i, h1, h2, h3⟩
  · rw [h1]
    by_cases e : f m = u
    · exact Or.inr ⟨m, if_pos e, by omega, e⟩
    · refine Or.inl ⟨if_neg e, fun i hi => ?_⟩
      by_cases e2 : i = m
      · rw [e2]; exact e
      · exact h2 i (by omega)
  · rw [h1]
    exact Or.inr ⟨i, rfl, by omega, h3⟩
theorem idxP_out {f : Nat → Nat} {m u : Nat} (h : ∀ i, i < m → f i ≠ u) : idxP f u m = none := by
 rcases idxP_spec f u m with ⟨h1, h2⟩ | ⟨k, h1, h2, h3⟩
 · exact h1
 · exact absurd h3 (h k h2)
section
variable {m n : Nat} {A : Nat → Nat → Rat} {b c : Nat → Rat} {D : Dc}
end
inductive LpEnd
 | full
 | none (y : Nat → Rat)
 | ray (x : Nat → Rat)
 | best (x y : Nat → Rat)
section
variable {m n : Nat} {A : Nat → Nat → Rat} {b c : Nat → Rat}
end
def Sol (m n : Nat) (A : Nat → Nat → Rat) (b x : Nat → Rat) : Prop := (∀ u, u < n → 0 ≤ x u) ∧ ∀ i, i < m → smQ (fun j => A i j * x j) n ≤ b i
def Pri (m n : Nat) (A : Nat → Nat → Rat) (c y : Nat → Rat) : Prop := (∀ i, i < m → 0 ≤ y i) ∧ ∀ k, k < n → c k ≤ smQ (fun i => y i * A i k) m
def CerN (m n : Nat) (A : Nat → Nat → Rat) (b y : Nat → Rat) : Prop := Pri m n A (fun _ => 0) y ∧ smQ (fun i => y i * b i) m < 0
def CerR (m n : Nat) (A : Nat → Nat → Rat) (c x : Nat → Rat) : Prop := Sol m n A (fun _ => 0) x ∧ 0 < smQ (fun j => c j * x j) n
def CerB (m n : Nat) (A : Nat → Nat → Rat) (b c x y : Nat → Rat) : Prop := Sol m n A b x ∧ Pri m n A c y ∧ smQ (fun i => y i * b i) m = smQ (fun j => c j * x j) n
section
variable {m n : Nat} {A : Nat → Nat → Rat} {b c : Nat → Rat}
end
theorem Upd.same {b : Nat} {cs : Array Value} {t : TypeId} {L : List Blk} (h : (b, cs, t) ∈ L) : ∃ L', Upd b cs t cs L L' ∧ L' = L := by
 induction L with
 | nil => cases h
 | cons x L ih =>
  rcases List.mem_cons.1 h with e | h
  · subst e; exact ⟨_, .head L, rfl⟩
  · obtain ⟨L', h1, h2⟩ := ih h
    exact ⟨_, .tail x h1, by rw [h2]⟩
theorem Upd.trans {b : Nat} {c1 c2 c3 : Array Value} {t : TypeId} {L L' : List Blk} (h : Upd b c1 t c2 L L') : ∀ {L'' : List Blk}, (L'.map (·.1)).Nodup → Upd b c2 t c3 L' L'' → Upd b c1 t c3 L L'' := by
 induction h with
 | head L =>
  intro L'' hn h2
  cases h2 with
  | head _ => exact .head L
  | tail _ h3 =>
   have := List.mem_map_of_mem (f := fun p : Blk => p.1) h3.mem
   rw [List.map_cons, List.nodup_cons] at hn
   exact absurd this hn.1
 | tail x h ih =>
  intro L'' hn h2
  rw [List.map_cons, List.nodup_cons] at hn
  cases h2 with
  | head _ =>
   have h4 : Upd b c1 t c2 _ _ := h
   have := List.mem_map_of_mem (f := fun p : Blk => p.1) h4.mem
   rw [← h4.fsts] at this
   exact absurd this hn.1
  | tail _ h3 => exact .tail x (ih hn.2 h3)
section
variable {P : Program} {ops : Array Oper} {Q : Exit → Act → World → Prop} {md : Region.Mode} {S : World → Prop} {n : Nat}
theorem wpAnyT.firstA {i : Nat} {oi : Oper} {v : Value} (hi : ops[i]? = some oi) (hsz : ops.size ≤ n)
 (hsel : ∀ (j : Nat) (o : Oper) cs b, ops[j]? = some o → o.op ≠ .select cs b) (hQ : ∀ c a w, Q (.panic c) (a.put oi.dst v) w → Q (.panic c) a w) (fuel : Nat) :
 ∀ (listed : Array Bool) (a : Act) (w : World), (∀ j oj, ops[j]? = some oj → j ≠ i → listed.getD j true = false → (∀ e ∈ oj.after, Region.binds md e = true → e.on ≠ i) → oi.apart ops oj = true) →
  i ∈ Region.ready md ops listed → YieldsIf P ops S oi v a → S w → wpAnyT P md ops Q S n fuel (listed.setIfInBounds i true) (a.put oi.dst v) w → wpAnyT P md ops Q S n (fuel + 1) listed a w := by
 induction fuel with
 | zero =>
  intro listed a w _ hr hy hS H
  exact ZL41
 | succ fuel ih =>
  intro listed a w hfree hr hy hS H
  refine ⟨(fun h => by rw [h] at hr; cases hr), fun j hj => ?_⟩
  by_cases hji : j = i
  · subst hji
    exact hy.wpOp hi hS ⟨fun _ => hS, H⟩
  obtain ⟨hjun, oj, hoj, hall⟩ := mem_ready.1 hj
  have hiun := getD_flip (mem_ready.1 hr).1
  have hno : ∀ e ∈ oj.after, Region.binds md e = true → e.on ≠ i := fun e he hb heq => by
   exact ZL108
  have hjn : j ≠ n := fun e => by
   have := (Array.getElem?_eq_some_iff.1 hoj).1
   omega
  exact ZL32
theorem wpAnyT.takeA {i : Nat} {oi : Oper} {v : Value} {fuel : Nat} {listed : Array Bool} {a : Act} {w : World} (hi : ops[i]? = some oi) (hB : (decide (ops.size ≤ n) && Region.noSelect ops && Region.free md ops listed i && (Region.ready md ops listed).contains i) = true)
 (hQ : ∀ c a w, Q (.panic c) (a.put oi.dst v) w → Q (.panic c) a w) (hy : YieldsIf P ops S oi v a) (hS : S w) (h : wpAnyT P md ops Q S n fuel (listed.setIfInBounds i true) (a.put oi.dst v) w) : wpAnyT P md ops Q S n (fuel + 1) listed a w := by
 simp only [Bool.and_eq_true, decide_eq_true_eq] at hB
 obtain ⟨⟨⟨h1, h3⟩, h4⟩, h5⟩ := hB
 exact wpAnyT.firstA hi h1 (Region.noSelect_spec h3) hQ fuel listed a w (Region.free_spec hi h4) (by simpa using h5) hy hS h
theorem wpAnyT.tkA (i : Nat) {oi : Oper} {v : Value} {fuel : Nat} {listed : Array Bool} {a : Act} {w : World} {q : Prop} (hi : ops[i]? = some oi) (k : q) (hB : (decide (ops.size ≤ n) && Region.noSelect ops && Region.free md ops listed i && (Region.ready md ops listed).contains i) = true := by decide +kernel)
 (hQ : ∀ c a w, Q (.panic c) (a.put oi.dst v) w → Q (.panic c) a w := by exact fun _ _ _ h => h) (hy : YieldsIf P ops S oi v a := by (refine Or.inl ⟨by rfl, ?_⟩; intro w hSw; (try dsimp only at hSw); go_simp; try with_reducible rfl)) (hS : S w := by assumption) (h : q → wpAnyT P md ops Q S n fuel (listed.setIfInBounds i true) (a.put oi.dst v) w := by (intro hq; (try simp only [Act.put, List.setIfInBounds_toArray, List.set_cons_zero, List.set_cons_succ]); exact hq)) : wpAnyT P md ops Q S n (fuel + 1) listed a w :=
 wpAnyT.takeA hi hB hQ hy hS (h k)
theorem wpAnyT.done {listed : Array Bool} {a : Act} {w : World} (hB : decide (Region.ready md ops listed = []) = true) (h : Q .normal a w) : wpAnyT P md ops Q S n 0 listed a w := ⟨of_decide_eq_true hB, h⟩
end
def rwA2 (ls : List Rv) (i j : Nat) : Rat := ((ls[i]?.bind fun r => r.a[j]?).map Fv.rat).getD 0
def rwB2 (ls : List Rv) (zero : Bool) (i : Nat) : Rat := if zero = true then 0 else ((ls[i]?).map fun r => r.b.rat).getD 0
theorem Upd.next {b : Nat} {cs cs1 : Array Value} {t : TypeId} {L L1 : List Blk} (cs2 : Array Value) (h : Upd b cs t cs1 L L1) : ∃ L2, Upd b cs1 t cs2 L1 L2 ∧ Upd b cs t cs2 L L2 := by
 induction h with
 | head L => exact ⟨_, .head L, .head L⟩
 | tail x h ih =>
  obtain ⟨L2, h1, h2⟩ := ih
  exact ⟨_, .tail x h1, .tail x h2⟩
theorem St.rdOld {w W : World} {L : List Blk} {D : List Hl} {A : Option Addr} {n cap : Nat} {l : List Int} (K : St w L D W) (h : RdI w w.heap.size A n cap l) : St w L (⟨rdP A n cap l, rdS A n⟩ :: D) W :=
 K.add ⟨h.up (flat_lasts _) K.1, fun b hS => ⟨Nat.lt_of_lt_of_le (Rd.sup h hS) K.1.size, fun p hp e => by
  have g1 := (K.2.1 p hp).1
  have g2 := Rd.sup h hS
  omega⟩, fun W' h1 h2 => rdP_keep (h.up (flat_lasts _) K.1) h1 h2⟩
end Go.Proofs.YtdlcglndhhndpaaGreat
