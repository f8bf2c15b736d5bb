/- Laws and walks; conditions stand in each theorem. -/
import Derived.Test.YtdlcglndhhndpaaGreatP18
set_option linter.unusedSimpArgs false
set_option linter.unusedVariables false
namespace Go.Proofs.YtdlcglndhhndpaaGreat
open Go.RowKit
def Dc.nxt (m n : Nat) (D : Dc) : Dc := match D.pick m n with
 | .swap r s => D.xch r s
 | _ => D
def Dc.live (m n : Nat) (D : Dc) : Prop := ∃ r s, D.pick m n = .swap r s
def Dc.seq (m n : Nat) : Nat → Dc → Dc
 | 0, D => D
 | t + 1, D => Dc.seq m n t (D.nxt m n)
theorem Dc.seq_succ (m n : Nat) : ∀ (t : Nat) (D : Dc), Dc.seq m n (t + 1) D = (Dc.seq m n t D).nxt m n
 | 0, D => rfl
 | t + 1, D => by
  show Dc.seq m n (t + 1) (D.nxt m n) = _
  rw [Dc.seq_succ m n t]
  rfl
def Dc.bas (m : Nat) (D : Dc) (u : Nat) : Prop := ∃ i, i < m ∧ D.own i = u
def Dc.great (m n : Nat) (D : Dc) (q : Nat) : Prop := ∃ r s, D.pick m n = .swap r s ∧ D.own r ≤ q ∧ D.free s ≤ q
def Dc.pair (m n : Nat) (D : Dc) (q : Nat) : Prop := ∃ r s, D.pick m n = .swap r s ∧ max (D.own r) (D.free s) < q
theorem first_of {P : Nat → Prop} (h : ∃ t, P t) : ∃ t, P t ∧ ∀ k, k < t → ¬ P k := by
 obtain ⟨t, ht⟩ := h
 induction t using Nat.strongRecOn with
 | _ t ih =>
  by_cases hd : ∃ k, k < t ∧ P k
  · obtain ⟨k, hk, hp⟩ := hd
    exact ih k hk hp
  · exact ⟨t, ht, fun k hk hp => hd ⟨k, hk, hp⟩⟩
section
variable {m n : Nat} {D : Dc}
theorem nxt_ok (h : D.Ok m n) : (D.nxt m n).Ok m n := by
 unfold Dc.nxt
 split
 · rename_i r s he
   obtain ⟨h1, h2, -⟩ := Dc.pick_swap h he
   exact h.xch h1 h2
 · exact h
theorem pick_ne (h : D.Ok m n) {r s : Nat} (he : D.pick m n = .swap r s) : D.a r s ≠ 0 := by
 obtain ⟨h1, h2, h3 | h3⟩ := Dc.pick_swap h he
 · have := h3.2.1
   intro e
   rw [e] at this
   exact absurd this (by decide)
 · have := h3.2.1
   intro e
   rw [e] at this
   exact absurd this (by decide)
theorem nxt_like (h : D.Ok m n) : D.Like m n (D.nxt m n) := by
 unfold Dc.nxt
 split
 · rename_i r s he
   obtain ⟨h1, h2, -⟩ := Dc.pick_swap h he
   exact Dc.like_xch h1 h2 (pick_ne h he)
 · exact Dc.Like.refl m n D
theorem seq_ok : ∀ (t : Nat) {D : Dc}, D.Ok m n → (Dc.seq m n t D).Ok m n
 | 0, D, h => h
 | t + 1, D, h => seq_ok t (nxt_ok h)
theorem seq_like : ∀ (t : Nat) {D : Dc}, D.Ok m n → D.Like m n (Dc.seq m n t D)
 | 0, D, h => Dc.Like.refl m n D
 | t + 1, D, h => (nxt_like h).trans (seq_like t (nxt_ok h))
theorem seq_add (a : Nat) : ∀ (t : Nat) (D : Dc), Dc.seq m n (a + t) D = Dc.seq m n t (Dc.seq m n a D)
 | 0, D => rfl
 | t + 1, D => by
  rw [← Nat.add_assoc, Dc.seq_succ, Dc.seq_succ, seq_add a t]
theorem nxt_bas (h : D.Ok m n) {q u : Nat} (hg : D.great m n q) (hu : q < u) : (D.nxt m n).bas m u ↔ D.bas m u := by
 obtain ⟨r, s, he, h1, h2⟩ := hg
 obtain ⟨hr, hs, -⟩ := Dc.pick_swap h he
 have e : D.nxt m n = D.xch r s := by unfold Dc.nxt; rw [he]
 rw [e]
 constructor
 · rintro ⟨i, hi, ei⟩
   change (if i = r then D.free s else D.own i) = u at ei
   by_cases e : i = r
   · rw [if_pos e] at ei; omega
   · rw [if_neg e] at ei; exact ⟨i, hi, ei⟩
 · rintro ⟨i, hi, ei⟩
   have e : i ≠ r := fun e => by rw [e] at ei; omega
   exact ⟨i, hi, by show (if i = r then D.free s else D.own i) = u; rw [if_neg e]; exact ei⟩
theorem seq_bas {u : Nat} : ∀ (t : Nat) {D : Dc}, D.Ok m n → (∀ k, k < t → ∃ q, q < u ∧ (Dc.seq m n k D).great m n q) → ((Dc.seq m n t D).bas m u ↔ D.bas m u)
 | 0, D, _, _ => Iff.rfl
 | t + 1, D, h, hk => by
  have h0 := hk 0 (by omega)
  obtain ⟨q, hq, hg⟩ := h0
  exact (seq_bas t (nxt_ok h) (fun k hkt => hk (k + 1) (by omega))).trans (nxt_bas h hg hq)
theorem bas_free (h : D.Ok m n) {u : Nat} (hu : u < n + m) : ¬ D.bas m u ↔ ∃ j, j < n ∧ D.free j = u := by
 constructor
 · intro hb
   rcases h.all u hu with h1 | h1
   · exact absurd h1 hb
   · exact h1
 · rintro ⟨j, hj, e⟩ ⟨i, hi, e2⟩
   exact h.ne i j hi hj (by rw [e, e2])
theorem twice (h : D.Ok m n) {q t : Nat} (ht : 0 < t) (hb : ∀ k, k < t → 0 < k → ∃ p, p < q ∧ (Dc.seq m n k D).great m n p)
 {r s r' s' : Nat} (he : D.pick m n = .swap r s) (hm : max (D.own r) (D.free s) = q) (he' : (Dc.seq m n t D).pick m n = .swap r' s') (hm' : max ((Dc.seq m n t D).own r') ((Dc.seq m n t D).free s') = q) : False := by
 obtain ⟨t, rfl⟩ : ∃ k, t = k + 1 := ⟨t - 1, by omega⟩
 have h1 := nxt_ok h
 have hT := seq_ok (t + 1) h
 have hl := seq_like (t + 1) h
 obtain ⟨hr, hs, hc⟩ := Dc.pick_swap h he
 obtain ⟨hr', hs', hc'⟩ := Dc.pick_swap hT he'
 have hg : D.great m n q := ⟨r, s, he, by omega, by omega⟩
 have hst : ∀ u, q < u → ((Dc.seq m n (t + 1) D).bas m u ↔ D.bas m u) := fun u hu => seq_bas (t + 1) h (fun k hk => by
  by_cases e : k = 0
  · subst e; exact ⟨q, hu, hg⟩
  · obtain ⟨p, hp, hg⟩ := hb k hk (by omega)
    exact ⟨p, by omega, hg⟩)
 have hbig : ∀ j, j < n → q < D.free j → ∃ k, k < n ∧ (Dc.seq m n (t + 1) D).free k = D.free j := fun j hj hlt => (bas_free hT (h.lf j hj)).1 fun hx => (bas_free h (h.lf j hj)).2 ⟨j, hj, rfl⟩ ((hst _ hlt).1 hx)
 have hbig' : ∀ j, j < n → q < (Dc.seq m n (t + 1) D).free j → ∃ k, k < n ∧ D.free k = (Dc.seq m n (t + 1) D).free j := fun j hj hlt => (bas_free h (hT.lf j hj)).1 fun hx => (bas_free hT (hT.lf j hj)).2 ⟨j, hj, rfl⟩ ((hst _ hlt).2 hx)
 have hsame : (Dc.seq m n (t + 1) D).bas m q ↔ (D.nxt m n).bas m q := seq_bas t h1 (fun k hk => hb (k + 1) (by omega) (by omega))
 have e : D.nxt m n = D.xch r s := by unfold Dc.nxt; rw [he]
 rw [e] at hsame
 have hne := h.ne r s hr hs
 have hne' := hT.ne r' s' hr' hs'
 by_cases hfq : D.free s = q
 · have hb1 : (D.xch r s).bas m q := ⟨r, hr, by show (if r = r then D.free s else D.own r) = q; rw [if_pos rfl]; exact hfq⟩
   have hb2 := hsame.2 hb1
   have hfn : (Dc.seq m n (t + 1) D).free s' ≠ q := fun e2 => (bas_free hT (by rw [← e2]; exact hT.lf s' hs')).2 ⟨s', hs', e2⟩ hb2
   exact Dc.cross h hT hl hr hs hr' hs' hfq (by omega) (by omega) (by omega) hbig hbig' hc hc'
 · have hoq : D.own r = q := by omega
   have hb1 : ¬ (D.xch r s).bas m q := by
    rintro ⟨i, hi, ei⟩
    change (if i = r then D.free s else D.own i) = q at ei
    by_cases e2 : i = r
    · rw [if_pos e2] at ei; exact hfq ei
    · rw [if_neg e2] at ei
      exact e2 (h.io i r hi hr (by rw [ei, hoq]))
   have hb2 : ¬ (Dc.seq m n (t + 1) D).bas m q := fun hx => hb1 (hsame.1 hx)
   have hon : (Dc.seq m n (t + 1) D).own r' ≠ q := fun e2 => hb2 ⟨r', hr', e2⟩
   exact Dc.cross hT h hl.symm hr' hs' hr hs (by omega) hoq (by omega) (by omega) hbig' hbig hc' hc
theorem runs : ∀ (q len : Nat) {D : Dc}, D.Ok m n → (∀ t, t < len → (Dc.seq m n t D).pair m n q) → len < 2 ^ q
 | 0, len, D, h, hall => by
  by_cases e : len = 0
  · subst e; decide
  · obtain ⟨r, s, -, h2⟩ := hall 0 (by omega)
    omega
 | q + 1, len, D, h, hall => by
  by_cases hex : ∃ t, t < len ∧ ¬ (Dc.seq m n t D).pair m n q
  · obtain ⟨t, ⟨ht, hn⟩, hmin⟩ := first_of hex
    have l1 := runs q t h (fun k hk => Classical.byContradiction fun hx => hmin k hk ⟨by omega, hx⟩)
    obtain ⟨r, s, he, h2⟩ := hall t ht
    have hm : max ((Dc.seq m n t D).own r) ((Dc.seq m n t D).free s) = q := by
     apply Classical.byContradiction
     intro hx
     exact hn ⟨r, s, he, by omega⟩
    have hT := seq_ok (m := m) (n := n) t h
    have l2 := runs q (len - (t + 1)) (D := Dc.seq m n (t + 1) D) (seq_ok (t + 1) h) (fun k hk => by
     apply Classical.byContradiction
     intro hx
     obtain ⟨u, ⟨hu, hux⟩, humin⟩ := first_of (P := fun u => u ≤ k ∧ ¬ (Dc.seq m n u (Dc.seq m n (t + 1) D)).pair m n q) ⟨k, Nat.le_refl _, hx⟩
     have eq1 : ∀ v, Dc.seq m n (v + 1) (Dc.seq m n t D) = Dc.seq m n (t + 1 + v) D := fun v => by
      rw [← seq_add, show t + (v + 1) = t + 1 + v by omega]
     have eq2 : ∀ v, Dc.seq m n v (Dc.seq m n (t + 1) D) = Dc.seq m n (t + 1 + v) D := fun v => (seq_add (t + 1) v D).symm
     rw [eq2] at hux
     obtain ⟨r', s', he', h2'⟩ := hall (t + 1 + u) (by omega)
     have hm' : max ((Dc.seq m n (t + 1 + u) D).own r') ((Dc.seq m n (t + 1 + u) D).free s') = q := by
      apply Classical.byContradiction
      intro hx
      exact hux ⟨r', s', he', by omega⟩
     refine twice hT (q := q) (t := u + 1) (by omega) (fun v hv hv0 => ?_) he hm (by rw [eq1]; exact he') (by rw [eq1]; exact hm')
     have hlt := humin (v - 1) (by omega)
     rw [eq2] at hlt
     have e3 : Dc.seq m n v (Dc.seq m n t D) = Dc.seq m n (t + 1 + (v - 1)) D := by
      rw [← eq1, show v - 1 + 1 = v by omega]
     rw [e3]
     have hpr : (Dc.seq m n (t + 1 + (v - 1)) D).pair m n q := Classical.byContradiction fun hx => hlt ⟨by omega, hx⟩
     obtain ⟨r3, s3, he3, h3⟩ := hpr
     exact ⟨q - 1, by omega, r3, s3, he3, by omega, by omega⟩)
    rw [Nat.pow_succ]
    omega
  · have := runs q len h (fun t ht => Classical.byContradiction fun hx => hex ⟨t, ht, hx⟩)
    rw [Nat.pow_succ]
    omega
theorem ends (h : D.Ok m n) : ∃ t, ¬ (Dc.seq m n t D).live m n := by
 apply Classical.byContradiction
 intro hx
 have := runs (n + m) (2 ^ (n + m)) h (fun t _ => by
  have hl : (Dc.seq m n t D).live m n := Classical.byContradiction fun hy => hx ⟨t, hy⟩
  obtain ⟨r, s, he⟩ := hl
  have hT := seq_ok (m := m) (n := n) t h
  obtain ⟨hr, hs, -⟩ := Dc.pick_swap hT he
  have := hT.lo r hr
  have := hT.lf s hs
  exact ⟨r, s, he, by omega⟩)
 omega
end
theorem ZQ35 {p : Prop} (h : p := by
 first
  | (have e1 : smQ (fun u => y u * γ u) (n + m) = smQ (fun u => y u * dlt (D.own r) u) (n + m) + smQ (fun u => y u * cof n (D.a r) D.free u) (n + m) := by
       rw [← smQ_add]
       exact smQ_congr fun u _ => by show y u * (dlt (D.own r) u + cof n (D.a r) D.free u) = _; grind
     have e2 : smQ (fun u => y u * dlt (D.own r) u) (n + m) = y (D.own r) := by
      rw [smQ_only (a := D.own r) (hD.lo r hr) (fun u hu hne => by unfold dlt; rw [if_neg hne]; grind)]
      unfold dlt
      rw [if_pos rfl]; grind
     rw [e1, e2, ← cof_sum y (fun j hj => hD.lf j hj), h r hr]
     grind)
  | fail) : p := h
theorem ZQ87 {p : Prop} (h : p := by
 first
  | (show dlt (D.own r) (D.free j) + cof n (D.a r) D.free (D.free j) = _
     rw [cof_at hj (fun i k hi hk e => hD.jf i k hi hk e)]
     unfold dlt
     rw [if_neg (fun e => hD.ne r j hr hj e.symm)]; grind)
  | fail) : p := h
theorem ZQ56 {p : Prop} (h : p := by
 first
  | (have h1 := line 0 (dlt k)
     rw [smQ_only (f := fun j => c j * dlt k j) hk (fun j hj hne => by unfold dlt; rw [if_neg hne]; grind), smQ_only (f := fun j => dlt k j * (γ j - smQ (fun i => γ (n + i) * A i j) m)) hk (fun j hj hne => by unfold dlt; rw [if_neg hne]; grind)] at h1
     unfold dlt at h1
     rw [if_pos rfl] at h1
     grind)
  | fail) : p := h
theorem smQ_only {f : Nat → Rat} {n a : Nat} (ha : a < n) (h : ∀ k, k < n → k ≠ a → f k = 0) : smQ f n = f a := by
 rw [smQ_one (f := fun _ => 0) (g := f) (b := a) (c := f a) ha (by grind) h, smQ_zero (fun _ _ => rfl)]
 grind
def opnD (n : Nat) (A : Nat → Nat → Rat) (b c : Nat → Rat) : Dc := ⟨b, A, c, fun i => n + i, fun j => j⟩
theorem opn_ok (m n : Nat) (A : Nat → Nat → Rat) (b c : Nat → Rat) : (opnD n A b c).Ok m n :=
 ⟨fun i hi => by show n + i < _; omega, fun j hj => by show j < _; omega, fun i k _ _ e => by have e : n + i = n + k := e; omega, fun j k _ _ e => e, fun i j _ hj e => by have e : n + i = j := e; omega, fun u hu => by
  by_cases h : u < n
  · exact Or.inr ⟨u, h, rfl⟩
  · exact Or.inl ⟨u - n, by omega, by show n + (u - n) = u; omega⟩⟩
def dlt (u : Nat) : Nat → Rat := fun k => if k = u then 1 else 0
structure Lin (φ : (Nat → Rat) → Rat) : Prop where
 add : ∀ x y, φ (fun k => x k + y k) = φ x + φ y
 mul : ∀ (t : Rat) x, φ (fun k => t * x k) = t * φ x
theorem Lin.zero {φ : (Nat → Rat) → Rat} (h : Lin φ) : φ (fun _ => 0) = 0 := by
 have e := h.mul 0 (fun _ => 0)
 have e2 : (fun k : Nat => (0 : Rat) * (fun _ : Nat => (0 : Rat)) k) = fun _ => 0 := by funext k; grind
 rw [e2] at e
 rw [e]; grind
theorem Lin.cut {φ : (Nat → Rat) → Rat} (h : Lin φ) (x : Nat → Rat) : ∀ K : Nat, φ (fun k => if k < K then x k else 0) = smQ (fun u => x u * φ (dlt u)) K
 | 0 => by
  have e : (fun k : Nat => if k < 0 then x k else 0) = fun _ => 0 := by funext k; rw [if_neg (by omega)]
  rw [e, h.zero, smQ]
 | K + 1 => by
  have e : (fun k : Nat => if k < K + 1 then x k else 0) = fun k => (fun k => if k < K then x k else 0) k + (fun k => x K * dlt K k) k := by
   funext k
   unfold dlt
   by_cases e1 : k = K
   · rw [if_pos (by omega)]
     show _ = (if k < K then x k else 0) + x K * (if k = K then 1 else 0)
     rw [if_neg (by omega), if_pos e1, e1]; grind
   · by_cases e2 : k < K
     · rw [if_pos (by omega)]
       show _ = (if k < K then x k else 0) + x K * (if k = K then 1 else 0)
       rw [if_pos e2, if_neg e1]; grind
     · rw [if_neg (by omega)]
       show _ = (if k < K then x k else 0) + x K * (if k = K then 1 else 0)
       rw [if_neg e2, if_neg e1]; grind
  rw [e, h.add, h.cut x K, smQ, h.mul]
theorem lin_smQ (l : Nat → Rat) (f : Nat → Nat) (n : Nat) : Lin (fun x => smQ (fun j => l j * x (f j)) n) :=
 ⟨fun x y => by
  show smQ (fun j => l j * (x (f j) + y (f j))) n = _
  rw [← smQ_add]
  exact smQ_congr fun j _ => by grind, fun t x => by
  show smQ (fun j => l j * (t * x (f j))) n = t * smQ (fun j => l j * x (f j)) n
  have : smQ (fun j => l j * (t * x (f j))) n = smQ (fun j => (l j * x (f j)) * t) n := smQ_congr fun j _ => by grind
  rw [this, smQ_scale]; grind⟩
def cof (n : Nat) (l : Nat → Rat) (f : Nat → Nat) (u : Nat) : Rat := smQ (fun j => l j * dlt u (f j)) n
theorem cof_at {n j : Nat} {l : Nat → Rat} {f : Nat → Nat} (hj : j < n) (hf : ∀ i k, i < n → k < n → f i = f k → i = k) : cof n l f (f j) = l j := by
 unfold cof
 rw [smQ_only hj (fun k hk hne => by
  unfold dlt
  rw [if_neg (fun e => hne (hf k j hk hj e))]; grind)]
 unfold dlt
 rw [if_pos rfl]; grind
theorem cof_out {n u : Nat} {l : Nat → Rat} {f : Nat → Nat} (h : ∀ j, j < n → f j ≠ u) : cof n l f u = 0 := smQ_zero fun j hj => by
 unfold dlt
 rw [if_neg (h j hj)]; grind
theorem cof_sum {n N : Nat} {l : Nat → Rat} {f : Nat → Nat} (x : Nat → Rat) (h : ∀ j, j < n → f j < N) : smQ (fun j => l j * x (f j)) n = smQ (fun u => x u * cof n l f u) N := by
 have := (lin_smQ l f n).cut x N
 have e : smQ (fun j => l j * (if f j < N then x (f j) else 0)) n = smQ (fun j => l j * x (f j)) n := smQ_congr fun j hj => by rw [if_pos (h j hj)]
 exact e.symm.trans this
theorem smQ_split (f : Nat → Rat) (n : Nat) : ∀ m : Nat, smQ f (n + m) = smQ f n + smQ (fun i => f (n + i)) m
 | 0 => by
  show smQ f n = smQ f n + smQ _ 0
  rw [smQ]; grind
 | m + 1 => by
  show smQ f (n + m + 1) = _
  rw [smQ, smQ_split f n m, smQ]; grind
def ext (n : Nat) (A : Nat → Nat → Rat) (b : Nat → Rat) (f : Rat) (x : Nat → Rat) : Nat → Rat := fun u => if u < n then x u else b (u - n) * f - smQ (fun j => A (u - n) j * x j) n
theorem ext_lo {n : Nat} {A : Nat → Nat → Rat} {b : Nat → Rat} {f : Rat} {x : Nat → Rat} {u : Nat} (h : u < n) : ext n A b f x u = x u := if_pos h
theorem ext_hi {n : Nat} {A : Nat → Nat → Rat} {b : Nat → Rat} {f : Rat} {x : Nat → Rat} {i : Nat} : ext n A b f x (n + i) = b i * f - smQ (fun j => A i j * x j) n := by
 unfold ext
 rw [if_neg (by omega), show n + i - n = i by omega]
section
variable {m n : Nat} {A : Nat → Nat → Rat} {b c : Nat → Rat} {D : Dc}
theorem ext_on (f : Rat) (x : Nat → Rat) : (opnD n A b c).on m n (ext n A b f x) f := fun i hi => by
 show ext n A b f x (n + i) = b i * f - smQ (fun j => A i j * ext n A b f x j) n
 rw [ext_hi]
 congr 1
 exact smQ_congr fun j hj => by rw [ext_lo hj]
theorem on_ext {f : Rat} {x : Nat → Rat} (h : (opnD n A b c).on m n x f) {i : Nat} (hi : i < m) : x (n + i) = b i * f - smQ (fun j => A i j * x j) n := h i hi
theorem gol_opn (x : Nat → Rat) : (opnD n A b c).gol n x = smQ (fun j => c j * x j) n := rfl
theorem gol_ext (f : Rat) (x : Nat → Rat) : (opnD n A b c).gol n (ext n A b f x) = smQ (fun j => c j * x j) n := smQ_congr fun j hj => by
 show c j * ext n A b f x j = _
 rw [ext_lo hj]
theorem line_prices {γ : Nat → Rat} {f : Rat} {x : Nat → Rat} : smQ (fun u => ext n A b f x u * γ u) (n + m) = smQ (fun k => x k * (γ k - smQ (fun i => γ (n + i) * A i k) m)) n + f * smQ (fun i => γ (n + i) * b i) m := by
 rw [smQ_split]
 have e1 : smQ (fun u => ext n A b f x u * γ u) n = smQ (fun k => x k * γ k) n := smQ_congr fun k hk => by rw [ext_lo hk]
 have e2 : smQ (fun i => ext n A b f x (n + i) * γ (n + i)) m = f * smQ (fun i => γ (n + i) * b i) m - smQ (fun i => γ (n + i) * smQ (fun j => A i j * x j) n) m := by
  have e3 : smQ (fun i => ext n A b f x (n + i) * γ (n + i)) m = smQ (fun i => (γ (n + i) * b i) * f - γ (n + i) * smQ (fun j => A i j * x j) n) m := smQ_congr fun i _ => by rw [ext_hi]; grind
  rw [e3, smQ_sub, smQ_scale]; grind
 have e4 : ∀ m : Nat, smQ (fun i => γ (n + i) * smQ (fun j => A i j * x j) n) m = smQ (fun k => x k * smQ (fun i => γ (n + i) * A i k) m) n := fun m => by
  induction m with
  | zero =>
   rw [smQ]
   exact (smQ_zero fun k _ => by rw [smQ]; grind).symm
  | succ m ih =>
   rw [smQ, ih]
   have e5 : γ (n + m) * smQ (fun j => A m j * x j) n = smQ (fun k => (A m k * x k) * γ (n + m)) n := by rw [smQ_scale]; grind
   rw [e5, ← smQ_add]
   exact smQ_congr fun k _ => by rw [smQ]; grind
 have e6 : smQ (fun k => x k * (γ k - smQ (fun i => γ (n + i) * A i k) m)) n = smQ (fun k => x k * γ k) n - smQ (fun k => x k * smQ (fun i => γ (n + i) * A i k) m) n := by
  rw [← smQ_sub]
  exact smQ_congr fun k _ => by grind
 rw [e1, e2, e4, e6]; grind
theorem best_cert (hD : D.Ok m n) (hl : (opnD n A b c).Like m n D) (hv : ∀ i, i < m → 0 ≤ D.v i) (hc : ∀ j, j < n → D.c j ≤ 0) :
 ∃ x y : Nat → Rat, (∀ u, u < n → 0 ≤ x u) ∧ (∀ i, i < m → 0 ≤ y i) ∧ (∀ i, i < m → smQ (fun j => A i j * x j) n ≤ b i) ∧ (∀ k, k < n → c k ≤ smQ (fun i => y i * A i k) m) ∧ smQ (fun i => y i * b i) m = smQ (fun j => c j * x j) n ∧
  (∀ i, i < m → D.own i < n → x (D.own i) = D.v i) ∧ (∀ j, j < n → D.free j < n → x (D.free j) = 0) ∧ (∀ i, i < m → n ≤ D.own i → y (D.own i - n) = 0) ∧ (∀ j, j < n → n ≤ D.free j → y (D.free j - n) = -(D.c j)) := by
 obtain ⟨κ, hκ⟩ := hl.gol
 obtain ⟨x, x1, x2, x3⟩ := hD.basic
 have xo := (hl.on x 1).2 x1
 have hx0 : ∀ u, u < n + m → 0 ≤ x u := fun u hu => by
  rcases hD.all u hu with ⟨i, hi, ei⟩ | ⟨j, hj, ej⟩
  · rw [← ei, x2 i hi]; exact hv i hi
  · rw [← ej, x3 j hj]; exact Rat.le_refl
 let γ := cof n D.c D.free
 have hγ : ∀ y : Nat → Rat, D.gol n y = smQ (fun u => y u * γ u) (n + m) := fun y => cof_sum y (fun j hj => hD.lf j hj)
 have hγ0 : ∀ u, u < n + m → γ u ≤ 0 := fun u hu => by
  rcases hD.all u hu with ⟨i, hi, ei⟩ | ⟨j, hj, ej⟩
  · have : γ u = 0 := cof_out (fun j hj e => hD.ne i j hi hj (by rw [ei, e]))
    rw [this]; exact Rat.le_refl
  · have : γ u = D.c j := by rw [← ej]; exact cof_at hj (fun i k hi hk e => hD.jf i k hi hk e)
    rw [this]; exact hc j hj
 have line : ∀ (f : Rat) (z : Nat → Rat), smQ (fun j => c j * z j) n = smQ (fun k => z k * (γ k - smQ (fun i => γ (n + i) * A i k) m)) n + f * smQ (fun i => γ (n + i) * b i) m + κ * f := fun f z => by
  have h1 := hκ _ f (ext_on (m := m) (c := c) (A := A) (b := b) f z)
  rw [gol_ext, hγ, line_prices] at h1
  exact h1
 have ek : ∀ k, k < n → c k = γ k - smQ (fun i => γ (n + i) * A i k) m := fun k hk => by
  exact ZQ56
 have ef : κ = - smQ (fun i => γ (n + i) * b i) m := by
  have h1 := line 1 (fun _ => 0)
  rw [smQ_zero (fun j hj => by grind), smQ_zero (fun j hj => by grind)] at h1
  grind
 have neg : ∀ (g : Nat → Rat), smQ (fun i => -(γ (n + i)) * g i) m = - smQ (fun i => γ (n + i) * g i) m := fun g => by
  have : smQ (fun i => -(γ (n + i)) * g i) m = smQ (fun i => (γ (n + i) * g i) * (-1)) m := smQ_congr fun i _ => by grind
  rw [this, smQ_scale]; grind
 refine ⟨x, fun i => -(γ (n + i)), fun u hu => hx0 u (by omega), fun i hi => ?_, fun i hi => ?_, fun k hk => ?_, ?_, fun i hi _ => x2 i hi, fun j hj _ => x3 j hj, fun i hi hn => ?_, fun j hj hn => ?_⟩
 · have := hγ0 (n + i) (by omega)
   grind
 · have h1 := on_ext xo hi
   have h2 := hx0 (n + i) (by omega)
   grind
 · rw [neg, ek k hk]
   have := hγ0 k (by omega)
   grind
 · rw [neg, ← ef]
   have h1 := hκ x 1 xo
   have h2 : D.gol n x = 0 := smQ_zero fun j hj => by rw [x3 j hj]; grind
   rw [gol_opn, h2] at h1
   grind
 · show -(γ (n + (D.own i - n))) = 0
   have : γ (n + (D.own i - n)) = 0 := cof_out (fun j hj e => hD.ne i j hi hj (by omega))
   rw [this]; grind
 · show -(γ (n + (D.free j - n))) = _
   have e : n + (D.free j - n) = D.free j := by omega
   have : γ (D.free j) = D.c j := cof_at hj (fun i k hi hk e => hD.jf i k hi hk e)
   rw [e, this]
theorem none_cert {r : Nat} (hD : D.Ok m n) (hl : (opnD n A b c).Like m n D) (hr : r < m) (hv : D.v r < 0) (ha : ∀ j, j < n → 0 ≤ D.a r j) :
 ∃ y : Nat → Rat, (∀ i, i < m → 0 ≤ y i) ∧ (∀ k, k < n → 0 ≤ smQ (fun i => y i * A i k) m) ∧ smQ (fun i => y i * b i) m < 0 ∧
  (∀ i, i < m → i ≠ r → n ≤ D.own i → y (D.own i - n) = 0) ∧ (n ≤ D.own r → y (D.own r - n) = 1) ∧ (∀ j, j < n → n ≤ D.free j → y (D.free j - n) = D.a r j) := by
 let γ := fun u => dlt (D.own r) u + cof n (D.a r) D.free u
 have hrow : ∀ (y : Nat → Rat) (f : Rat), D.on m n y f → smQ (fun u => y u * γ u) (n + m) = D.v r * f := fun y f h => by
  exact ZQ35
 have gO : ∀ i, i < m → i ≠ r → γ (D.own i) = 0 := fun i hi hne => by
  show dlt (D.own r) (D.own i) + cof n (D.a r) D.free (D.own i) = 0
  rw [cof_out (fun j hj e => hD.ne i j hi hj e.symm)]
  unfold dlt
  rw [if_neg (fun e => hne (hD.io i r hi hr e))]; grind
 have gR : γ (D.own r) = 1 := by
  show dlt (D.own r) (D.own r) + cof n (D.a r) D.free (D.own r) = 1
  rw [cof_out (fun j hj e => hD.ne r j hr hj e.symm)]
  unfold dlt
  rw [if_pos rfl]; grind
 have gF : ∀ j, j < n → γ (D.free j) = D.a r j := fun j hj => by
  exact ZQ87
 have g0 : ∀ u, u < n + m → 0 ≤ γ u := fun u hu => by
  rcases hD.all u hu with ⟨i, hi, ei⟩ | ⟨j, hj, ej⟩
  · by_cases e : i = r
    · rw [← ei, e, gR]; decide
    · rw [← ei, gO i hi e]; exact Rat.le_refl
  · rw [← ej, gF j hj]; exact ha j hj
 have line : ∀ (f : Rat) (z : Nat → Rat), smQ (fun k => z k * (γ k - smQ (fun i => γ (n + i) * A i k) m)) n + f * smQ (fun i => γ (n + i) * b i) m = D.v r * f := fun f z => by
  have h1 := hrow _ f ((hl.on _ f).1 (ext_on (m := m) (c := c) (A := A) (b := b) f z))
  rw [line_prices] at h1
  exact h1
 refine ⟨fun i => γ (n + i), fun i hi => g0 _ (by omega), fun k hk => ?_, ?_, fun i hi hne hn => ?_, fun hn => ?_, fun j hj hn => ?_⟩
 · have h1 := line 0 (dlt k)
   rw [smQ_only (f := fun j => dlt k j * (γ j - smQ (fun i => γ (n + i) * A i j) m)) hk (fun j hj hne => by unfold dlt; rw [if_neg hne]; grind)] at h1
   unfold dlt at h1
   rw [if_pos rfl] at h1
   have h2 := g0 k (by omega)
   show 0 ≤ smQ (fun i => γ (n + i) * A i k) m
   grind
 · have h1 := line 1 (fun _ => 0)
   rw [smQ_zero (fun j hj => by grind)] at h1
   show smQ (fun i => γ (n + i) * b i) m < 0
   grind
 · show γ (n + (D.own i - n)) = 0
   rw [show n + (D.own i - n) = D.own i by omega]
   exact gO i hi hne
 · show γ (n + (D.own r - n)) = 1
   rw [show n + (D.own r - n) = D.own r by omega]
   exact gR
 · show γ (n + (D.free j - n)) = _
   rw [show n + (D.free j - n) = D.free j by omega]
   exact gF j hj
theorem ray_cert {s : Nat} (hD : D.Ok m n) (hl : (opnD n A b c).Like m n D) (hs : s < n) (hc : 0 < D.c s) (ha : ∀ i, i < m → D.a i s ≤ 0) :
 ∃ x : Nat → Rat, (∀ u, u < n → 0 ≤ x u) ∧ (∀ i, i < m → smQ (fun j => A i j * x j) n ≤ 0) ∧ 0 < smQ (fun j => c j * x j) n ∧
  (∀ i, i < m → D.own i < n → x (D.own i) = -(D.a i s)) ∧ (D.free s < n → x (D.free s) = 1) ∧ (∀ j, j < n → j ≠ s → D.free j < n → x (D.free j) = 0) := by
 obtain ⟨κ, hκ⟩ := hl.gol
 obtain ⟨x, x1, x2, x3, x4, x5⟩ := hD.ray hs
 have xo := (hl.on x 0).2 x1
 have hx0 : ∀ u, u < n + m → 0 ≤ x u := fun u hu => by
  rcases hD.all u hu with ⟨i, hi, ei⟩ | ⟨j, hj, ej⟩
  · rw [← ei, x2 i hi]
    have := ha i hi
    grind
  · by_cases e : j = s
    · rw [← ej, e, x3]; decide
    · rw [← ej, x4 j hj e]; exact Rat.le_refl
 refine ⟨x, fun u hu => hx0 u (by omega), fun i hi => ?_, ?_, fun i hi _ => x2 i hi, fun _ => x3, fun j hj hne _ => x4 j hj hne⟩
 · have h1 := on_ext xo hi
   have h2 := hx0 (n + i) (by omega)
   grind
 · have h1 := hκ x 0 xo
   rw [gol_opn, x5] at h1
   grind
end
def lesK (x f q : Rat) : Bool := mulK f q && addK x (-(f * q))
def Dc.fitX (m n : Nat) (D : Dc) (r s : Nat) : Bool :=
 (divK (D.v r) (D.a r s) && (List.range n).all fun j => divK (if j = s then 1 else D.a r j) (D.a r s)) &&
 ((List.range m).all fun i => decide (i = r) || (lesK (D.v i) (D.a i s) (D.v r / D.a r s) && (List.range n).all fun j => lesK (if j = s then 0 else D.a i j) (D.a i s) ((if j = s then 1 else D.a r j) / D.a r s))) &&
 (List.range n).all fun j => lesK (if j = s then 0 else D.c j) (D.c s) ((if j = s then 1 else D.a r j) / D.a r s)
def Dc.fits (m n : Nat) (D : Dc) : Prop := (∀ i, i < m → fitsF (D.v i) = true ∧ ∀ j, j < n → fitsF (D.a i j) = true) ∧ ∀ j, j < n → fitsF (D.c j) = true
inductive Srch (m n : Nat) : Dc → Option Dc → Prop
 | stop {D : Dc} (h : ¬ D.live m n) : Srch m n D (some D)
 | full {D : Dc} {r s : Nat} (h : D.pick m n = .swap r s) (hf : D.fitX m n r s = false) : Srch m n D none
 | step {D : Dc} {r s : Nat} {R : Option Dc} (h : D.pick m n = .swap r s) (hf : D.fitX m n r s = true) (hR : Srch m n (D.xch r s) R) : Srch m n D R
theorem Srch.det {m n : Nat} {D : Dc} {R R' : Option Dc} (h : Srch m n D R) (h' : Srch m n D R') : R = R' := by
 induction h generalizing R' with
 | stop h =>
  cases h' with
  | stop _ => rfl
  | full h2 _ => exact absurd ⟨_, _, h2⟩ h
  | step h2 _ _ => exact absurd ⟨_, _, h2⟩ h
 | full h hf =>
  cases h' with
  | stop h2 => exact absurd ⟨_, _, h⟩ h2
  | full _ _ => rfl
  | step h2 hf2 _ =>
   rw [h] at h2
   cases h2
   rw [hf] at hf2
   cases hf2
 | step h hf hR ih =>
  cases h' with
  | stop h2 => exact absurd ⟨_, _, h⟩ h2
  | full h2 hf2 =>
   rw [h] at h2
   cases h2
   rw [hf] at hf2
   cases hf2
  | step h2 hf2 hR2 =>
   rw [h] at h2
   cases h2
   exact ih hR2
theorem Srch.like {m n : Nat} {D : Dc} {R : Option Dc} (h : Srch m n D R) (hD : D.Ok m n) : ∀ D', R = some D' → D'.Ok m n ∧ D.Like m n D' ∧ ¬ D'.live m n := by
 induction h with
 | stop h =>
  intro D' e
  cases e
  exact ⟨hD, Dc.Like.refl m n _, h⟩
 | full h hf => intro D' e; cases e
 | step h hf hR ih =>
  intro D' e
  obtain ⟨h1, h2, -⟩ := Dc.pick_swap hD h
  obtain ⟨g1, g2, g3⟩ := ih (hD.xch h1 h2) D' e
  exact ⟨g1, (Dc.like_xch h1 h2 (pick_ne hD h)).trans g2, g3⟩
theorem Srch.ex {m n : Nat} : ∀ (t : Nat) {D : Dc}, ¬ (Dc.seq m n t D).live m n → ∃ R, Srch m n D R
 | 0, D, h => ⟨_, .stop h⟩
 | t + 1, D, h => by
  by_cases hl : D.live m n
  · obtain ⟨r, s, he⟩ := hl
    cases hf : D.fitX m n r s
    · exact ⟨_, .full he hf⟩
    · have e : D.nxt m n = D.xch r s := by unfold Dc.nxt; rw [he]
      obtain ⟨R, hR⟩ := Srch.ex (D := D.xch r s) t (by rw [← e]; exact h)
      exact ⟨R, .step he hf hR⟩
  · exact ⟨_, .stop hl⟩
theorem Dc.pick_best {m n : Nat} {D : Dc} (h : D.pick m n = .best) : (∀ i, i < m → 0 ≤ D.v i) ∧ ∀ j, j < n → D.c j ≤ 0 := by
 unfold Dc.pick at h
 split at h
 · rename_i h1 h2
   refine ⟨fun i hi => Rat.not_lt.1 fun hn => ?_, fun j hj => Rat.not_lt.1 fun hn => ?_⟩
   · have := lstP_none h1 i hi
     rw [Dc.negR, decide_eq_true hn] at this
     cases this
   · have := lstP_none h2 j hj
     rw [Dc.posC, decide_eq_true hn] at this
     cases this
 · unfold Dc.rowP at h; split at h <;> cases h
 · unfold Dc.colP at h; split at h <;> cases h
 · split at h
   · unfold Dc.rowP at h; split at h <;> cases h
   · unfold Dc.colP at h; split at h <;> cases h
theorem Dc.rowP_contra {n r r' : Nat} {D : Dc} (h : D.rowP n r = .contra r') : r' = r ∧ ∀ j, j < n → 0 ≤ D.a r j := by
 unfold Dc.rowP at h
 split at h
 · rename_i h1
   cases h
   refine ⟨rfl, fun j hj => Rat.not_lt.1 fun hn => ?_⟩
   have := lstP_none h1 j hj
   rw [Dc.negA, decide_eq_true hn] at this
   cases this
 · cases h
theorem Dc.colP_endless {m s s' : Nat} {D : Dc} (h : D.colP m s = .endless s') : s' = s ∧ ∀ i, i < m → D.a i s ≤ 0 := by
 unfold Dc.colP at h
 split at h
 · rename_i h1
   cases h
   refine ⟨rfl, fun i hi => Rat.not_lt.1 fun hn => ?_⟩
   have := lstP_none h1 i hi
   rw [Dc.posA, decide_eq_true hn] at this
   cases this
 · cases h
theorem Dc.rowP_kind {n r : Nat} {D : Dc} : (∃ r', D.rowP n r = .contra r') ∨ ∃ r' s, D.rowP n r = .swap r' s := by
 unfold Dc.rowP
 split
 · exact Or.inl ⟨_, rfl⟩
 · exact Or.inr ⟨_, _, rfl⟩
theorem Dc.colP_kind {m s : Nat} {D : Dc} : (∃ s', D.colP m s = .endless s') ∨ ∃ r s', D.colP m s = .swap r s' := by
 unfold Dc.colP
 split
 · exact Or.inl ⟨_, rfl⟩
 · exact Or.inr ⟨_, _, rfl⟩
theorem Dc.pick_contra {m n r : Nat} {D : Dc} (h : D.pick m n = .contra r) : r < m ∧ D.v r < 0 ∧ ∀ j, j < n → 0 ≤ D.a r j := by
 have key : ∀ r0, lstP D.own D.negR m = some r0 → D.rowP n r0 = .contra r → r < m ∧ D.v r < 0 ∧ ∀ j, j < n → 0 ≤ D.a r j := fun r0 h1 h2 => by
  obtain ⟨e, h3⟩ := Dc.rowP_contra h2
  subst e
  exact ⟨(lstP_some h1).1, of_decide_eq_true (lstP_some h1).2.1, h3⟩
 have no : ∀ s0, D.colP m s0 = .contra r → False := fun s0 h2 => by
  rcases Dc.colP_kind (m := m) (s := s0) (D := D) with ⟨s', e⟩ | ⟨a, b, e⟩ <;> rw [e] at h2 <;> cases h2
 unfold Dc.pick at h
 split at h
 · cases h
 · rename_i r0 h1 h2
   exact key r0 h1 h
 · exact (no _ h).elim
 · rename_i r0 s0 h1 h2
   split at h
   · exact key r0 h1 h
   · exact (no _ h).elim
theorem Dc.pick_endless {m n s : Nat} {D : Dc} (h : D.pick m n = .endless s) : s < n ∧ 0 < D.c s ∧ ∀ i, i < m → D.a i s ≤ 0 := by
 have key : ∀ s0, lstP D.free D.posC n = some s0 → D.colP m s0 = .endless s → s < n ∧ 0 < D.c s ∧ ∀ i, i < m → D.a i s ≤ 0 := fun s0 h1 h2 => by
  obtain ⟨e, h3⟩ := Dc.colP_endless h2
  subst e
  exact ⟨(lstP_some h1).1, of_decide_eq_true (lstP_some h1).2.1, h3⟩
 have no : ∀ r0, D.rowP n r0 = .endless s → False := fun r0 h2 => by
  rcases Dc.rowP_kind (n := n) (r := r0) (D := D) with ⟨r', e⟩ | ⟨a, b, e⟩ <;> rw [e] at h2 <;> cases h2
 unfold Dc.pick at h
 split at h
 · cases h
 · exact (no _ h).elim
 · rename_i s0 h1 h2
   exact key s0 h2 h
 · rename_i r0 s0 h1 h2
   split at h
   · exact (no _ h).elim
   · exact key s0 h2 h
end Go.Proofs.YtdlcglndhhndpaaGreat
