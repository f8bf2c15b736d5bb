/- Laws and walks; conditions stand in each theorem. -/
import Derived.Test.YtdlcglndhhndpaaGreatL11
import Derived.Test.YtdlcglndhhndpaaGreatL09
set_option linter.unusedSimpArgs false
set_option linter.unusedVariables false
namespace Go.Proofs.YtdlcglndhhndpaaGreat
open Go.RowKit
theorem ZL57 {p : Prop} (h : p := by
 first
  | (have e : j ≠ c := by omega
     rw [putF_other e, putF_other e]
     by_cases e2 : k = c
     · rw [e2, putF_same]
       cases hf : fr j
       · have := (h.piv j (by omega) hf).1
         exact ⟨by omega, fun _ => this⟩
       · exact ⟨(h.fre j (by omega) hf).1, fun h => by cases h⟩
     · rw [putF_other e2]
       exact h.mono j k hjk (by omega))
  | fail) : p := h
theorem smQ_nil {f : Nat → Rat} {n : Nat} (h : ∀ k, k < n → f k = 0) : smQ f n = 0 := by
 rw [smQ_congr (g := fun _ => 0) h, smQ_const]
 grind
theorem smQ_single {f : Nat → Rat} {n a : Nat} (ha : a < n) (h : ∀ k, k < n → k ≠ a → f k = 0) : smQ f n = f a := by
 rw [smQ_one (f := fun _ => 0) (g := f) (c := f a) ha (by grind) h, smQ_const]
 grind
theorem smQ_two {f : Nat → Rat} {n a b : Nat} (ha : a < n) (hb : b < n) (hne : a ≠ b) (h : ∀ k, k < n → k ≠ a → k ≠ b → f k = 0) : smQ f n = f a + f b := by
 have h1 : smQ (fun k => if k = b then f b else 0) n = f b := by
  rw [smQ_single hb (fun k hk hne => if_neg hne), if_pos rfl]
 rw [smQ_one (f := fun k => if k = b then f b else 0) (g := f) (c := f a) ha (by rw [if_neg hne]; grind) (fun k hk hka => by
  by_cases e : k = b
  · rw [if_pos e, e]
  · rw [if_neg e]; exact h k hk hka e), h1]
 grind
def FreeC (n : Nat) (m : Mx) (c : Nat) : Prop := ∃ x, nulM n m x ∧ x c ≠ 0 ∧ ∀ j, c < j → j < n → x j = 0
def cntB (fr : Nat → Bool) : Nat → Nat
 | 0 => 0
 | n + 1 => cntB fr n + if fr n = true then 1 else 0
theorem cntB_congr {f g : Nat → Bool} : ∀ {n : Nat}, (∀ i, i < n → f i = g i) → cntB f n = cntB g n
 | 0, _ => rfl
 | n + 1, h => by rw [cntB, cntB, cntB_congr (fun i hi => h i (by omega)), h n (by omega)]
theorem cntB_le (f : Nat → Bool) : ∀ n : Nat, cntB f n ≤ n
 | 0 => Nat.le_refl _
 | n + 1 => by
  have := cntB_le f n
  rw [cntB]
  split <;> omega
structure Stair (n c r : Nat) (m : Mx) (free : List Nat) (p : Nat → Nat) (fr : Nat → Bool) : Prop where
 piv : ∀ j, j < c → fr j = false → p j < r ∧ ∀ i, i < n → m i j = if i = p j then 1 else 0
 fre : ∀ j, j < c → fr j = true → p j ≤ r ∧ ∀ i, p j ≤ i → i < n → m i j = 0
 mono : ∀ j k, j < k → k < c → p j ≤ p k ∧ (fr j = false → p j < p k)
 sur : ∀ i, i < r → ∃ j, j < c ∧ fr j = false ∧ p j = i
 len : free.length = cntB fr c
 cnt : r + free.length = c
theorem Stair.start (n : Nat) (m : Mx) : Stair n 0 0 m [] (fun _ => 0) (fun _ => false) :=
 ⟨fun j h => absurd h (by omega), fun j h => absurd h (by omega), fun j k _ h => absurd h (by omega), fun i h => absurd h (by omega), rfl, rfl⟩
section
variable {n c r : Nat} {m : Mx} {free : List Nat} {p : Nat → Nat} {fr : Nat → Bool}
theorem Stair.freeC (h : Stair n c r m free p fr) (hz : ∀ i, r ≤ i → i < n → m i c = 0) : Stair n (c + 1) r m (free ++ [c]) (putF p c r) (putF fr c true) where
 piv := fun j hj hf => by
  by_cases e : j = c
  · rw [e, putF_same] at hf; cases hf
  · rw [putF_other e] at hf ⊢
    exact h.piv j (by omega) hf
 fre := fun j hj hf => by
  by_cases e : j = c
  · rw [e, putF_same]; exact ⟨Nat.le_refl _, hz⟩
  · rw [putF_other e] at hf ⊢
    exact h.fre j (by omega) hf
 mono := fun j k hjk hk => by
  exact ZL57
 sur := fun i hi => by
  obtain ⟨j, h1, h2, h3⟩ := h.sur i hi
  exact ⟨j, by omega, by rw [putF_other (by omega)]; exact h2, by rw [putF_other (by omega)]; exact h3⟩
 len := by
  rw [List.length_append, cntB, putF_same, if_pos rfl, cntB_congr (g := fr) (fun i hi => putF_other (by omega)), ← h.len]
  rfl
 cnt := by
  have := h.cnt
  rw [List.length_append]
  show r + (free.length + 1) = c + 1
  omega
theorem Stair.pivot {a : Nat} (h : Stair n c r m free p fr) (hr : r < n) (ha : r ≤ a ∧ a < n) (h0 : swpM m r a r c ≠ 0) : Stair n (c + 1) (r + 1) (pivM (swpM m r a) r c) free (putF p c r) (putF fr c false) := by
 have hcol : ∀ j, (∀ i, r ≤ i → i < n → m i j = 0) → ∀ i, i < n → pivM (swpM m r a) r c i j = m i j := fun j hz i hi => by
  have z1 : swpM m r a r j = 0 := by
   unfold swpM
   rw [if_pos rfl]
   exact hz a ha.1 ha.2
  have z2 : swpM m r a i j = m i j := by
   unfold swpM
   by_cases e1 : i = r
   · rw [if_pos e1, hz a ha.1 ha.2, e1, hz r (Nat.le_refl _) hr]
   · rw [if_neg e1]
     by_cases e2 : i = a
     · rw [if_pos e2, e2, hz a ha.1 ha.2, hz r (Nat.le_refl _) hr]
     · rw [if_neg e2]
  unfold pivM
  by_cases e : i = r
  · rw [if_pos e, z1, e, hz r (Nat.le_refl _) hr]
    grind
  · rw [if_neg e, z1, z2]
    grind
 refine ⟨fun j hj hf => ?_, fun j hj hf => ?_, fun j k hjk hk => ?_, fun i hi => ?_, ?_, ?_⟩
 · by_cases e : j = c
   · subst e
     rw [putF_same]
     refine ⟨by omega, fun i hi => ?_⟩
     unfold pivM
     by_cases e : i = r
     · rw [if_pos e, if_pos e]
       grind
     · rw [if_neg e, if_neg e]
       grind
   · rw [putF_other e] at hf ⊢
     obtain ⟨h1, h2⟩ := h.piv j (by omega) hf
     refine ⟨by omega, fun i hi => ?_⟩
     rw [hcol j (fun i h3 h4 => by rw [h2 i h4, if_neg (by omega)]) i hi]
     exact h2 i hi
 · by_cases e : j = c
   · rw [e, putF_same] at hf; cases hf
   · rw [putF_other e] at hf ⊢
     obtain ⟨h1, h2⟩ := h.fre j (by omega) hf
     refine ⟨by omega, fun i h3 hi => ?_⟩
     rw [hcol j (fun i h4 h5 => h2 i (by omega) h5) i hi]
     exact h2 i h3 hi
 · exact ZL57
 · by_cases e : i = r
   · exact ⟨c, by omega, putF_same .., by rw [putF_same, e]⟩
   · obtain ⟨j, h1, h2, h3⟩ := h.sur i (by omega)
     exact ⟨j, by omega, by rw [putF_other (by omega)]; exact h2, by rw [putF_other (by omega)]; exact h3⟩
 · rw [cntB, putF_same, cntB_congr (g := fr) (fun i hi => putF_other (by omega)), ← h.len]
   simp
 · have := h.cnt
   omega
theorem Stair.iff (h : Stair n n r m free p fr) {c : Nat} (hc : c < n) : fr c = true ↔ FreeC n m c := by
 have hrn : r ≤ n := by have := h.cnt; omega
 constructor
 · intro hf
   refine ⟨fun j => if j = c then 1 else if j < c ∧ fr j = false then -(m (p j) c) else 0, fun i hi => ?_, by simp, fun j h1 h2 => by
    simp only
    rw [if_neg (by omega), if_neg (by omega)]⟩
   unfold dotM
   have hother : ∀ k, k < n → k ≠ c → ¬ (k < c ∧ fr k = false) → m i k * (if k = c then (1 : Rat) else if k < c ∧ fr k = false then -(m (p k) c) else 0) = 0 := fun k hk h1 h2 => by
    rw [if_neg h1, if_neg h2]; grind
   have hz : ∀ k, k < c → fr k = false → p k ≠ i → m i k = 0 := fun k hk hf hne => by
    rw [(h.piv k (by omega) hf).2 i hi, if_neg (fun e => hne e.symm)]
   have hall : m i c = 0 → (∀ k, k < c → fr k = false → p k ≠ i) → smQ (fun k => m i k * (if k = c then (1 : Rat) else if k < c ∧ fr k = false then -(m (p k) c) else 0)) n = 0 := fun h0 h1 => smQ_nil fun k hk => by
    by_cases e : k = c
    · rw [e, h0]; grind
    · by_cases e2 : k < c ∧ fr k = false
      · rw [hz k e2.1 e2.2 (h1 k e2.1 e2.2)]; grind
      · exact hother k hk e e2
   obtain ⟨g1, g2⟩ := h.fre c hc hf
   by_cases hir : i < r
   · obtain ⟨j0, h1, h2, h3⟩ := h.sur i hir
     have hne : j0 ≠ c := fun e => by rw [e, hf] at h2; cases h2
     by_cases hlt : j0 < c
     · rw [smQ_two (a := c) (b := j0) hc h1 (fun e => hne e.symm) (fun k hk e1 e2 => by
        by_cases e3 : k < c ∧ fr k = false
        · rw [hz k e3.1 e3.2 (fun e => ?_)]
          · grind
          · rcases Nat.lt_or_gt_of_ne e2 with h4 | h4
            · have := (h.mono k j0 h4 h1).2 e3.2
              omega
            · have := (h.mono j0 k h4 hk).2 h2
              omega
        · exact hother k hk e1 e3)]
       simp only [if_true]
       rw [if_neg hne, if_pos ⟨hlt, h2⟩, (h.piv j0 h1 h2).2 i hi, if_pos h3.symm, h3]
       grind
     · have hgt : c < j0 := by omega
       have := (h.mono c j0 hgt h1).1
       refine hall (g2 i (by omega) hi) fun k hk hfk e => ?_
       have := (h.mono k j0 (by omega) h1).2 hfk
       omega
   · refine hall (g2 i (by omega) hi) fun k hk hfk e => ?_
     have := (h.piv k (by omega) hfk).1
     omega
 · rintro ⟨x, hx, h0, hs⟩
   cases hf : fr c
   · exfalso
     obtain ⟨g1, g2⟩ := h.piv c hc hf
     have h1 := hx (p c) (by omega)
     unfold dotM at h1
     rw [smQ_single hc (fun k hk hne => by
      rcases Nat.lt_or_gt_of_ne hne with hlt | hgt
      · cases hfk : fr k
        · rw [(h.piv k hk hfk).2 (p c) (by omega), if_neg (by have := (h.mono k c hlt hc).2 hfk; omega)]
          grind
        · rw [(h.fre k hk hfk).2 (p c) (h.mono k c hlt hc).1 (by omega)]
          grind
      · rw [hs k hgt hk]
        grind), g2 (p c) (by omega), if_pos rfl] at h1
     apply h0
     grind
   · rfl
end
theorem elim_stair {n : Nat} : ∀ (f : Nat) (m m' : Mx) (free free' : List Nat) (p : Nat → Nat) (fr : Nat → Bool), f ≤ n → Stair n (n - f) (n - f - free.length) m free p fr → elimF n false f m free = some (m', free') → ∃ r p' fr', Stair n n r m' free' p' fr'
 | 0, m, m', free, free', p, fr, hf, hs, h => by
  rw [elimF] at h
  cases h
  exact ⟨_, p, fr, hs⟩
 | f + 1, m, m', free, free', p, fr, hf, hs, h => by
  rw [elimF] at h
  try simp only at h
  have hcnt := hs.cnt
  generalize hr : n - (f + 1) - free.length = r at *
  have e1 : n - (f + 1) + 1 = n - f := by omega
  obtain ⟨g1, g2, g3, g4⟩ := findP_spec m (n - (f + 1)) (n - r) r
  by_cases ha : findP m (n - (f + 1)) (n - r) r = n
  · rw [if_pos ha, if_neg (by decide)] at h
    have hs' := hs.freeC (fun i h1 h2 => g3 i h1 (by omega))
    rw [e1] at hs'
    refine elim_stair f m m' _ free' (putF p (n - (f + 1)) r) (putF fr (n - (f + 1)) true) (by omega) ?_ h
    rw [List.length_append]
    show Stair n (n - f) (n - f - (free.length + 1)) m _ _ _
    rw [show n - f - (free.length + 1) = r by omega]
    exact hs'
  · rw [if_neg ha] at h
    by_cases hp : pivB (swpM m r (findP m (n - (f + 1)) (n - r) r)) n r (n - (f + 1)) = true
    · rw [if_pos hp] at h
      have hr' : r < n := by omega
      have h0 : swpM m r (findP m (n - (f + 1)) (n - r) r) r (n - (f + 1)) ≠ 0 := by
       unfold swpM
       rw [if_pos rfl]
       exact g4 (by omega)
      have hs' := hs.pivot hr' ⟨g1, by omega⟩ h0
      rw [e1] at hs'
      refine elim_stair f _ m' _ free' (putF p (n - (f + 1)) r) (putF fr (n - (f + 1)) false) (by omega) ?_ h
      rw [show n - f - free.length = r + 1 by omega]
      exact hs'
    · rw [if_neg hp] at h
      cases h
def LeftN (n : Nat) (m : Mx) : Prop := ∃ y : Nat → Rat, (∃ i, i < n ∧ y i ≠ 0) ∧ ∀ k, k < n → smQ (fun i => y i * m i k) n = 0
theorem smQ_sw (f : Nat → Rat) {n a b : Nat} (ha : a < n) (hb : b < n) : smQ (fun i => f (sw a b i)) n = smQ f n := by
 by_cases e : a = b
 · refine smQ_congr fun i _ => ?_
   subst e
   unfold sw
   by_cases e2 : i = a
   · rw [if_pos e2, e2]
   · rw [if_neg e2, if_neg e2]
 · have h1 : smQ (fun i => if i = a then f b else f i) n = smQ f n + (f b - f a) := smQ_one ha (by rw [if_pos rfl]; grind) (fun i _ hne => if_neg hne)
   rw [smQ_one (f := fun i => if i = a then f b else f i) (b := b) (c := f a - f b) hb (by
    unfold sw
    rw [if_neg (fun h => e h.symm), if_pos rfl, if_neg (fun h => e h.symm)]
    grind) (fun i _ hne => by
    unfold sw
    by_cases e2 : i = a
    · rw [if_pos e2, if_pos e2]
    · rw [if_neg e2, if_neg hne, if_neg e2]), h1]
   grind
theorem swpM_sw (m : Mx) (a b i : Nat) : swpM m a b i = m (sw a b i) := by
 unfold swpM sw
 split
 · rfl
 · split <;> rfl
theorem LeftN.swap {n a b : Nat} {m : Mx} (ha : a < n) (hb : b < n) (h : LeftN n m) : LeftN n (swpM m a b) := by
 obtain ⟨y, ⟨i, hi, h0⟩, hy⟩ := h
 have hss : ∀ i, sw a b (sw a b i) = i := fun i => by
  exact ZL68
 refine ⟨fun i => y (sw a b i), ⟨sw a b i, sw_lt ha hb hi, by show y (sw a b (sw a b i)) ≠ 0; rw [hss]; exact h0⟩, fun k hk => ?_⟩
 rw [← hy k hk, ← smQ_sw (fun i => y i * m i k) ha hb]
 exact smQ_congr fun i _ => by rw [swpM_sw]
theorem LeftN.piv {n r c : Nat} {m : Mx} (hr : r < n) (hc : c < n) (h0 : m r c ≠ 0) (h : LeftN n m) : LeftN n (pivM m r c) := by
 obtain ⟨y, ⟨i, hi, hy0⟩, hy⟩ := h
 have hT := hy c hc
 refine ⟨fun i => if i = r then 0 else y i, ?_, fun k hk => ?_⟩
 · by_cases hex : ∃ j, j < n ∧ j ≠ r ∧ y j ≠ 0
   · obtain ⟨j, h1, h2, h3⟩ := hex
     exact ⟨j, h1, by show (if j = r then 0 else y j) ≠ 0; rw [if_neg h2]; exact h3⟩
   · exfalso
     have hz : ∀ j, j < n → j ≠ r → y j = 0 := fun j h1 h2 => by
      by_cases e : y j = 0
      · exact e
      · exact absurd ⟨j, h1, h2, e⟩ hex
     rw [smQ_single hr (fun k hk hne => by rw [hz k hk hne]; grind)] at hT
     have hyr : y r = 0 := by grind
     apply hy0
     by_cases e : i = r
     · rw [e]; exact hyr
     · exact hz i hi e
 · have h1 : smQ (fun i => (if i = r then 0 else y i) * pivM m r c i k) n = smQ (fun i => y i * m i k - m r k / m r c * (y i * m i c)) n := smQ_congr fun i hi => by
    unfold pivM
    by_cases e : i = r
    · rw [if_pos e, if_pos e, e]
      grind
    · rw [if_neg e, if_neg e]
      grind
   have h2 : ∀ (s : Rat) (f g : Nat → Rat) (n : Nat), smQ (fun i => f i - s * g i) n = smQ f n - s * smQ g n := fun s f g n => by
    induction n with
    | zero => rw [smQ, smQ, smQ]; grind
    | succ n ih => rw [smQ, smQ, smQ, ih]; grind
   rw [h1, h2 (m r k / m r c) (fun i => y i * m i k) (fun i => y i * m i c) n, hy k hk, hT]
   grind
theorem elim_left {n : Nat} {stop : Bool} : ∀ (f : Nat) (m m' : Mx) (free free' : List Nat), f ≤ n → free.length ≤ n - f → LeftN n m → elimF n stop f m free = some (m', free') → LeftN n m'
 | 0, m, m', free, free', hf, hl, hm, h => by
  rw [elimF] at h
  cases h
  exact hm
 | f + 1, m, m', free, free', hf, hl, hm, h => by
  rw [elimF] at h
  try simp only at h
  generalize hr : n - (f + 1) - free.length = r at *
  obtain ⟨g1, g2, g3, g4⟩ := findP_spec m (n - (f + 1)) (n - r) r
  by_cases ha : findP m (n - (f + 1)) (n - r) r = n
  · rw [if_pos ha] at h
    by_cases hst : stop = true
    · rw [if_pos hst] at h
      cases h
      exact hm
    · rw [if_neg hst] at h
      exact elim_left f m m' _ free' (by omega) (by rw [List.length_append]; show free.length + 1 ≤ _; omega) hm h
  · rw [if_neg ha] at h
    by_cases hp : pivB (swpM m r (findP m (n - (f + 1)) (n - r) r)) n r (n - (f + 1)) = true
    · rw [if_pos hp] at h
      have hr' : r < n := by omega
      have h0 : swpM m r (findP m (n - (f + 1)) (n - r) r) r (n - (f + 1)) ≠ 0 := by
       unfold swpM
       rw [if_pos rfl]
       exact g4 (by omega)
      exact elim_left f _ m' _ free' (by omega) (by omega) ((hm.swap hr' (by omega)).piv hr' (by omega) h0) h
    · rw [if_neg hp] at h
      cases h
theorem elim_count {n : Nat} {m m' : Mx} {free : List Nat} (h : elimF n false n m [] = some (m', free)) : ∃ fr : Nat → Bool, (∀ j, j < n → (fr j = true ↔ FreeC n m j)) ∧ free.length = cntB fr n ∧ (LeftN n m → 0 < n → 1 ≤ free.length) := by
 obtain ⟨r, p, fr, hs⟩ := elim_stair n m m' [] free _ _ (Nat.le_refl _) (by rw [Nat.sub_self]; exact Stair.start n m) h
 obtain ⟨hn, -⟩ := elim_nul n m m' [] free (Nat.le_refl _) (by simp) h
 refine ⟨fr, fun j hj => (hs.iff hj).trans ⟨fun ⟨x, h1, h2⟩ => ⟨x, (hn x).1 h1, h2⟩, fun ⟨x, h1, h2⟩ => ⟨x, (hn x).2 h1, h2⟩⟩, hs.len, fun hL h0 => ?_⟩
 apply Nat.le_of_not_lt
 intro hlt
 have hcnt := hs.cnt
 have hc0 := hs.len
 obtain ⟨y, ⟨i, hi, hy0⟩, hy⟩ := elim_left n m m' [] free (Nat.le_refl _) (by simp) hL h
 obtain ⟨j, h1, h2, h3⟩ := hs.sur i (by omega)
 have h4 := hy j h1
 rw [smQ_single hi (fun k hk hne => by rw [(hs.piv j h1 h2).2 k hk, if_neg (fun e => hne (by omega))]; grind), (hs.piv j h1 h2).2 i hi, if_pos h3.symm] at h4
 apply hy0
 grind
def dotK (a x : Nat → Rat) : Nat → Option Rat
 | 0 => some 0
 | k + 1 => (dotK a x k).bind fun s => if (mulK (a k) (x k) && addK s (a k * x k)) = true then some (s + a k * x k) else none
def Pt (k : Nat) (q : Rat) : Prop := (q.num.natAbs : Int) < pw k ∧ (q.den : Int) < pw k
theorem Pt.mono {j k : Nat} {q : Rat} (h : Pt j q) (hjk : j ≤ k) : Pt k q := by
 have := pw_le hjk
 exact ⟨by have := h.1; omega, by have := h.2; omega⟩
theorem parts_le {x y : Int} (hy : 0 < y) : ((Rat.divInt x y).num.natAbs : Int) ≤ x.natAbs ∧ ((Rat.divInt x y).den : Int) ≤ y := by
 obtain ⟨e1, e2⟩ := divInt_parts (x := x) hy
 refine ⟨?_, ?_⟩
 · rw [e1, Int.natAbs_ediv_of_dvd (Int.gcd_dvd_left ..)]
   have := Nat.div_le_self x.natAbs (Int.gcd x y : Int).natAbs
   omega
 · rw [e2]
   exact Int.ediv_le_self _ (by omega)
theorem Pt.mul {j k : Nat} {x y : Rat} (hx : Pt j x) (hy : Pt k y) (hjk : j + k ≤ 60) : mulK x y = true ∧ Pt (j + k) (x * y) := by
 have m1 : ((x.num * y.num).natAbs : Int) < pw (j + k) := pw_mul_lt hx.1 hy.1
 have m2 : (((x.den : Int) * (y.den : Int)).natAbs : Int) < pw (j + k) := pw_mul_lt (x := (x.den : Int)) (y := (y.den : Int)) (by have := hx.2; omega) (by have := hy.2; omega)
 have hdp := den_mul_pos x y
 have h := parts_le (x := x.num * y.num) hdp
 rw [rat_mul] at h
 refine ⟨?_, ?_, ?_⟩
 · unfold mulK
   rw [fits_lt m1 hjk, fits_lt m2 hjk]
   rfl
 · omega
 · have := h.2
   omega
theorem Pt.add {j k : Nat} {x y : Rat} (hx : Pt j x) (hy : Pt k y) (hjk : j + k + 1 ≤ 60) : addK x y = true ∧ Pt (j + k + 1) (x + y) := by
 have m1 : ((x.num * (y.den : Int)).natAbs : Int) < pw (j + k) := pw_mul_lt hx.1 (y := (y.den : Int)) (by have := hy.2; omega)
 have m2 : ((y.num * (x.den : Int)).natAbs : Int) < pw (j + k) := by
  rw [Nat.add_comm]
  exact pw_mul_lt hy.1 (y := (x.den : Int)) (by have := hx.2; omega)
 have m3 : (((x.den : Int) * (y.den : Int)).natAbs : Int) < pw (j + k) := pw_mul_lt (x := (x.den : Int)) (y := (y.den : Int)) (by have := hx.2; omega) (by have := hy.2; omega)
 have hdp := den_mul_pos x y
 have hp : pw (j + k + 1) = 1048576 * pw (j + k) := rfl
 have h := parts_le (x := x.num * y.den + y.num * x.den) hdp
 rw [rat_add] at h
 have m4 : ((x.num * (y.den : Int) + y.num * (x.den : Int)).natAbs : Int) < pw (j + k + 1) := by omega
 refine ⟨?_, ?_, ?_⟩
 · unfold addK sumK
   rw [fits_lt m1 (by omega), fits_lt m2 (by omega), fits_lt m3 (by omega), fits_lt m4 hjk]
   rfl
 · omega
 · have := h.2
   omega
theorem Pt.zero : Pt 1 0 := by
 refine ⟨?_, ?_⟩ <;> decide +kernel
def chkM (n : Nat) (m : Mx) (x : Nat → Rat) : Bool := (List.range n).all fun i => decide (dotK (m i) x n = some (m i n))
theorem elim_fact {n : Nat} {m m' : Mx} {free : List Nat} (h : elimF n true n m [] = some (m', free)) :
 (free = [] ∧ (∀ x, solM n m x ↔ ∀ i, i < n → x i = m' i n) ∧ (∀ x, nulM n m x → ∀ i, i < n → x i = 0)) ∨
 (∃ c, free = [c] ∧ c < n ∧ nulM n m (kerV m' c) ∧ kerV m' c c ≠ 0) := by
 obtain ⟨h1, h2⟩ := elim_stop n m m' free (Nat.le_refl _) (by rw [Nat.sub_self]; exact UnitM.zero n m) h
 obtain ⟨g1, g2⟩ := elim_nul n m m' [] free (Nat.le_refl _) (by simp) h
 rcases h2 with ⟨rfl, hU⟩ | ⟨c, rfl, hc, hU, hz⟩
 · exact Or.inl ⟨rfl, fun x => (h1 x).symm.trans (unit_sol hU x), fun x hx => unit_nul hU ((g1 x).2 hx)⟩
 · exact Or.inr ⟨c, rfl, hc, (g1 _).1 (free_nul hc hU hz), kerV_ne m' c⟩
def TrivN (n : Nat) (m : Mx) : Prop := ∀ x, nulM n m x → ∀ i, i < n → x i = 0
theorem Pt.one : Pt 1 1 := by
 refine ⟨?_, ?_⟩ <;> decide +kernel
theorem Pt.neg {j : Nat} {q : Rat} (h : Pt j q) : Pt j (-q) := by
 unfold Pt
 rw [Rat.neg_num, Rat.neg_den, Int.natAbs_neg]
 exact h
theorem rank_triv {n : Nat} {m m' : Mx} {free : List Nat} (h : elimF n false n m [] = some (m', free)) : free.length ≤ n ∧ (free.length = 0 ↔ TrivN n m) := by
 obtain ⟨fr, h1, h2, -⟩ := elim_count h
 refine ⟨by rw [h2]; exact cntB_le fr n, ?_⟩
 rw [h2]
 constructor
 · intro h0 x hx
   have hz : ∀ (k : Nat), k ≤ n → cntB fr k = 0 → ∀ j, j < k → fr j = false := fun k => by
    induction k with
    | zero => intro _ _ j hj; omega
    | succ k ih =>
     intro hk hc j hj
     rw [cntB] at hc
     by_cases e : j = k
     · rw [e]
       cases hf : fr k
       · rfl
       · rw [hf] at hc
         simp at hc
     · exact ih (by omega) (by omega) j (by omega)
   intro i hi
   apply Classical.byContradiction
   intro hne
   have hlast : ∀ d, ∀ k, k < n → n - k = d → x k ≠ 0 → ∃ c, c < n ∧ x c ≠ 0 ∧ ∀ j, c < j → j < n → x j = 0 := fun d => by
    induction d using Nat.strongRecOn with
    | _ d ih =>
     intro k hk hd hne
     by_cases hex : ∃ j, k < j ∧ j < n ∧ x j ≠ 0
     · obtain ⟨j, g1, g2, g3⟩ := hex
       exact ih (n - j) (by omega) j g2 rfl g3
     · exact ⟨k, hk, hne, fun j g1 g2 => Classical.byContradiction fun g3 => hex ⟨j, g1, g2, g3⟩⟩
   obtain ⟨c, hc, hc0, hcs⟩ := hlast _ i hi rfl hne
   have := hz n (Nat.le_refl _) h0 c hc
   rw [(h1 c hc).2 ⟨x, hx, hc0, hcs⟩] at this
   cases this
 · intro hT
   have : ∀ k, k ≤ n → cntB fr k = 0 := fun k => by
    induction k with
    | zero => intro _; rfl
    | succ k ih =>
     intro hk
     rw [cntB, ih (by omega)]
     cases hf : fr k
     · rfl
     · obtain ⟨x, hx, hx0, -⟩ := (h1 k (by omega)).1 hf
       exact absurd (hT x hx k (by omega)) hx0
   exact this n (Nat.le_refl _)
end Go.Proofs.YtdlcglndhhndpaaGreat
