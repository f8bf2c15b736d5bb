/- Plain law of layer 15: times that grow until all steps can be taken; what grows too often lies on a circle. -/
namespace Go.Proofs.Ythmnkmomgaamlaa
set_option linter.unusedVariables false

/-- from, to, gap -/
abbrev St := Int × Int × Int
def sF (s : St) : Nat := s.1.toNat
def sT (s : St) : Nat := s.2.1.toNat
def sG (s : St) : Int := s.2.2
def okS (n : Nat) (s : St) : Prop := (0 ≤ s.1 ∧ s.1 < n) ∧ (0 ≤ s.2.1 ∧ s.2.1 < n) ∧ s.1 ≠ s.2.1 ∧ -1048576 ≤ s.2.2 ∧ s.2.2 ≤ 1048576
def aAt (all : List St) (e : Nat) : St := all.getD e (0, 0, 0)
theorem aAt_eq {all : List St} {e : Nat} {s : St} (h : all[e]? = some s) : aAt all e = s := by simp [aAt, List.getD, h]
theorem aAt_mem {all : List St} {e : Nat} (h : e < all.length) : aAt all e ∈ all := by
  rw [aAt_eq (List.getElem?_eq_getElem h)]; exact List.getElem_mem h
theorem okS_nat {n : Nat} {s : St} (h : okS n s) : sF s < n ∧ sT s < n ∧ sF s ≠ sT s ∧ -1048576 ≤ sG s ∧ sG s ≤ 1048576 ∧ (s.1 = (sF s : Int)) ∧ (s.2.1 = (sT s : Int)) := by
  unfold okS at h; unfold sF sT sG; omega
/-- times that keep all steps -/
def Feas (all : List St) (F : Nat → Int) : Prop := ∀ e, e < all.length → F (sF (aAt all e)) + sG (aAt all e) ≤ F (sT (aAt all e))
/-- the event from which an event has grown last -/
def pv (all : List St) (B : Nat → Nat) (v : Nat) : Nat := sF (aAt all (B v))
def itp (all : List St) (B : Nat → Nat) : Nat → Nat → Nat
  | 0, v => v
  | k + 1, v => pv all B (itp all B k v)
theorem itp_add (all : List St) (B : Nat → Nat) (a v : Nat) : ∀ b, itp all B (a + b) v = itp all B b (itp all B a v)
  | 0 => rfl
  | b + 1 => by rw [← Nat.add_assoc, itp, itp_add all B a v b, itp]
/-- sum of f over 0 .. n-1 -/
def sumN (f : Nat → Int) : Nat → Int
  | 0 => 0
  | n + 1 => sumN f n + f n
def cySum (all : List St) (B : Nat → Nat) (v k : Nat) : Int := sumN (fun j => sG (aAt all (B (itp all B j v)))) k

theorem pigeon : ∀ (n : Nat) (f : Nat → Nat), (∀ k, k ≤ n → f k < n) → ∃ i j, i < j ∧ j ≤ n ∧ f i = f j
  | 0, f, h => absurd (h 0 (Nat.le_refl _)) (by omega)
  | n + 1, f, h => by
    by_cases hx : ∃ k, k ≤ n ∧ f k = f (n + 1)
    · obtain ⟨k, hk, e⟩ := hx
      exact ⟨k, n + 1, by omega, Nat.le_refl _, e⟩
    · have hne : ∀ k, k ≤ n → f k ≠ f (n + 1) := fun k hk e => hx ⟨k, hk, e⟩
      have hl := h (n + 1) (Nat.le_refl _)
      obtain ⟨i, j, hij, hj, e⟩ := pigeon n (fun k => if f k = n then f (n + 1) else f k) (fun k hk => by
        have h1 := h k (by omega)
        have h2 := hne k hk
        by_cases e : f k = n
        · simp only [if_pos e]; omega
        · simp only [if_neg e]; omega)
      refine ⟨i, j, hij, by omega, ?_⟩
      have hi2 := hne i (by omega)
      have hj2 := hne j hj
      by_cases e1 : f i = n <;> by_cases e2 : f j = n <;> simp only [e1, e2, if_true, if_false] at e <;> omega

/-- what is known of who has grown from whom -/
def Prd (n : Nat) (all : List St) (T : Nat → Int) (B U S : Nat → Nat) : Prop := ∀ v, v < n → 0 < U v → B v < all.length ∧ sT (aAt all (B v)) = v ∧ T v ≤ T (pv all B v) + sG (aAt all (B v)) ∧ (S v ≤ S (pv all B v) → T v < T (pv all B v) + sG (aAt all (B v))) ∧ U v ≤ U (pv all B v) + 1
structure Gs (n : Nat) (all : List St) (r i : Nat) (T : Nat → Int) (B : Nat → Nat) (calm : Bool) (U S : Nat → Nat) (C : Nat) : Prop where
  pos : ∀ v, v < n → 0 ≤ T v
  bd : ∀ v, v < n → T v ≤ C * 1048576
  clk : C ≤ r * all.length + i
  zero : ∀ v, v < n → U v = 0 → T v = 0
  hS : ∀ v, v < n → S v ≤ C
  hU : ∀ v, v < n → U v ≤ r + 1
  prd : Prd n all T B U S
  viol : ∀ e, e < all.length → T (sT (aAt all e)) < T (sF (aAt all e)) + sG (aAt all e) → (if e < i then r + 1 else r) ≤ U (sF (aAt all e))
  calmq : calm = true → ∀ e, e < i → e < all.length → T (sF (aAt all e)) + sG (aAt all e) ≤ T (sT (aAt all e))
  least : ∀ F, Feas all F → (∀ v, v < n → 0 ≤ F v) → ∀ v, v < n → T v ≤ F v
  hB : ∀ v, v < n → B v ≤ all.length
theorem Gs.start (n : Nat) (all : List St) : Gs n all 0 0 (fun _ => 0) (fun _ => 0) true (fun _ => 0) (fun _ => 0) 0 where
  pos := fun _ _ => by simp
  bd := fun _ _ => by simp
  clk := by simp
  zero := fun _ _ _ => rfl
  hS := fun _ _ => Nat.le_refl _
  hU := fun _ _ => by omega
  prd := fun v _ h => by simp at h
  viol := fun e _ _ => by simp
  calmq := fun _ e h => absurd h (by omega)
  least := fun F _ h v hv => h v hv
  hB := fun _ _ => by omega
section
variable {n : Nat} {all : List St} {r i : Nat} {T : Nat → Int} {B : Nat → Nat} {calm : Bool} {U S : Nat → Nat} {C : Nat}
theorem Gs.skip (g : Gs n all r i T B calm U S C) (h : T (sF (aAt all i)) + sG (aAt all i) ≤ T (sT (aAt all i))) : Gs n all r (i + 1) T B calm U S C where
  pos := g.pos
  bd := g.bd
  clk := by have := g.clk; omega
  zero := g.zero
  hS := g.hS
  hU := g.hU
  prd := g.prd
  viol := fun e he hv => by
    have h1 := g.viol e he hv
    by_cases e1 : e = i
    · subst e1; omega
    · by_cases e2 : e < i
      · rw [if_pos e2] at h1; rw [if_pos (by omega)]; exact h1
      · rw [if_neg e2] at h1; rw [if_neg (by omega)]; exact h1
  calmq := fun hc e he hl => by
    by_cases e1 : e = i
    · subst e1; exact h
    · exact g.calmq hc e (by omega) hl
  least := g.least
  hB := g.hB
theorem Gs.round (g : Gs n all r all.length T B calm U S C) : Gs n all (r + 1) 0 T B true U S C where
  pos := g.pos
  bd := g.bd
  clk := by have := g.clk; rw [Nat.add_mul]; omega
  zero := g.zero
  hS := g.hS
  hU := fun v hv => by have := g.hU v hv; omega
  prd := g.prd
  viol := fun e he hv => by
    have h1 := g.viol e he hv
    rw [if_pos he] at h1
    rw [if_neg (by omega)]; exact h1
  calmq := fun _ e h => absurd h (by omega)
  least := g.least
  hB := g.hB
theorem Gs.up (hok : ∀ e, e < all.length → okS n (aAt all e)) (g : Gs n all r i T B calm U S C) (hi : i < all.length) (h : T (sT (aAt all i)) < T (sF (aAt all i)) + sG (aAt all i)) :
    Gs n all r (i + 1) (fun v => if v = sT (aAt all i) then T (sF (aAt all i)) + sG (aAt all i) else T v) (fun v => if v = sT (aAt all i) then i else B v) false
      (fun v => if v = sT (aAt all i) then r + 1 else U v) (fun v => if v = sT (aAt all i) then C + 1 else S v) (C + 1) := by
  obtain ⟨o1, o2, o3, o4, o5, -⟩ := okS_nat (hok i hi)
  have hvi := g.viol i hi h
  rw [if_neg (Nat.lt_irrefl i)] at hvi
  refine ⟨fun v hv => ?_, fun v hv => ?_, by have := g.clk; omega, fun v hv hU => ?_, fun v hv => ?_, fun v hv => ?_, fun v hv hU => ?_, fun e he hv => ?_, (fun hc => by cases hc), fun F hF h0 v hv => ?_, fun v hv => ?_⟩
  · have := g.pos v hv
    have := g.pos (sT (aAt all i)) o2
    split
    · omega
    · exact g.pos v hv
  · have h1 := g.bd v hv
    have h2 := g.bd (sF (aAt all i)) o1
    split <;> omega
  · split at hU
    · omega
    · rename_i hne; simp only [if_neg hne]; exact g.zero v hv hU
  · have := g.hS v hv
    split <;> omega
  · have := g.hU v hv
    split <;> omega
  · by_cases hvt : v = sT (aAt all i)
    · have hpv : pv all (fun v => if v = sT (aAt all i) then i else B v) v = sF (aAt all i) := by unfold pv; simp only [if_pos hvt]
      rw [hpv]
      simp only [if_pos hvt, if_neg o3]
      refine ⟨hi, hvt.symm, Int.le_refl _, fun hS => ?_, by omega⟩
      have := g.hS (sF (aAt all i)) o1
      omega
    · have hpv : pv all (fun v => if v = sT (aAt all i) then i else B v) v = pv all B v := by unfold pv; simp only [if_neg hvt]
      rw [hpv]
      simp only [if_neg hvt] at hU ⊢
      obtain ⟨p1, p2, p3, p4, p5⟩ := g.prd v hv hU
      refine ⟨p1, p2, ?_, ?_, ?_⟩
      · split
        · rename_i e; rw [e] at p3; omega
        · exact p3
      · split
        · rename_i e; rw [e] at p3; intro _; omega
        · exact p4
      · have := g.hU v hv
        split
        · omega
        · exact p5
  · by_cases e1 : sF (aAt all e) = sT (aAt all i)
    · rw [if_pos e1]; split <;> omega
    · rw [if_neg e1] at hv ⊢
      by_cases e2 : sT (aAt all e) = sT (aAt all i)
      · rw [if_pos e2] at hv
        have h1 := g.viol e he (by rw [e2]; omega)
        by_cases e3 : e = i
        · subst e3; omega
        · by_cases e4 : e < i
          · rw [if_pos e4] at h1; rw [if_pos (by omega)]; exact h1
          · rw [if_neg e4] at h1; rw [if_neg (by omega)]; exact h1
      · rw [if_neg e2] at hv
        have h1 := g.viol e he hv
        by_cases e3 : e = i
        · subst e3; exact absurd rfl e2
        · by_cases e4 : e < i
          · rw [if_pos e4] at h1; rw [if_pos (by omega)]; exact h1
          · rw [if_neg e4] at h1; rw [if_neg (by omega)]; exact h1
  · have h1 := g.least F hF h0 v hv
    have h2 := g.least F hF h0 (sF (aAt all i)) o1
    have h3 := hF i hi
    split
    · rename_i e; rw [e]; omega
    · exact h1
  · have := g.hB v hv
    split <;> omega

/-- a circle of events that have all grown -/
theorem circle (hok : ∀ e, e < all.length → okS n (aAt all e)) (hp : Prd n all T B U S) {v : Nat} (hv : v < n) (hU : ∀ k, k ≤ n → itp all B k v < n → 0 < U (itp all B k v)) :
    (∀ k, itp all B k v < n ∧ 0 < U (itp all B k v)) ∧ ∃ c, 1 ≤ c ∧ c ≤ n ∧ itp all B (n + c) v = itp all B n v := by
  have h1 : ∀ k, k ≤ n → itp all B k v < n ∧ 0 < U (itp all B k v) := fun k => by
    induction k with
    | zero => intro _; exact ⟨hv, hU 0 (Nat.zero_le _) hv⟩
    | succ k ih =>
      intro hk
      obtain ⟨i1, i2⟩ := ih (by omega)
      have := (okS_nat (hok _ (hp _ i1 i2).1)).1
      exact ⟨this, hU (k + 1) hk this⟩
  obtain ⟨i, j, hij, hj, e⟩ := pigeon n (fun k => itp all B k v) (fun k hk => (h1 k hk).1)
  have hper : ∀ k, itp all B (j + k) v = itp all B (i + k) v := fun k => by
    induction k with
    | zero => exact e.symm
    | succ k ih => rw [← Nat.add_assoc, ← Nat.add_assoc, itp, itp, ih]
  have h2 : ∀ k, itp all B k v < n ∧ 0 < U (itp all B k v) := fun k => by
    induction k using Nat.strongRecOn with
    | ind k ih =>
      by_cases hk : k ≤ n
      · exact h1 k hk
      · have h3 := hper (k - j)
        rw [show j + (k - j) = k by omega] at h3
        rw [h3]
        exact ih _ (by omega)
  refine ⟨h2, j - i, by omega, by omega, ?_⟩
  have h3 := hper (n - i)
  rw [show j + (n - i) = n + (j - i) by omega, show i + (n - i) = n by omega] at h3
  exact h3
theorem circle_pos (hok : ∀ e, e < all.length → okS n (aAt all e)) (hp : Prd n all T B U S) {v : Nat} (hall : ∀ k, itp all B k v < n ∧ 0 < U (itp all B k v)) {k : Nat} (hk : 1 ≤ k) (hc : itp all B k v = v) : 0 < cySum all B v k := by
  have hstep : ∀ j, B (itp all B j v) < all.length ∧ T (itp all B j v) ≤ T (itp all B (j + 1) v) + sG (aAt all (B (itp all B j v))) ∧ (S (itp all B j v) ≤ S (itp all B (j + 1) v) → T (itp all B j v) < T (itp all B (j + 1) v) + sG (aAt all (B (itp all B j v)))) := fun j => by
    obtain ⟨p1, p2, p3, p4, p5⟩ := hp _ (hall j).1 (hall j).2
    exact ⟨p1, p3, p4⟩
  have hsum : ∀ j, T v ≤ T (itp all B j v) + cySum all B v j ∧ (¬ (T v < T (itp all B j v) + cySum all B v j) → S (itp all B j v) + j ≤ S v) := fun j => by
    induction j with
    | zero => simp [cySum, sumN, itp]
    | succ j ih =>
      obtain ⟨i1, i2⟩ := ih
      obtain ⟨_, s1, s2⟩ := hstep j
      have e : cySum all B v (j + 1) = cySum all B v j + sG (aAt all (B (itp all B j v))) := rfl
      rw [e]
      refine ⟨by omega, fun hn => ?_⟩
      have h3 := i2 (by omega)
      have h4 : ¬ S (itp all B j v) ≤ S (itp all B (j + 1) v) := fun h5 => by have := s2 h5; omega
      omega
  have h := hsum k
  rw [hc] at h
  by_cases hn : T v < T v + cySum all B v k
  · omega
  · have := h.2 hn
    omega
theorem circle_feas {F : Nat → Int} (hF : Feas all F) {v : Nat} (hb : ∀ k, B (itp all B k v) < all.length ∧ sT (aAt all (B (itp all B k v))) = itp all B k v) {k : Nat} (hc : itp all B k v = v) : cySum all B v k ≤ 0 := by
  have hsum : ∀ j, F (itp all B j v) + cySum all B v j ≤ F v := fun j => by
    induction j with
    | zero => simp [cySum, sumN, itp]
    | succ j ih =>
      obtain ⟨b1, b2⟩ := hb j
      have h1 := hF _ b1
      rw [b2] at h1
      have e : cySum all B v (j + 1) = cySum all B v j + sG (aAt all (B (itp all B j v))) := rfl
      have e2 : itp all B (j + 1) v = sF (aAt all (B (itp all B j v))) := rfl
      rw [e, e2]; omega
  have := hsum k
  rw [hc] at this
  omega

/-- what an event that grew too often shows -/
def BadAt (n : Nat) (all : List St) (B : Nat → Nat) (v : Nat) : Prop :=
  (∀ k, itp all B k v < n ∧ B (itp all B k v) < all.length ∧ sT (aAt all (B (itp all B k v))) = itp all B k v) ∧ (∃ c, 1 ≤ c ∧ c ≤ n ∧ itp all B (n + c) v = itp all B n v) ∧ ∀ m k, 1 ≤ k → itp all B k (itp all B m v) = itp all B m v → 0 < cySum all B (itp all B m v) k
theorem bad_of (hok : ∀ e, e < all.length → okS n (aAt all e)) (hp : Prd n all T B U S) {v : Nat} (hv : v < n) (hU : ∀ k, k ≤ n → itp all B k v < n → 0 < U (itp all B k v)) : BadAt n all B v := by
  obtain ⟨h1, h2⟩ := circle hok hp hv hU
  refine ⟨fun k => ⟨(h1 k).1, (hp _ (h1 k).1 (h1 k).2).1, (hp _ (h1 k).1 (h1 k).2).2.1⟩, h2, fun m k hk hc => circle_pos hok hp (fun j => ?_) hk hc⟩
  rw [← itp_add]; exact h1 _
theorem bad_feas {v : Nat} (h : BadAt n all B v) {F : Nat → Int} (hF : Feas all F) : False := by
  obtain ⟨h1, ⟨c, hc1, hc2, hc⟩, h3⟩ := h
  rw [itp_add] at hc
  have h4 := h3 n c hc1 hc
  have h5 := circle_feas (B := B) (v := itp all B n v) hF (fun k => by rw [← itp_add]; exact (h1 _).2) hc
  omega
theorem Gs.often (hok : ∀ e, e < all.length → okS n (aAt all e)) (g : Gs n all n i T B calm U S C) {v : Nat} (hv : v < n) (hU : U v = n + 1) : BadAt n all B v := by
  refine bad_of hok g.prd hv ?_
  have : ∀ k, k ≤ n → itp all B k v < n ∧ n + 1 ≤ U (itp all B k v) + k := fun k => by
    induction k with
    | zero => intro _; exact ⟨hv, by rw [itp]; omega⟩
    | succ k ih =>
      intro hk
      obtain ⟨i1, i2⟩ := ih (by omega)
      obtain ⟨p1, p2, p3, p4, p5⟩ := g.prd _ i1 (by omega)
      exact ⟨(okS_nat (hok _ p1)).1, by rw [itp]; omega⟩
  intro k hk _
  have := (this k hk).2
  omega
/-- the least times that keep all steps -/
def Least (n : Nat) (all : List St) (T : Nat → Int) : Prop := Feas all T ∧ T 0 = 0 ∧ (∀ v, v < n → 0 ≤ T v) ∧ ∀ F, Feas all F → (∀ v, v < n → 0 ≤ F v) → ∀ v, v < n → T v ≤ F v
theorem Gs.fin (hn : 0 < n) (hok : ∀ e, e < all.length → okS n (aAt all e)) (h0 : ∀ v, 0 < v → v < n → ∃ e, e < all.length ∧ aAt all e = (0, (v : Int), 0)) (g : Gs n all r all.length T B true U S C) : Least n all T := by
  have hF : Feas all T := fun e he => g.calmq rfl e he he
  refine ⟨hF, ?_, g.pos, g.least⟩
  have hp := g.pos 0 hn
  by_cases hz : T 0 = 0
  · exact hz
  · exfalso
    have hall : ∀ v, v < n → 0 < U v := fun v hv => by
      rcases Nat.eq_zero_or_pos (U v) with h | h
      · have h1 := g.zero v hv h
        by_cases e : v = 0
        · subst e; exact absurd h1 hz
        · obtain ⟨e, he, ha⟩ := h0 v (by omega) hv
          have h2 := hF e he
          rw [ha] at h2
          simp only [sF, sT, sG, Int.toNat_natCast, Int.toNat_zero] at h2
          omega
      · exact h
    have hb := bad_of hok g.prd (v := 0) hn (fun k _ hk => hall _ hk)
    exact bad_feas hb hF
end
end Go.Proofs.Ythmnkmomgaamlaa
