/- Plain law of layer 15: lags, their steps, what it means to keep them, and circles that refute them. -/
import Derived.Test.YthmnkmomgaamlaaG1
import Derived.Test.YthmnkmomgaamlaaApp
namespace Go.Proofs.Ythmnkmomgaamlaa
set_option linter.unusedVariables false

/-- from, to, least, most -/
abbrev Lg := Int × Int × Int × Int
def okL (n : Int) (x : Lg) : Bool := decide ((0 ≤ x.1 ∧ x.1 < n) ∧ (0 ≤ x.2.1 ∧ x.2.1 < n) ∧ x.1 ≠ x.2.1 ∧ (0 ≤ x.2.2.1 ∧ x.2.2.1 ≤ 1048576) ∧ x.2.2.2 ≤ 1048576 ∧ (x.2.2.2 = -1 ∨ x.2.2.1 ≤ x.2.2.2))
def szL (n : Int) (l : List Lg) : Bool := decide ((1 ≤ n ∧ n ≤ 200) ∧ l.length ≤ 2000)
def rightL (n : Int) (l : List Lg) : Bool := szL n l && l.all (okL n)
theorem rightL_iff {n : Int} {l : List Lg} (h : rightL n l = true) : (1 ≤ n ∧ n ≤ 200) ∧ l.length ≤ 2000 ∧ ∀ (k : Nat) (x : Lg), l[k]? = some x → okL n x = true := by
  rw [rightL, Bool.and_eq_true, szL, decide_eq_true_eq, List.all_eq_true] at h
  exact ⟨h.1.1, h.1.2, fun k x hx => h.2 x (List.mem_of_getElem? hx)⟩
/-- the steps of a lag -/
def stL (x : Lg) : List St := (x.1, x.2.1, x.2.2.1) :: (if x.2.2.2 = -1 then [] else [(x.2.1, x.1, -x.2.2.2)])
def zs (n : Nat) : List St := ofF (n - 1) (fun i => (0, ((i + 1 : Nat) : Int), 0))
def stepsF (n : Nat) (l : List Lg) : List St := l.flatMap stL ++ zs n
theorem okL_iff {n : Int} {x : Lg} (h : okL n x = true) : (0 ≤ x.1 ∧ x.1 < n) ∧ (0 ≤ x.2.1 ∧ x.2.1 < n) ∧ x.1 ≠ x.2.1 ∧ (0 ≤ x.2.2.1 ∧ x.2.2.1 ≤ 1048576) ∧ x.2.2.2 ≤ 1048576 ∧ (x.2.2.2 = -1 ∨ x.2.2.1 ≤ x.2.2.2) := by
  rw [okL, decide_eq_true_eq] at h; exact h
theorem stL_ok {n : Nat} {x : Lg} (h : okL n x = true) {s : St} (hs : s ∈ stL x) : okS n s := by
  obtain ⟨h1, h2, h3, h4, h5, h6⟩ := okL_iff h
  unfold stL at hs
  rcases List.mem_cons.1 hs with rfl | hs
  · exact ⟨h1, h2, h3, by show -1048576 ≤ x.2.2.1; omega, h4.2⟩
  · by_cases e : x.2.2.2 = -1
    · rw [if_pos e] at hs; cases hs
    · rw [if_neg e, List.mem_singleton] at hs
      subst hs
      exact ⟨h2, h1, (fun e => h3 e.symm), by show -1048576 ≤ -x.2.2.2; omega, by show -x.2.2.2 ≤ 1048576; omega⟩
theorem stL_len (x : Lg) : (stL x).length ≤ 2 := by
  unfold stL; split <;> simp
theorem flat_len (l : List Lg) : (l.flatMap stL).length ≤ 2 * l.length := by
  induction l with
  | nil => simp
  | cons x l ih =>
    rw [List.flatMap_cons, List.length_append, List.length_cons]
    have := stL_len x
    omega
theorem steps_len {n : Nat} {l : List Lg} : (stepsF n l).length ≤ 2 * l.length + (n - 1) := by
  unfold stepsF zs
  rw [List.length_append, ofF_len]
  have := flat_len l
  omega
theorem steps_mem {n : Nat} {l : List Lg} {s : St} : s ∈ stepsF n l ↔ (∃ x ∈ l, s ∈ stL x) ∨ ∃ i, 0 < i ∧ i < n ∧ s = (0, (i : Int), 0) := by
  unfold stepsF zs
  rw [List.mem_append, List.mem_flatMap]
  refine or_congr Iff.rfl ⟨fun h => ?_, fun ⟨i, h1, h2, e⟩ => ?_⟩
  · obtain ⟨i, hi, rfl⟩ := ofF_mem h
    exact ⟨i + 1, by omega, by omega, rfl⟩
  · subst e
    refine List.mem_map.2 ⟨i - 1, List.mem_range.2 (by omega), ?_⟩
    rw [show i - 1 + 1 = i by omega]
theorem steps_ok {n : Nat} {l : List Lg} (h : rightL n l = true) {s : St} (hs : s ∈ stepsF n l) : okS n s := by
  obtain ⟨h1, h2, h3⟩ := rightL_iff h
  rcases steps_mem.1 hs with ⟨x, hx, hs⟩ | ⟨i, hi, hin, rfl⟩
  · obtain ⟨k, hk⟩ := List.mem_iff_getElem?.1 hx
    exact stL_ok (h3 k x hk) hs
  · exact ⟨by show (0 : Int) ≤ 0 ∧ (0 : Int) < n; omega, by show (0 : Int) ≤ i ∧ (i : Int) < n; omega, by show (0 : Int) ≠ i; omega, by show (-1048576 : Int) ≤ 0; omega, by show (0 : Int) ≤ 1048576; omega⟩
theorem steps_okA {n : Nat} {l : List Lg} (h : rightL n l = true) : ∀ e, e < (stepsF n l).length → okS n (aAt (stepsF n l) e) := fun e he => steps_ok h (aAt_mem he)
theorem steps_zero {n : Nat} {l : List Lg} : ∀ v, 0 < v → v < n → ∃ e, e < (stepsF n l).length ∧ aAt (stepsF n l) e = (0, (v : Int), 0) := fun v h1 h2 => by
  have hm : ((0, (v : Int), 0) : St) ∈ stepsF n l := steps_mem.2 (Or.inr ⟨v, h1, h2, rfl⟩)
  obtain ⟨k, hk⟩ := List.mem_iff_getElem?.1 hm
  exact ⟨k, (List.getElem?_eq_some_iff.1 hk).1, aAt_eq hk⟩
theorem feas_mem {all : List St} {F : Nat → Int} : Feas all F ↔ ∀ s ∈ all, F (sF s) + sG s ≤ F (sT s) := by
  refine ⟨fun h s hs => ?_, fun h e he => h _ (aAt_mem he)⟩
  obtain ⟨k, hk⟩ := List.mem_iff_getElem?.1 hs
  have := h k (List.getElem?_eq_some_iff.1 hk).1
  rw [aAt_eq hk] at this
  exact this

/-- a time of a list -/
def ti (ts : List Int) (k : Nat) : Int := ts.getD k 0
theorem ti_eq {ts : List Int} {k : Nat} {x : Int} (h : ts[k]? = some x) : ti ts k = x := by simp [ti, List.getD, h]
theorem ti_ofF {n : Nat} {F : Nat → Int} {k : Nat} (h : k < n) : ti (ofF n F) k = F k := ti_eq (ofF_get h)
/-- one lag is kept -/
def chk (ts : List Int) (x : Lg) : Bool := decide (x.2.2.1 ≤ ti ts x.2.1.toNat - ti ts x.1.toNat ∧ (x.2.2.2 = -1 ∨ ti ts x.2.1.toNat - ti ts x.1.toNat ≤ x.2.2.2))
def checkF (n : Int) (l : List Lg) (ts : List Int) : Bool := rightL n l && (decide ((ts.length : Int) = n ∧ ti ts 0 = 0) && (ts.all (fun t => decide (0 ≤ t)) && l.all (chk ts)))
theorem feas_pos {n : Nat} {l : List Lg} {F : Nat → Int} (h : Feas (stepsF n l) F) (h0 : F 0 = 0) : ∀ v, v < n → 0 ≤ F v := fun v hv => by
  by_cases e : v = 0
  · subst e; omega
  · obtain ⟨e, he, ha⟩ := steps_zero (l := l) v (by omega) hv
    have h2 := h e he
    rw [ha] at h2
    simp only [sF, sT, sG, Int.toNat_natCast, Int.toNat_zero] at h2
    omega
theorem chk_feas {ts : List Int} {x : Lg} : chk ts x = true ↔ ∀ s ∈ stL x, ti ts (sF s) + sG s ≤ ti ts (sT s) := by
  unfold chk stL
  rw [decide_eq_true_eq]
  by_cases e : x.2.2.2 = -1
  · rw [if_pos e]
    simp only [List.mem_singleton, forall_eq, sF, sT, sG]
    omega
  · rw [if_neg e]
    simp only [List.mem_cons, List.not_mem_nil, or_false, forall_eq_or_imp, forall_eq, sF, sT, sG]
    omega
/-- what Check says -/
theorem check_iff {n : Nat} {l : List Lg} {ts : List Int} (hr : rightL n l = true) : checkF n l ts = true ↔ ts.length = n ∧ ti ts 0 = 0 ∧ Feas (stepsF n l) (ti ts) := by
  obtain ⟨hn, _, _⟩ := rightL_iff hr
  unfold checkF
  rw [hr, Bool.true_and, Bool.and_eq_true, Bool.and_eq_true, decide_eq_true_eq, List.all_eq_true, List.all_eq_true]
  refine ⟨fun ⟨⟨h1, h2⟩, h3, h4⟩ => ⟨by omega, h2, ?_⟩, fun ⟨h1, h2, h3⟩ => ⟨⟨by omega, h2⟩, fun t ht => ?_, fun x hx => ?_⟩⟩
  · rw [feas_mem]
    intro s hs
    rcases steps_mem.1 hs with ⟨x, hx, hs⟩ | ⟨i, hi, hin, rfl⟩
    · exact chk_feas.1 (h4 x hx) s hs
    · have h5 : i < ts.length := by omega
      have h6 := h3 _ (List.getElem_mem h5)
      have h7 : ti ts i = ts[i] := ti_eq (List.getElem?_eq_getElem h5)
      rw [decide_eq_true_eq] at h6
      simp only [sF, sT, sG, Int.toNat_natCast, Int.toNat_zero]
      omega
  · obtain ⟨k, hk, rfl⟩ := List.mem_iff_getElem.1 ht
    have h7 : ti ts k = ts[k] := ti_eq (List.getElem?_eq_getElem hk)
    have h8 := feas_pos h3 h2 k (by omega)
    rw [decide_eq_true_eq]; omega
  · rw [chk_feas]
    intro s hs
    exact feas_mem.1 h3 s (steps_mem.2 (Or.inl ⟨x, hx, hs⟩))
theorem check_right {n : Int} {l : List Lg} {ts : List Int} (h : checkF n l ts = true) : rightL n l = true := by
  unfold checkF at h
  rw [Bool.and_eq_true] at h
  exact h.1

/-- the step before one of a circle -/
def prevI (m j : Nat) : Nat := if j = 0 then m - 1 else j - 1
def lnk (all C : List St) (j : Nat) : Bool := decide ((aAt C j).1 = (aAt C (prevI C.length j)).2.1) && all.contains (aAt C j)
def refF (n : Int) (l : List Lg) (C : List St) : Bool := rightL n l && (decide (1 ≤ C.length ∧ (C.length : Int) ≤ n) && ((List.range C.length).all (lnk (stepsF n.toNat l) C) && decide (0 < sumN (fun j => (aAt C j).2.2) C.length)))
theorem sumN_congr {f g : Nat → Int} : ∀ n, (∀ i, i < n → f i = g i) → sumN f n = sumN g n
  | 0, _ => rfl
  | n + 1, h => by rw [sumN, sumN, sumN_congr n (fun i hi => h i (by omega)), h n (by omega)]
theorem sumN_front (f : Nat → Int) : ∀ n, sumN f (n + 1) = f 0 + sumN (fun i => f (i + 1)) n
  | 0 => by simp [sumN]
  | n + 1 => by rw [sumN, sumN_front f n, sumN]; omega
theorem sumN_rev (f : Nat → Int) : ∀ n, sumN (fun i => f (n - 1 - i)) n = sumN f n
  | 0 => rfl
  | n + 1 => by
    rw [sumN_front, show n + 1 - 1 - 0 = n by omega, sumN, sumN_congr n (g := fun i => f (n - 1 - i)) (fun i hi => by congr 1; omega), sumN_rev f n]
    omega
theorem sumN_bd {f : Nat → Int} {M : Int} : ∀ n : Nat, (∀ i, i < n → -M ≤ f i ∧ f i ≤ M) → -((n : Int) * M) ≤ sumN f n ∧ sumN f n ≤ (n : Int) * M
  | 0, _ => by simp [sumN]
  | n + 1, h => by
    have h1 := sumN_bd n (fun i hi => h i (by omega))
    have h2 := h n (by omega)
    rw [sumN, Int.natCast_succ, Int.add_mul, Int.one_mul]
    omega
/-- a refuted circle leaves no times -/
theorem ref_feas {n : Nat} {l : List Lg} {C : List St} (h : refF n l C = true) {F : Nat → Int} (hF : Feas (stepsF n l) F) : False := by
  unfold refF at h
  rw [Bool.and_eq_true, Bool.and_eq_true, Bool.and_eq_true, decide_eq_true_eq, decide_eq_true_eq, List.all_eq_true, Int.toNat_natCast] at h
  obtain ⟨hr, ⟨h1, h2⟩, h3, h4⟩ := h
  have hl : ∀ j, j < C.length → (aAt C j).1 = (aAt C (prevI C.length j)).2.1 ∧ aAt C j ∈ stepsF n l := fun j hj => by
    have := h3 j (List.mem_range.2 hj)
    unfold lnk at this
    rw [Bool.and_eq_true, decide_eq_true_eq, List.contains_iff_mem] at this
    exact this
  have hk : ∀ k, k < C.length → F (sF (aAt C 0)) + sumN (fun j => (aAt C j).2.2) (k + 1) ≤ F (sT (aAt C k)) := fun k => by
    induction k with
    | zero =>
      intro h0
      have := feas_mem.1 hF _ (hl 0 h0).2
      simp only [sumN]
      unfold sG at this
      omega
    | succ k ih =>
      intro hk
      have i1 := ih (by omega)
      obtain ⟨e, hm⟩ := hl (k + 1) hk
      have h5 := feas_mem.1 hF _ hm
      have e2 : sF (aAt C (k + 1)) = sT (aAt C k) := by
        unfold sF sT
        rw [e]; unfold prevI; rw [if_neg (by omega)]; rfl
      rw [e2] at h5
      rw [sumN]
      unfold sG at h5
      omega
  have h5 := hk (C.length - 1) (by omega)
  rw [show C.length - 1 + 1 = C.length by omega] at h5
  have h6 := (hl 0 (by omega)).1
  have h7 : sF (aAt C 0) = sT (aAt C (C.length - 1)) := by
    unfold sF sT
    rw [h6]; unfold prevI; rw [if_pos rfl]
  rw [h7] at h5
  omega
/-- the circle of steps that is found -/
def circ (all : List St) (B : Nat → Nat) (v k : Nat) : List St := ofF k (fun j => aAt all (B (itp all B j v)))
theorem circ_ref {n : Nat} {l : List Lg} (hr : rightL n l = true) {B : Nat → Nat} {v : Nat} (hb : BadAt n (stepsF n l) B v) {k : Nat} (hk : 1 ≤ k) (hkn : k ≤ n) (hc : itp (stepsF n l) B k (itp (stepsF n l) B n v) = itp (stepsF n l) B n v) :
    refF n l (circ (stepsF n l) B (itp (stepsF n l) B n v) k).reverse = true := by
  obtain ⟨h1, -, h3⟩ := hb
  have hpos := h3 n k hk hc
  have hall : ∀ j, itp (stepsF n l) B j (itp (stepsF n l) B n v) < n ∧ B (itp (stepsF n l) B j (itp (stepsF n l) B n v)) < (stepsF n l).length ∧ sT (aAt (stepsF n l) (B (itp (stepsF n l) B j (itp (stepsF n l) B n v)))) = itp (stepsF n l) B j (itp (stepsF n l) B n v) := fun j => by
    rw [← itp_add]; exact h1 _
  generalize itp (stepsF n l) B n v = a at *
  have hlen : (circ (stepsF n l) B a k).reverse.length = k := by rw [List.length_reverse]; exact ofF_len
  have hget : ∀ j, j < k → aAt (circ (stepsF n l) B a k).reverse j = aAt (stepsF n l) (B (itp (stepsF n l) B (k - 1 - j) a)) := fun j hj => by
    refine aAt_eq ?_
    rw [List.getElem?_reverse (by rw [circ, ofF_len]; exact hj), circ, ofF_len, ofF_get (by omega)]
  unfold refF
  rw [Bool.and_eq_true, Bool.and_eq_true, Bool.and_eq_true, decide_eq_true_eq, decide_eq_true_eq, List.all_eq_true, Int.toNat_natCast, hlen]
  refine ⟨hr, ⟨hk, by omega⟩, fun j hj => ?_, ?_⟩
  · have hj := List.mem_range.1 hj
    unfold lnk
    rw [Bool.and_eq_true, decide_eq_true_eq, List.contains_iff_mem, hlen, hget j hj, hget (prevI k j) (by unfold prevI; split <;> omega)]
    refine ⟨?_, aAt_mem (hall _).2.1⟩
    have e : itp (stepsF n l) B (k - 1 - prevI k j) a = pv (stepsF n l) B (itp (stepsF n l) B (k - 1 - j) a) := by
      unfold prevI
      by_cases e : j = 0
      · subst e
        rw [if_pos rfl, show k - 1 - (k - 1) = 0 by omega, show k - 1 - 0 = k - 1 by omega]
        have : itp (stepsF n l) B (k - 1 + 1) a = a := by rw [show k - 1 + 1 = k by omega]; exact hc
        exact this.symm
      · rw [if_neg e, show k - 1 - (j - 1) = k - 1 - j + 1 by omega]; rfl
    have o1 := okS_nat (steps_okA hr _ (hall (k - 1 - j)).2.1)
    have o2 := okS_nat (steps_okA hr _ (hall (k - 1 - prevI k j)).2.1)
    have h4 := (hall (k - 1 - prevI k j)).2.2
    rw [o1.2.2.2.2.2.1, o2.2.2.2.2.2.2, h4, e]
    rfl
  · rw [sumN_congr k (g := fun i => (fun j => sG (aAt (stepsF n l) (B (itp (stepsF n l) B j a)))) (k - 1 - i)) (fun i hi => by rw [hget i hi]; rfl), sumN_rev (fun j => sG (aAt (stepsF n l) (B (itp (stepsF n l) B j a)))) k]
    exact hpos
end Go.Proofs.Ythmnkmomgaamlaa
