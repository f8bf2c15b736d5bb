/- Plain law: rows replaced, scaled, added, exchanged: what becomes of the solution and of the rank. Conditions stand in each theorem. -/
import Derived.Test.YtdlcglndhhndpaaMo
namespace Go.Proofs.Ytdlcglndhhndpaa
open Go.RowKit
set_option linter.unusedVariables false
set_option linter.unusedSimpArgs false

/-- the numbers of a row -/
def rwM (r : Rv) : Nat → Rat := fun k => (((rowL r)[k]?).map Fv.rat).getD 0
theorem mxR_row {l : List Rv} {i : Nat} {x : Rv} (h : l[i]? = some x) : mxR l i = rwM x := by
  funext k
  unfold mxR rwM
  rw [h, Option.bind_some]
theorem rwM_el {n : Nat} {x : Rv} {k : Nat} {y : Fv} (hn : x.a.length = n) (hy : x.a[k]? = some y) : rwM x k = y.rat := by
  unfold rwM rowL
  rw [List.getElem?_append_left (List.getElem?_eq_some_iff.1 hy).1, hy]
  rfl
theorem rwM_val {n : Nat} {x : Rv} (hn : x.a.length = n) : rwM x n = x.b.rat := by
  unfold rwM rowL
  rw [List.getElem?_append_right (by omega), hn, Nat.sub_self]
  rfl
theorem rightL_of {n : Nat} {l : List Rv} (h40 : n ≤ 40) (hn : l.length = n) (h : ∀ (i : Nat) x, l[i]? = some x → rowF (n : Int) x = true) : rightL (n : Int) l = true := by
  unfold rightL
  rw [decide_eq_true (by omega), Bool.true_and, List.all_eq_true]
  intro x hx
  obtain ⟨i, hi, rfl⟩ := List.mem_iff_getElem.1 hx
  exact h i _ (List.getElem?_eq_getElem hi)
theorem rightL_row {n : Nat} {l : List Rv} (h : rightL (n : Int) l = true) {i : Nat} {x : Rv} (hx : l[i]? = some x) : rowF (n : Int) x = true := by
  unfold rightL at h
  rw [Bool.and_eq_true, List.all_eq_true] at h
  exact h.2 x (List.mem_of_getElem? hx)
theorem rowF_of {n : Nat} {x : Rv} (h1 : x.a.length = n) (h2 : x.b.ok = true) (h3 : ∀ y ∈ x.a, y.ok = true) : rowF (n : Int) x = true := by
  unfold rowF
  rw [h2, decide_eq_true (by omega), List.all_eq_true.2 h3]
  rfl
/-- what Solve says of a matrix -/
def SolveIs (n : Nat) (m : Mx) (r : List Fv × Int) : Prop :=
  r = ([], 6) ∨ (TrivN n m ∧ ∃ s : Nat → Rat, r = (ofF n fun i => fvQ (s i), 0) ∧ ∀ x, solM n m x ↔ ∀ i, i < n → x i = s i) ∨ (¬ TrivN n m ∧ r = ([], 16))
theorem solve_says {n : Nat} {l : List Rv} (hr : rightL (n : Int) l = true) (hn : l.length = n) : SolveIs n (mxR l) (solL (n : Int) l) := by
  unfold solL
  rw [if_pos hr, hn]
  cases he : elimF n true n (mxR l) [] with
  | none => exact Or.inl rfl
  | some p =>
    obtain ⟨m', free⟩ := p
    have ht := elim_triv he
    rcases elim_fact he with ⟨rfl, h1, h2⟩ | ⟨c, rfl, hc, h1, h2⟩
    · exact Or.inr (Or.inl ⟨h2, fun i => m' i n, rfl, h1⟩)
    · refine Or.inr (Or.inr ⟨fun h => ?_, rfl⟩)
      have := ht.2 h
      cases this
theorem solve_small {n : Nat} {l : List Rv} (hr : rightL (n : Int) l = true) (hn : l.length = n) (hn3 : n ≤ 3) (hs : SmallM n (mxR l)) : (solL (n : Int) l).2 ≠ 6 := by
  obtain ⟨m', free, he⟩ := small_elim hn3 hs true
  unfold solL
  rw [if_pos hr, hn, he]
  cases free with
  | nil => show (0 : Int) ≠ 6; decide
  | cons c t => show (16 : Int) ≠ 6; decide
theorem SolveIs.same {n : Nat} {m m' : Mx} {r r' : List Fv × Int} (h : SolveIs n m r) (h' : SolveIs n m' r') (hs : ∀ x, solM n m x ↔ solM n m' x) (hn : ∀ x, nulM n m x ↔ nulM n m' x) (h6 : r.2 ≠ 6) (h6' : r'.2 ≠ 6) : r = r' := by
  have hT : TrivN n m ↔ TrivN n m' := ⟨fun h x hx => h x ((hn x).2 hx), fun h x hx => h x ((hn x).1 hx)⟩
  rcases h with rfl | ⟨h1, s, rfl, h2⟩ | ⟨h1, rfl⟩
  · exact absurd rfl h6
  · rcases h' with rfl | ⟨g1, t, rfl, g2⟩ | ⟨g1, rfl⟩
    · exact absurd rfl h6'
    · have := (g2 s).1 ((hs s).1 ((h2 s).2 fun _ _ => rfl))
      rw [ofF_congr (g := fun i => fvQ (t i)) (fun i hi => by rw [this i hi])]
    · exact absurd (hT.1 h1) g1
  · rcases h' with rfl | ⟨g1, t, rfl, g2⟩ | ⟨g1, rfl⟩
    · exact absurd rfl h6'
    · exact absurd (hT.2 g1) h1
    · rfl
/-- .. and Rank -/
theorem rank_says {n : Nat} {l : List Rv} (hr : rightL (n : Int) l = true) (hn : l.length = n) (hn3 : n ≤ 3) (hs : SmallM n (mxR l)) :
    ∃ m1 free, elimF n false n (mxR l) [] = some (m1, free) ∧ rankL (n : Int) l = ((n : Int) - (free.length : Int), 0) ∧ free.length ≤ n ∧ (free.length = 0 ↔ TrivN n (mxR l)) := by
  obtain ⟨m1, free, he⟩ := small_elim hn3 hs false
  obtain ⟨h1, h2⟩ := rank_triv he
  refine ⟨m1, free, he, ?_, h1, h2⟩
  unfold rankL
  rw [if_pos hr, hn, he]
  rfl
/-- rows of which one is replaced -/
theorem put_mx {n a : Nat} {l l' : List Rv} {r : Rv} (hl : ∀ i, i < n → ∃ x, l[i]? = some x) (h : ∀ i, i < n → l'[i]? = if i = a then some r else l[i]?) : ∀ i, i < n → mxR l' i = if i = a then rwM r else mxR l i := fun i hi => by
  have h1 := h i hi
  by_cases e : i = a
  · rw [if_pos e] at h1 ⊢
    exact mxR_row h1
  · rw [if_neg e] at h1 ⊢
    obtain ⟨x, hx⟩ := hl i hi
    rw [mxR_row hx]
    exact mxR_row (h1.trans hx)
theorem put_right {n a : Nat} {l l' : List Rv} {r : Rv} (hr : rightL (n : Int) l = true) (hn' : l'.length = n) (hrow : rowF (n : Int) r = true) (h : ∀ i, i < n → l'[i]? = if i = a then some r else l[i]?) : rightL (n : Int) l' = true :=
  by
    have h40 := rightL_len hr
    refine rightL_of (by omega) hn' fun i x hx => ?_
    have hi : i < n := by
      have := (List.getElem?_eq_some_iff.1 hx).1
      omega
    have h1 := h i hi
    rw [hx] at h1
    by_cases e : i = a
    · rw [if_pos e] at h1
      rw [Option.some.inj h1]
      exact hrow
    · rw [if_neg e] at h1
      exact rightL_row hr h1.symm
theorem put_small {n a : Nat} {l l' : List Rv} {r : Rv} (hs : SmallM n (mxR l)) (hrow : ∀ k, k < n + 1 → Pt 1 (rwM r k)) (h : ∀ i, i < n → mxR l' i = if i = a then rwM r else mxR l i) : SmallM n (mxR l') := fun i k hi hk => by
  rw [h i hi]
  by_cases e : i = a
  · rw [if_pos e]; exact hrow k hk
  · rw [if_neg e]; exact hs i k hi hk
/-- the rank of rows, of rows with the values 0, with a row that is another one, and with a row that is 0 -/
theorem rank_all {n a b : Nat} {l lt lu : List Rv} {ru : Rv} (hn3 : n ≤ 3) (hr : rightL (n : Int) l = true) (hn : l.length = n) (hs : SmallM n (mxR l)) (ha : a < n) (hb : b < n)
    (hrt : rightL (n : Int) lt = true) (hnt : lt.length = n) (hst : SmallM n (mxR lt)) (ht : ∀ i, i < n → mxR lt i = if i = a then mxR l b else mxR l i)
    (hru : rightL (n : Int) lu = true) (hnu : lu.length = n) (hsu : SmallM n (mxR lu)) (hu : ∀ i, i < n → mxR lu i = if i = a then rwM ru else mxR l i) (hz : ∀ k, k < n → rwM ru k = 0) :
    ∃ f f1 f2 : Nat, rankL (n : Int) l = ((n : Int) - (f : Int), 0) ∧ rankL (n : Int) lt = ((n : Int) - (f1 : Int), 0) ∧ rankL (n : Int) lu = ((n : Int) - (f2 : Int), 0) ∧ f ≤ n ∧ f1 ≤ n ∧ f2 ≤ n ∧ f ≤ f1 ∧ f ≤ f2 ∧ f2 ≤ f + 1 ∧ 1 ≤ f2 ∧ (a = b ∨ 1 ≤ f1) := by
  obtain ⟨m1, fr, h1, h2, h3, -⟩ := rank_says hr hn hn3 hs
  obtain ⟨m2, fr2, g1, g2, g3, -⟩ := rank_says hrt hnt hn3 hst
  obtain ⟨m3, fr3, k1, k2, k3, -⟩ := rank_says hru hnu hn3 hsu
  refine ⟨fr.length, fr2.length, fr3.length, h2, g2, k2, h3, g3, k3, ?_, ?_, ?_, ?_, ?_⟩
  · refine rank_mono h1 g1 fun x hx i hi => ?_
    rw [ht i hi]
    split
    · exact hx b hb
    · exact hx i hi
  · refine rank_mono h1 k1 fun x hx i hi => ?_
    rw [hu i hi]
    split
    · exact smQ_nil fun k hk => by rw [hz k hk]; grind
    · exact hx i hi
  · refine rank_less k1 h1 (mxR l a) fun x hx h0 i hi => ?_
    by_cases e : i = a
    · rw [e]; exact h0
    · have := hx i hi
      rw [hu i hi, if_neg e] at this
      exact this
  · refine rank_left k1 ⟨fun i => if i = a then 1 else 0, ⟨a, ha, by simp⟩, fun k hk => ?_⟩ (by omega)
    refine smQ_nil fun i hi => ?_
    show (if i = a then (1 : Rat) else 0) * mxR lu i k = 0
    by_cases e : i = a
    · rw [hu i hi, if_pos e, if_pos e, hz k hk]; grind
    · rw [if_neg e]; grind
  · by_cases e : a = b
    · exact Or.inl e
    · refine Or.inr (rank_left g1 ⟨fun i => if i = a then 1 else if i = b then -1 else 0, ⟨a, ha, by simp⟩, fun k hk => ?_⟩ (by omega))
      show smQ (fun i => (if i = a then (1 : Rat) else if i = b then -1 else 0) * mxR lt i k) n = 0
      rw [smQ_two ha hb e (fun i hi h1 h2 => by rw [if_neg h1, if_neg h2]; grind), if_pos rfl, if_neg (fun h => e h.symm), if_pos rfl, ht a ha, if_pos rfl, ht b hb, if_neg (fun h => e h.symm)]
      grind
theorem nul_congr {n : Nat} {m m' : Mx} (h : ∀ i k, i < n → k < n → m i k = m' i k) (x : Nat → Rat) : nulM n m x ↔ nulM n m' x := by
  have e : ∀ i, i < n → dotM n (m i) x = dotM n (m' i) x := fun i hi => smQ_congr fun k hk => by rw [h i k hi hk]
  exact ⟨fun hx i hi => by rw [← e i hi]; exact hx i hi, fun hx i hi => by rw [e i hi]; exact hx i hi⟩
theorem sol_congr {n : Nat} {m m' : Mx} (h : ∀ i k, i < n → k < n + 1 → m i k = m' i k) (x : Nat → Rat) : solM n m x ↔ solM n m' x := by
  have e : ∀ i, i < n → dotM n (m i) x = dotM n (m' i) x := fun i hi => smQ_congr fun k hk => by rw [h i k hi (by omega)]
  exact ⟨fun hx i hi => by rw [← e i hi, ← h i n hi (by omega)]; exact hx i hi, fun hx i hi => by rw [e i hi, h i n hi (by omega)]; exact hx i hi⟩
theorem hom_small {n : Nat} {l : List Rv} (hr : rightL (n : Int) l = true) (hn : l.length = n) (hs : SmallM n (mxR l)) : SmallM n (mxR (l.map homR)) := fun i k hi hk => by
  rw [hom_mx hr hn i k hi hk]
  unfold homM
  split
  · exact Pt.zero
  · exact hs i k hi hk
theorem hom_nulR {n : Nat} {l : List Rv} (hr : rightL (n : Int) l = true) (hn : l.length = n) (x : Nat → Rat) : nulM n (mxR (l.map homR)) x ↔ nulM n (mxR l) x :=
  nul_congr (fun i k hi hk => by
    rw [hom_mx hr hn i k hi (by omega)]
    unfold homM
    rw [if_neg (by omega)]) x
/-- the rank, Solve, Kernel and the values 0 agree -/
theorem rank_agree {n : Nat} {l : List Rv} (hr : rightL (n : Int) l = true) (hf : few6R 3 1 l = true) (hn : l.length = n) :
    ∃ f : Nat, rankL (n : Int) l = ((n : Int) - (f : Int), 0) ∧ rankL (n : Int) (l.map homR) = ((n : Int) - (f : Int), 0) ∧ f ≤ n ∧ ((f = 0 ∧ (solL (n : Int) l).2 = 0 ∧ (kerL (n : Int) l).2 = false) ∨ (f ≠ 0 ∧ (solL (n : Int) l).2 = 16 ∧ (kerL (n : Int) l).2 = true)) := by
  have hn3 := only_n hf hn
  have hs : SmallM n (mxR l) := small_mx (d := 1) hr hf hn
  obtain ⟨m1, fr, h1, h2, h3, h4⟩ := rank_says hr hn hn3 hs
  obtain ⟨m2, fr2, g1, g2, g3, g4⟩ := rank_says (hom_right hr) (by rw [List.length_map]; exact hn) hn3 (hom_small hr hn hs)
  have e : fr.length = fr2.length := Nat.le_antisymm (rank_mono h1 g1 fun x hx => (hom_nulR hr hn x).2 hx) (rank_mono g1 h1 fun x hx => (hom_nulR hr hn x).1 hx)
  refine ⟨fr.length, h2, by rw [e]; exact g2, h3, ?_⟩
  rcases only_law hr hf hn with ⟨m', he, hs, hk, -⟩ | ⟨m', c, he, hcn, hs, hk, -⟩
  · left
    have ht := (elim_triv he).1 rfl
    exact ⟨h4.2 ht, by rw [hs], by rw [hk]⟩
  · right
    refine ⟨fun h0 => ?_, by rw [hs], by rw [hk]⟩
    have := (elim_triv he).2 (h4.1 h0)
    cases this
theorem zero_row (a : List Fv) (b : Fv) (k : Nat) : rwM ⟨a.map fun y => fvQ (y.rat * 0), fvQ (b.rat * 0)⟩ k = 0 := by
  unfold rwM
  cases h : (rowL ⟨a.map fun y => fvQ (y.rat * 0), fvQ (b.rat * 0)⟩)[k]? with
  | none => rfl
  | some e =>
    have he := List.mem_of_getElem? h
    unfold rowL at he
    have e0 : e.rat = 0 := by
      rcases List.mem_append.1 he with he | he
      · obtain ⟨y, -, rfl⟩ := List.mem_map.1 he
        rw [Rat.mul_zero]
        exact fvQ_rat 0
      · rw [List.mem_singleton.1 he, Rat.mul_zero]
        exact fvQ_rat 0
    exact e0
theorem ofF_put_get {n a : Nat} {V : Nat → Rv} {l : List Rv} {r : Rv} (hV : ∀ i, i < n → l[i]? = some (V i)) : ∀ i, i < n → (ofF n (putF V a r))[i]? = if i = a then some r else l[i]? := fun i hi => by
  rw [ofF_get hi]
  by_cases e : i = a
  · rw [if_pos e, e, putF_same]
  · rw [if_neg e, putF_other e, hV i hi]
theorem rank_put {n a b : Nat} {l : List Rv} {V : Nat → Rv} (hr : rightL (n : Int) l = true) (hf : few6R 3 1 l = true) (hn : l.length = n) (hV : ∀ i, i < n → l[i]? = some (V i)) (ha : a < n) (hb : b < n) :
    ∃ f f1 f2 : Nat, rankL (n : Int) l = ((n : Int) - (f : Int), 0) ∧ rankL (n : Int) (ofF n (putF V a (V b))) = ((n : Int) - (f1 : Int), 0) ∧ rankL (n : Int) (ofF n (putF V a ⟨(V a).a.map fun y => fvQ (y.rat * 0), fvQ ((V a).b.rat * 0)⟩)) = ((n : Int) - (f2 : Int), 0) ∧ f ≤ n ∧ f1 ≤ n ∧ f2 ≤ n ∧ f ≤ f1 ∧ f ≤ f2 ∧ f2 ≤ f + 1 ∧ 1 ≤ f2 ∧ (a = b ∨ 1 ≤ f1) := by
  have hn3 := only_n hf hn
  have hs : SmallM n (mxR l) := small_mx (d := 1) hr hf hn
  have g1 := ofF_put_get (a := a) (r := V b) hV
  have g2 := ofF_put_get (a := a) (r := ⟨(V a).a.map fun y => fvQ (y.rat * 0), fvQ ((V a).b.rat * 0)⟩) hV
  have m1 := put_mx (fun i hi => ⟨_, hV i hi⟩) g1
  have m2 := put_mx (fun i hi => ⟨_, hV i hi⟩) g2
  have eb : rwM (V b) = mxR l b := (mxR_row (hV b hb)).symm
  obtain ⟨q1, q2, q3⟩ := right_row hr (hV a ha)
  refine rank_all hn3 hr hn hs ha hb (put_right hr ofF_len (rightL_row hr (hV b hb)) g1) ofF_len (put_small hs (fun k hk => by rw [eb]; exact hs b k hb hk) m1) (fun i hi => by rw [m1 i hi, eb])
    (put_right hr ofF_len (rowF_of (by rw [List.length_map]; exact q1) (by rw [Rat.mul_zero]; exact fvQ_ok fitsF_zero) (fun y hy => by
      obtain ⟨z, -, rfl⟩ := List.mem_map.1 hy
      rw [Rat.mul_zero]
      exact fvQ_ok fitsF_zero)) g2) ofF_len (put_small hs (fun k hk => by rw [zero_row]; exact Pt.zero) m2) m2 (fun k hk => zero_row _ _ k)
end Go.Proofs.Ytdlcglndhhndpaa
