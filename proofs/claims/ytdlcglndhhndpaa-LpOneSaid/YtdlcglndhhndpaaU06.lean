/- Laws and walks laid together; the conditions stand in each theorem. -/
import Derived.Test.YtdlcglndhhndpaaU05
import Derived.Test.YtdlcglndhhndpaaU03
import Derived.Test.YtdlcglndhhndpaaT33
import Derived.Test.YtdlcglndhhndpaaT21
set_option linter.unusedSimpArgs false
set_option linter.unusedVariables false
namespace Go.Proofs.Ytdlcglndhhndpaa
open Go.RowKit
section
variable {P : Program} {ops : Array Oper} {Q : Exit → Act → World → Prop} {md : Region.Mode} {S : World → Prop} {n : Nat}
theorem wpAnyT.tkB (i : Nat) {oi : Oper} {v : Value} {fuel : Nat} {listed : Array Bool} {a : Act} {w : World} {q : Prop} (hi : ops[i]? = some oi) (k : q) (hB : (decide (ops.size ≤ n) && Region.noSelect ops && Region.free md ops listed i && (Region.ready md ops listed).contains i) = true := by decide +kernel)
    (hQ : ∀ c a w, Q (.panic c) (a.put oi.dst v) w → Q (.panic c) a w := by exact fun _ _ _ h => h) (hy : YieldsIf P ops S oi v a := by (refine Or.inl ⟨by rfl, ?_⟩; intro w hSw; (try dsimp only at hSw); go_simp; try with_reducible rfl)) (hS : S w := by assumption) (h : q → wpAnyT P md ops Q S n fuel (listed.setIfInBounds i true) (a.put oi.dst v) w := by (intro hq; (try simp only [Act.put, List.getElem_toArray, List.getElem_cons_succ, List.getElem_cons_zero, List.setIfInBounds_toArray, List.set_cons_zero, List.set_cons_succ]); exact hq)) : wpAnyT P md ops Q S n (fuel + 1) listed a w :=
  wpAnyT.takeA hi hB hQ hy hS (h k)
theorem wpAnyT.tkN (i : Nat) {oi : Oper} {fuel : Nat} {listed : Array Bool} {a : Act} {w : World} {q : Prop} (hi : ops[i]? = some oi) (k : q) (hB : (decide (ops.size ≤ n) && Region.noSelect ops && Region.free md ops listed i && (Region.ready md ops listed).contains i) = true := by decide +kernel)
    (hQ : ∀ c a w, Q (.panic c) (a.put oi.dst undef) w → Q (.panic c) a w := by exact fun _ _ _ h => h) (hy : Region.wanted oi (yielded ops a.tmps) = false := by rfl) (hS : S w := by assumption) (h : q → wpAnyT P md ops Q S n fuel (listed.setIfInBounds i true) (a.put oi.dst undef) w := by (intro hq; (try simp only [Act.put, List.getElem_toArray, List.getElem_cons_succ, List.getElem_cons_zero, List.setIfInBounds_toArray, List.set_cons_zero, List.set_cons_succ]); exact hq)) : wpAnyT P md ops Q S n (fuel + 1) listed a w :=
  wpAnyT.takeA hi hB hQ (Or.inr ⟨hy, rfl⟩) hS (h k)
theorem wpAnyT.onW (i : Nat) {o : Oper} {fuel : Nat} {listed : Array Bool} {a : Act} {w : World} (ho : ops[i]? = some o)
    (h : ∀ K : Act → World → Prop, Hid (∀ a' w', S w' → (S w' → wpAnyT P md ops Q S n fuel (listed.setIfInBounds i true) a' w') → K a' w') → o.wp P a w K Q) (hw : Region.wanted o (yielded ops a.tmps) = true := by rfl) (hB : (decide (i ≠ n) && decide (Region.ready md ops listed = [i])) = true := by kernel_rfl) : wpAnyT P md ops Q S n (fuel + 1) listed a w := by
  simp only [Bool.and_eq_true, decide_eq_true_eq] at hB
  refine ⟨(fun h0 => by rw [hB.2] at h0; cases h0), fun j hj => ?_⟩
  rw [hB.2, List.mem_singleton] at hj
  subst hj
  unfold wpOp
  simp only [ho, hw, if_true]
  exact Or.inl (h _ (Lib.hid fun a' w' hS hW => ⟨fun _ => hS, hW hS⟩))
end
theorem Upd.headN {b : Nat} {cs cs' : Array Value} {t : TypeId} {L L' : List Blk} (h : Upd b cs t cs' ((b, cs, t) :: L) L') (hn : (((b, cs, t) :: L).map (·.1)).Nodup) : L' = (b, cs', t) :: L := by
  cases h with
  | head _ => rfl
  | tail _ h3 =>
    have := List.mem_map_of_mem (f := fun p : Blk => p.1) h3.mem
    rw [List.map_cons, List.nodup_cons] at hn
    exact absurd this hn.1
def chkO (n m : Nat) (l : List Fv) (ls : List Rv) (x y : List Fv) : Bool :=
  (decide (x.length = n) && x.all fnF) && (decide (y.length = m) && y.all fnF) && belB m n (rwA2 ls) (rwB2 ls false) (fvR x) && covB m n (rwA2 ls) (fvR l) (fvR y) && prdK (fvR y) (rwB2 ls false) m && prdK (fvR l) (fvR x) n && decide (smQ (fun i => fvR y i * rwB2 ls false i) m = smQ (fun j => fvR l j * fvR x j) n)
def chkN (n m : Nat) (ls : List Rv) (x y : List Fv) : Bool :=
  decide (x.length = 0) && (decide (y.length = m) && y.all fnF) && covB m n (rwA2 ls) zeroC (fvR y) && prdK (fvR y) (rwB2 ls false) m && decide (smQ (fun i => fvR y i * rwB2 ls false i) m < 0)
def chkR (n m : Nat) (l : List Fv) (ls : List Rv) (x y : List Fv) : Bool :=
  decide (y.length = 0) && (decide (x.length = n) && x.all fnF) && belB m n (rwA2 ls) (rwB2 ls true) (fvR x) && prdK (fvR l) (fvR x) n && decide (0 < smQ (fun j => fvR l j * fvR x j) n)
def chkF (n m : Nat) (l : List Fv) (ls : List Rv) (x y : List Fv) (e : Int) : Bool :=
  if e = 0 then chkO n m l ls x y else if e = 4 then chkN n m ls x y else if e = 3 then chkR n m l ls x y else false
theorem fnF_pos {x : List Fv} (h : x.all fnF = true) : ∀ i, i < x.length → 0 ≤ fvR x i ∧ fitsF (fvR x i) = true := fun i hi => by
  have h1 := List.all_eq_true.1 h _ (List.getElem_mem hi)
  unfold fnF at h1
  rw [Bool.and_eq_true, Bool.not_eq_true'] at h1
  obtain ⟨h2, h3⟩ := h1
  have h4 := fv_std h2
  unfold fvR
  rw [List.getElem?_eq_getElem hi, Option.map_some, Option.getD_some]
  refine ⟨?_, h4.2⟩
  have h5 := isQ.neg_iff (x := ⟨x[i].s, none, 0, 0, x[i].l, x[i].t, none, 0, 0, x[i].m⟩) (q := x[i].rat) h4
  have h6 : decide (x[i].s < 0) = decide (x[i].rat < 0) := h5
  rw [h3] at h6
  exact Rat.not_lt.1 (of_decide_eq_false h6.symm)
section
variable {n m : Nat} {l : List Fv} {ls : List Rv} {x y : List Fv}
theorem chkO_x (h : (decide (x.length = n) && x.all fnF) = false) : chkO n m l ls x y = false := by unfold chkO; rw [h]; simp
theorem chkO_y (h : (decide (y.length = m) && y.all fnF) = false) : chkO n m l ls x y = false := by unfold chkO; rw [h]; simp
theorem chkO_b {o : Bool} (h : (false && !o) = (!false && belB m n (rwA2 ls) (rwB2 ls false) (fvR x))) : chkO n m l ls x y = false := by
  have h : belB m n (rwA2 ls) (rwB2 ls false) (fvR x) = false := by simpa using h.symm
  unfold chkO; rw [h]; simp
theorem chkO_c {o p : Bool} (h : (true && !o) = (!false && belB m n (rwA2 ls) (rwB2 ls false) (fvR x))) (h' : (false && !p) = (!o && covB m n (rwA2 ls) (fvR l) (fvR y))) : chkO n m l ls x y = false := by
  have h1 : (!o) = belB m n (rwA2 ls) (rwB2 ls false) (fvR x) := by simpa using h
  rw [h1, Bool.false_and] at h'
  unfold chkO
  cases e1 : belB m n (rwA2 ls) (rwB2 ls false) (fvR x)
  · simp
  · rw [e1, Bool.true_and] at h'
    rw [← h']
    simp
theorem chkO_fin {o p f3 f4 : Bool} {z1 z2 : Rat} (hx : (decide (x.length = n) && x.all fnF) = true) (hy : (decide (y.length = m) && y.all fnF) = true) (h : (true && !o) = (!false && belB m n (rwA2 ls) (rwB2 ls false) (fvR x))) (h' : (true && !p) = (!o && covB m n (rwA2 ls) (fvR l) (fvR y)))
    (h3 : f3 = (p || !prdK (fvR y) (rwB2 ls false) m)) (h4 : f4 = (f3 || !prdK (fvR l) (fvR x) n)) (g1 : prdK (fvR y) (rwB2 ls false) m = true → z1 = smQ (fun i => fvR y i * rwB2 ls false i) m) (g2 : prdK (fvR l) (fvR x) n = true → z2 = smQ (fun j => fvR l j * fvR x j) n) :
    chkO n m l ls x y = (decide (z1 = z2) && !f4) := by
  have h1 : (!o) = belB m n (rwA2 ls) (rwB2 ls false) (fvR x) := by simpa using h
  have h2 : (!p) = (belB m n (rwA2 ls) (rwB2 ls false) (fvR x) && covB m n (rwA2 ls) (fvR l) (fvR y)) := by rw [← h1]; simpa using h'
  unfold chkO
  rw [hx, hy, Bool.true_and, Bool.true_and, ← h2, h4, h3]
  cases e1 : prdK (fvR y) (rwB2 ls false) m
  · simp
  cases e2 : prdK (fvR l) (fvR x) n
  · simp
  rw [g1 e1, g2 e2]
  cases p <;> simp
theorem chkN_x (h : decide (x.length = 0) = false) : chkN n m ls x y = false := by unfold chkN; rw [h]; simp
theorem chkN_y (h : (decide (y.length = m) && y.all fnF) = false) : chkN n m ls x y = false := by unfold chkN; rw [h]; simp
theorem chkN_c {o : Bool} (h : (false && !o) = (!false && covB m n (rwA2 ls) zeroC (fvR y))) : chkN n m ls x y = false := by
  have h : covB m n (rwA2 ls) zeroC (fvR y) = false := by simpa using h.symm
  unfold chkN; rw [h]; simp
theorem chkN_fin {p f3 : Bool} {z1 : Rat} (hx : decide (x.length = 0) = true) (hy : (decide (y.length = m) && y.all fnF) = true) (h' : (true && !p) = (!false && covB m n (rwA2 ls) zeroC (fvR y)))
    (h3 : f3 = (p || !prdK (fvR y) (rwB2 ls false) m)) (g1 : prdK (fvR y) (rwB2 ls false) m = true → z1 = smQ (fun i => fvR y i * rwB2 ls false i) m) : chkN n m ls x y = (decide (z1 < 0) && !f3) := by
  have h2 : (!p) = covB m n (rwA2 ls) zeroC (fvR y) := by simpa using h'
  unfold chkN
  rw [hx, hy, Bool.true_and, Bool.true_and, ← h2, h3]
  cases e1 : prdK (fvR y) (rwB2 ls false) m
  · simp
  rw [g1 e1]
  cases p <;> simp
theorem chkR_y (h : decide (y.length = 0) = false) : chkR n m l ls x y = false := by unfold chkR; rw [h]; simp
theorem chkR_x (h : (decide (x.length = n) && x.all fnF) = false) : chkR n m l ls x y = false := by unfold chkR; rw [h]; simp
theorem chkR_b {o : Bool} (h : (false && !o) = (!false && belB m n (rwA2 ls) (rwB2 ls true) (fvR x))) : chkR n m l ls x y = false := by
  have h : belB m n (rwA2 ls) (rwB2 ls true) (fvR x) = false := by simpa using h.symm
  unfold chkR; rw [h]; simp
theorem chkR_fin {p f3 : Bool} {z1 : Rat} (hy : decide (y.length = 0) = true) (hx : (decide (x.length = n) && x.all fnF) = true) (h' : (true && !p) = (!false && belB m n (rwA2 ls) (rwB2 ls true) (fvR x)))
    (h3 : f3 = (p || !prdK (fvR l) (fvR x) n)) (g1 : prdK (fvR l) (fvR x) n = true → z1 = smQ (fun j => fvR l j * fvR x j) n) : chkR n m l ls x y = (decide (0 < z1) && !f3) := by
  have h2 : (!p) = belB m n (rwA2 ls) (rwB2 ls true) (fvR x) := by simpa using h'
  unfold chkR
  rw [hx, hy, Bool.true_and, Bool.true_and, ← h2, h3]
  cases e1 : prdK (fvR l) (fvR x) n
  · simp
  rw [g1 e1]
  cases p <;> simp
end
theorem chkO_cer {n m : Nat} {l : List Fv} {ls : List Rv} {x y : List Fv} (h : chkO n m l ls x y = true) : CerB m n (rwA2 ls) (rwB2 ls false) (fvR l) (fvR x) (fvR y) := by
  unfold chkO at h
  simp only [Bool.and_eq_true, decide_eq_true_eq] at h
  obtain ⟨⟨⟨⟨⟨⟨⟨h1, h2⟩, h3, h4⟩, h5⟩, h6⟩, -⟩, -⟩, h7⟩ := h
  exact ⟨belB_sol h5 fun u hu => (fnF_pos h2 u (by omega)).1, covB_pri h6 fun i hi => (fnF_pos h4 i (by omega)).1, h7⟩
theorem chkN_cer {n m : Nat} {ls : List Rv} {x y : List Fv} (h : chkN n m ls x y = true) : CerN m n (rwA2 ls) (rwB2 ls false) (fvR y) := by
  unfold chkN at h
  simp only [Bool.and_eq_true, decide_eq_true_eq] at h
  obtain ⟨⟨⟨⟨-, h3, h4⟩, h6⟩, -⟩, h7⟩ := h
  exact ⟨covB_pri (c := zeroC) h6 fun i hi => (fnF_pos h4 i (by omega)).1, h7⟩
theorem chkR_cer {n m : Nat} {l : List Fv} {ls : List Rv} {x y : List Fv} (h : chkR n m l ls x y = true) : CerR m n (rwA2 ls) (fvR l) (fvR x) := by
  unfold chkR at h
  simp only [Bool.and_eq_true, decide_eq_true_eq] at h
  obtain ⟨⟨⟨⟨-, h3, h4⟩, h6⟩, -⟩, h7⟩ := h
  have h8 := belB_sol (b := rwB2 ls true) h6 fun u hu => (fnF_pos h4 u (by omega)).1
  exact ⟨h8, h7⟩
end Go.Proofs.Ytdlcglndhhndpaa
