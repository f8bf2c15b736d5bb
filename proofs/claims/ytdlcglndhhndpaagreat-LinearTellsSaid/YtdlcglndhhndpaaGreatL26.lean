/- Laws and walks; conditions stand in each theorem. -/
import Derived.Test.YtdlcglndhhndpaaGreatL13
import Derived.Test.YtdlcglndhhndpaaGreatL25
import Derived.Test.YtdlcglndhhndpaaGreatL16
import Derived.Test.YtdlcglndhhndpaaGreatL17
import Derived.Test.YtdlcglndhhndpaaGreatL23
set_option linter.unusedSimpArgs false
set_option linter.unusedVariables false
namespace Go.Proofs.YtdlcglndhhndpaaGreat
open Go.RowKit
section
variable {P : Program} {ops : Array Oper} {Q : Exit → Act → World → Prop} {md : Region.Mode} {S : World → Prop} {p : Nat}
def wpAnyP (P : Program) (md : Region.Mode) (ops : Array Oper) (Q : Exit → Act → World → Prop) (S : World → Prop) (p : Nat) : Nat → Array Bool → Act → World → Prop
 | 0, listed, a, w => Region.ready md ops listed = [] ∧ Q .normal a w
 | fuel + 1, listed, a, w => (Region.ready md ops listed = [] → Q .normal a w) ∧ ∀ i ∈ Region.ready md ops listed, wpOp P ops Q i (fun a' w' => ((listed.setIfInBounds i true).getD p true = false → S w') ∧ wpAnyP P md ops Q S p fuel (listed.setIfInBounds i true) a' w') a w
theorem wpAnyP.any : ∀ (fuel : Nat) (listed : Array Bool) (a : Act) (w : World), wpAnyP P md ops Q S p fuel listed a w → wpAny P md ops Q fuel listed a w
 | 0, _, _, _, h => h
 | fuel + 1, _, _, _, h => ⟨h.1, fun i hi => wpOp_mono (fun a' w' h' => wpAnyP.any fuel _ a' w' h'.2) (h.2 i hi)⟩
theorem wpAnyP.firstU {i : Nat} {oi : Oper} {v : Value} (hi : ops[i]? = some oi) (hin : i ≠ p)
 (hsel : ∀ (j : Nat) (o : Oper) cs b, ops[j]? = some o → o.op ≠ .select cs b) (hQ : ∀ c a w, Q (.panic c) (a.put oi.dst v) w → Q (.panic c) a w) (fuel : Nat) :
 ∀ (listed : Array Bool) (a : Act) (w : World), (∀ j oj, ops[j]? = some oj → j ≠ i → listed.getD j true = false → (∀ e ∈ oj.after, Region.binds md e = true → e.on ≠ i) → oi.apart ops oj = true) →
  i ∈ Region.ready md ops listed → YieldsIf P ops (fun _ => True) oi v a → (listed.getD p true = false → S w) → wpAnyP P md ops Q S p fuel (listed.setIfInBounds i true) (a.put oi.dst v) w → wpAnyP P md ops Q S p (fuel + 1) listed a w := by
 induction fuel with
 | zero =>
  intro listed a w _ hr hy hS H
  refine ⟨(fun h => by rw [h] at hr; cases hr), fun j hj => ?_⟩
  by_cases hji : j = i
  · subst hji
    exact hy.wpOp hi trivial ⟨fun hl => hS (by rw [getD_set_ne true hin] at hl; exact hl), H⟩
  · have h1 := ready_mono (i := i) hj hji
    rw [H.1] at h1
    cases h1
 | succ fuel ih =>
  intro listed a w hfree hr hy hS H
  refine ⟨(fun h => by rw [h] at hr; cases hr), fun j hj => ?_⟩
  by_cases hji : j = i
  · subst hji
    exact hy.wpOp hi trivial ⟨fun hl => hS (by rw [getD_set_ne true hin] at hl; exact hl), H⟩
  obtain ⟨hjun, oj, hoj, hall⟩ := mem_ready.1 hj
  have hiun := getD_flip (mem_ready.1 hr).1
  have hno : ∀ e ∈ oj.after, Region.binds md e = true → e.on ≠ i := fun e he hb heq => by
   exact ZL108
  have h2 := wpOp_putIf hoj (hfree j oj hoj hji hjun hno) (fun cs b => hsel i oi cs b hi) (fun cs b => hsel j oj cs b hoj) hQ hy (H.2 j (ready_mono hj hji))
  refine wpOp_mono (fun a' w' h3 => ?_) h2
  have hS' : (listed.setIfInBounds j true).getD p true = false → S w' := fun hl => h3.2.1 (by
   rw [Array.setIfInBounds_comm _ _ (Ne.symm hji), getD_set_ne true hin]
   exact hl)
  refine ⟨hS', ih (listed.setIfInBounds j true) a' w' (fun k ok hk hki hun hno' => ?_) (ready_mono hr (Ne.symm hji)) h3.1 hS' ?_⟩
  · refine hfree k ok hk hki ?_ hno'
    by_cases hjk : j = k
    · rw [← hjk]; exact hjun
    · rw [getD_set_ne true hjk] at hun
      exact hun
  · rw [Array.setIfInBounds_comm _ _ hji]
    exact h3.2.2
theorem wpAnyP.first {i : Nat} {oi : Oper} {v : Value} (hi : ops[i]? = some oi) (hin : i ≠ p) (hwait : ∀ on, ops[p]? = some on → ∃ e ∈ on.after, Region.binds md e = true ∧ e.on = i)
 (hsel : ∀ (j : Nat) (o : Oper) cs b, ops[j]? = some o → o.op ≠ .select cs b) (hQ : ∀ c a w, Q (.panic c) (a.put oi.dst v) w → Q (.panic c) a w) (fuel : Nat) :
 ∀ (listed : Array Bool) (a : Act) (w : World), (∀ j oj, ops[j]? = some oj → j ≠ i → listed.getD j true = false → (∀ e ∈ oj.after, Region.binds md e = true → e.on ≠ i) → oi.apart ops oj = true) →
  i ∈ Region.ready md ops listed → YieldsIf P ops S oi v a → S w → listed.getD p true = false → wpAnyP P md ops Q S p fuel (listed.setIfInBounds i true) (a.put oi.dst v) w → wpAnyP P md ops Q S p (fuel + 1) listed a w := by
 induction fuel with
 | zero =>
  intro listed a w _ hr hy hS hp H
  exact ZL41
 | succ fuel ih =>
  intro listed a w hfree hr hy hS hp H
  refine ⟨(fun h => by rw [h] at hr; cases hr), fun j hj => ?_⟩
  by_cases hji : j = i
  · subst hji
    exact hy.wpOp hi hS ⟨fun _ => hS, H⟩
  obtain ⟨hjun, oj, hoj, hall⟩ := mem_ready.1 hj
  have hiun := getD_flip (mem_ready.1 hr).1
  have hno : ∀ e ∈ oj.after, Region.binds md e = true → e.on ≠ i := fun e he hb heq => by
   exact ZL108
  have hjp : j ≠ p := fun e => by
   subst e
   obtain ⟨e, he, hb, heq⟩ := hwait oj hoj
   exact hno e he hb heq
  have h2 := wpOp_putIf hoj (hfree j oj hoj hji hjun hno) (fun cs b => hsel i oi cs b hi) (fun cs b => hsel j oj cs b hoj) hQ hy (H.2 j (ready_mono hj hji))
  refine wpOp_mono (fun a' w' h3 => ?_) h2
  have hp' : (listed.setIfInBounds j true).getD p true = false := by
   rw [getD_set_ne true hjp]
   exact hp
  have hS' := h3.2.1 (by
   rw [Array.setIfInBounds_comm _ _ (Ne.symm hji), getD_set_ne true hin]
   exact hp')
  refine ⟨fun _ => hS', ih (listed.setIfInBounds j true) a' w' (fun k ok hk hki hun hno' => ?_) (ready_mono hr (Ne.symm hji)) h3.1 hS' hp' ?_⟩
  · refine hfree k ok hk hki ?_ hno'
    by_cases hjk : j = k
    · rw [← hjk]; exact hjun
    · rw [getD_set_ne true hjk] at hun
      exact hun
  · rw [Array.setIfInBounds_comm _ _ hji]
    exact h3.2.2
theorem wpAnyP.take {i : Nat} {oi : Oper} {v : Value} {fuel : Nat} {listed : Array Bool} {a : Act} {w : World} (hi : ops[i]? = some oi) (hB : (decide (i ≠ p) && waitsB md ops p i && Region.noSelect ops && Region.free md ops listed i && (Region.ready md ops listed).contains i && (listed.getD p true == false)) = true)
 (hQ : ∀ c a w, Q (.panic c) (a.put oi.dst v) w → Q (.panic c) a w) (hy : YieldsIf P ops S oi v a) (hS : S w) (h : wpAnyP P md ops Q S p fuel (listed.setIfInBounds i true) (a.put oi.dst v) w) : wpAnyP P md ops Q S p (fuel + 1) listed a w := by
 simp only [Bool.and_eq_true, decide_eq_true_eq, beq_iff_eq] at hB
 obtain ⟨⟨⟨⟨⟨h1, h2⟩, h3⟩, h4⟩, h5⟩, h6⟩ := hB
 refine wpAnyP.first hi h1 (fun on hon => ?_) (Region.noSelect_spec h3) hQ fuel listed a w (Region.free_spec hi h4) (by simpa using h5) hy hS h6 h
 unfold waitsB at h2
 rw [hon] at h2
 obtain ⟨e, he, hb⟩ := Array.any_eq_true'.1 h2
 rw [Bool.and_eq_true, beq_iff_eq] at hb
 exact ⟨e, he, hb⟩
theorem wpAnyP.takeU {i : Nat} {oi : Oper} {v : Value} {fuel : Nat} {listed : Array Bool} {a : Act} {w : World} (hi : ops[i]? = some oi) (hB : (decide (i ≠ p) && Region.noSelect ops && Region.free md ops listed i && (Region.ready md ops listed).contains i) = true)
 (hQ : ∀ c a w, Q (.panic c) (a.put oi.dst v) w → Q (.panic c) a w) (hy : YieldsIf P ops (fun _ => True) oi v a) (hS : listed.getD p true = false → S w) (h : wpAnyP P md ops Q S p fuel (listed.setIfInBounds i true) (a.put oi.dst v) w) : wpAnyP P md ops Q S p (fuel + 1) listed a w := by
 simp only [Bool.and_eq_true, decide_eq_true_eq] at hB
 obtain ⟨⟨⟨h1, h3⟩, h4⟩, h5⟩ := hB
 exact wpAnyP.firstU hi h1 (Region.noSelect_spec h3) hQ fuel listed a w (Region.free_spec hi h4) (by simpa using h5) hy hS h
theorem wpAnyP.takeF {i : Nat} {oi : Oper} {v : Value} {fuel : Nat} {listed : Array Bool} {a : Act} {w : World} (hi : ops[i]? = some oi) (hB : (decide (i ≠ p) && Region.noSelect ops && Region.free md ops listed i && (Region.ready md ops listed).contains i && (listed.getD p true == true)) = true)
 (hQ : ∀ c a w, Q (.panic c) (a.put oi.dst v) w → Q (.panic c) a w) (hy : YieldsIf P ops (fun _ => True) oi v a) (h : wpAnyP P md ops Q S p fuel (listed.setIfInBounds i true) (a.put oi.dst v) w) : wpAnyP P md ops Q S p (fuel + 1) listed a w := by
 rw [Bool.and_eq_true] at hB
 obtain ⟨h1, h2⟩ := hB
 rw [beq_iff_eq] at h2
 exact wpAnyP.takeU hi h1 hQ hy (fun e => by rw [h2] at e; cases e) h
theorem wpAnyP.oneF {i : Nat} {o : Oper} {fuel : Nat} {listed : Array Bool} {a : Act} {w : World} (ho : ops[i]? = some o) (hg : o.guard = none) (hB : (decide (Region.ready md ops listed = [i]) && ((listed.setIfInBounds i true).getD p true == true)) = true)
 (h : ∀ K : Act → World → Prop, Hid (∀ a' w', wpAnyP P md ops Q S p fuel (listed.setIfInBounds i true) a' w' → K a' w') → o.wp P a w K Q) : wpAnyP P md ops Q S p (fuel + 1) listed a w := by
 rw [Bool.and_eq_true, beq_iff_eq] at hB
 have hR := of_decide_eq_true hB.1
 refine ⟨(fun h0 => by rw [hR] at h0; cases h0), fun j hj => ?_⟩
 rw [hR, List.mem_singleton] at hj
 subst hj
 have hw : Region.wanted o (yielded ops a.tmps) = true := by simp [Region.wanted, hg]
 unfold wpOp
 simp only [ho, hw, if_true]
 exact Or.inl (h _ (Lib.hid fun a' w' hW => ⟨(fun e => by rw [hB.2] at e; cases e), hW⟩))
theorem wpAnyP.one {i : Nat} {o : Oper} {fuel : Nat} {listed : Array Bool} {a : Act} {w : World} (ho : ops[i]? = some o) (hg : o.guard = none) (hB : decide (Region.ready md ops listed = [i]) = true)
 (h : ∀ K : Act → World → Prop, Hid (∀ a' w', ((listed.setIfInBounds i true).getD p true = false → S w') → (((listed.setIfInBounds i true).getD p true = false → S w') → wpAnyP P md ops Q S p fuel (listed.setIfInBounds i true) a' w') → K a' w') → o.wp P a w K Q) : wpAnyP P md ops Q S p (fuel + 1) listed a w := by
 have hB := of_decide_eq_true hB
 refine ⟨(fun h0 => by rw [hB] at h0; cases h0), fun j hj => ?_⟩
 rw [hB, List.mem_singleton] at hj
 subst hj
 have hw : Region.wanted o (yielded ops a.tmps) = true := by simp [Region.wanted, hg]
 unfold wpOp
 simp only [ho, hw, if_true]
 exact Or.inl (h _ (Lib.hid fun a' w' hS hW => ⟨hS, hW hS⟩))
theorem wpAnyP.tk (i : Nat) {oi : Oper} {v : Value} {fuel : Nat} {listed : Array Bool} {a : Act} {w : World} {q : Prop} (hi : ops[i]? = some oi) (k : q) (hB : (decide (i ≠ p) && waitsB md ops p i && Region.noSelect ops && Region.free md ops listed i && (Region.ready md ops listed).contains i && (listed.getD p true == false)) = true := by decide +kernel)
 (hQ : ∀ c a w, Q (.panic c) (a.put oi.dst v) w → Q (.panic c) a w := by exact fun _ _ _ h => h) (hy : YieldsIf P ops S oi v a := by (refine Or.inl ⟨by rfl, ?_⟩; intro w hSw; (try dsimp only at hSw); go_simp; try with_reducible rfl)) (hS : S w := by assumption) (h : q → wpAnyP P md ops Q S p fuel (listed.setIfInBounds i true) (a.put oi.dst v) w := by (intro hq; (try simp only [Act.put, List.setIfInBounds_toArray, List.set_cons_zero, List.set_cons_succ]); exact hq)) : wpAnyP P md ops Q S p (fuel + 1) listed a w :=
 wpAnyP.take hi hB hQ hy hS (h k)
theorem wpAnyP.tkU (i : Nat) {oi : Oper} {v : Value} {fuel : Nat} {listed : Array Bool} {a : Act} {w : World} {q : Prop} (hi : ops[i]? = some oi) (k : q) (hB : (decide (i ≠ p) && Region.noSelect ops && Region.free md ops listed i && (Region.ready md ops listed).contains i) = true := by decide +kernel)
 (hQ : ∀ c a w, Q (.panic c) (a.put oi.dst v) w → Q (.panic c) a w := by exact fun _ _ _ h => h) (hy : YieldsIf P ops (fun _ => True) oi v a := by (refine Or.inl ⟨by rfl, ?_⟩; intro w hSw; go_simp; try with_reducible rfl)) (hS : listed.getD p true = false → S w := by exact fun _ => by assumption) (h : q → wpAnyP P md ops Q S p fuel (listed.setIfInBounds i true) (a.put oi.dst v) w := by (intro hq; (try simp only [Act.put, List.setIfInBounds_toArray, List.set_cons_zero, List.set_cons_succ]); exact hq)) : wpAnyP P md ops Q S p (fuel + 1) listed a w :=
 wpAnyP.takeU hi hB hQ hy hS (h k)
theorem wpAnyP.tkF (i : Nat) {oi : Oper} {v : Value} {fuel : Nat} {listed : Array Bool} {a : Act} {w : World} {q : Prop} (hi : ops[i]? = some oi) (k : q) (hB : (decide (i ≠ p) && Region.noSelect ops && Region.free md ops listed i && (Region.ready md ops listed).contains i && (listed.getD p true == true)) = true := by decide +kernel)
 (hQ : ∀ c a w, Q (.panic c) (a.put oi.dst v) w → Q (.panic c) a w := by exact fun _ _ _ h => h) (hy : YieldsIf P ops (fun _ => True) oi v a := by (refine Or.inl ⟨by rfl, ?_⟩; intro w hSw; go_simp; try with_reducible rfl)) (h : q → wpAnyP P md ops Q S p fuel (listed.setIfInBounds i true) (a.put oi.dst v) w := by (intro hq; (try simp only [Act.put, List.setIfInBounds_toArray, List.set_cons_zero, List.set_cons_succ]); exact hq)) : wpAnyP P md ops Q S p (fuel + 1) listed a w :=
 wpAnyP.takeF hi hB hQ hy (h k)
theorem wpAnyP.on (i : Nat) {o : Oper} {fuel : Nat} {listed : Array Bool} {a : Act} {w : World} (ho : ops[i]? = some o) (h : ∀ K : Act → World → Prop, Hid (∀ a' w', ((listed.setIfInBounds i true).getD p true = false → S w') → (((listed.setIfInBounds i true).getD p true = false → S w') → wpAnyP P md ops Q S p fuel (listed.setIfInBounds i true) a' w') → K a' w') → o.wp P a w K Q) (hg : o.guard = none := by rfl) (hB : decide (Region.ready md ops listed = [i]) = true := by kernel_rfl) : wpAnyP P md ops Q S p (fuel + 1) listed a w :=
 wpAnyP.one ho hg hB h
theorem wpAnyP.onF (i : Nat) {o : Oper} {fuel : Nat} {listed : Array Bool} {a : Act} {w : World} (ho : ops[i]? = some o) (h : ∀ K : Act → World → Prop, Hid (∀ a' w', wpAnyP P md ops Q S p fuel (listed.setIfInBounds i true) a' w' → K a' w') → o.wp P a w K Q) (hg : o.guard = none := by rfl) (hB : (decide (Region.ready md ops listed = [i]) && ((listed.setIfInBounds i true).getD p true == true)) = true := by kernel_rfl) : wpAnyP P md ops Q S p (fuel + 1) listed a w :=
 wpAnyP.oneF ho hg hB h
theorem wpAnyP.two {i j : Nat} {oi oj : Oper} {fuel : Nat} {listed : Array Bool} {a : Act} {w : World} (hi : ops[i]? = some oi) (hj : ops[j]? = some oj) (hg : oi.guard = none) (hg' : oj.guard = none) (hB : decide (Region.ready md ops listed = [i, j]) = true)
 (h : ∀ K : Act → World → Prop, Hid (∀ a' w', ((listed.setIfInBounds i true).getD p true = false → S w') → (((listed.setIfInBounds i true).getD p true = false → S w') → wpAnyP P md ops Q S p fuel (listed.setIfInBounds i true) a' w') → K a' w') → oi.wp P a w K Q)
 (h' : ∀ K : Act → World → Prop, Hid (∀ a' w', ((listed.setIfInBounds j true).getD p true = false → S w') → (((listed.setIfInBounds j true).getD p true = false → S w') → wpAnyP P md ops Q S p fuel (listed.setIfInBounds j true) a' w') → K a' w') → oj.wp P a w K Q) : wpAnyP P md ops Q S p (fuel + 1) listed a w := by
 have hB := of_decide_eq_true hB
 refine ⟨(fun h0 => by rw [hB] at h0; cases h0), fun k hk => ?_⟩
 rw [hB] at hk
 have hw : ∀ o : Oper, o.guard = none → Region.wanted o (yielded ops a.tmps) = true := fun o hg => by simp [Region.wanted, hg]
 rcases List.mem_cons.1 hk with rfl | hk
 · unfold wpOp
   simp only [hi, hw oi hg, if_true]
   exact Or.inl (h _ (Lib.hid fun a' w' hS hW => ⟨hS, hW hS⟩))
 · rw [List.mem_singleton] at hk
   subst hk
   unfold wpOp
   simp only [hj, hw oj hg', if_true]
   exact Or.inl (h' _ (Lib.hid fun a' w' hS hW => ⟨hS, hW hS⟩))
theorem wpAnyP.last {n : Nat} {o : Oper} {fuel : Nat} {listed : Array Bool} {a : Act} {w : World} (ho : ops[n]? = some o) (hB : (decide (Region.ready md ops listed = [n]) && decide (Region.ready md ops (listed.setIfInBounds n true) = []) && ((listed.setIfInBounds n true).getD p true == true)) = true)
 (h : wpList P ops Q [o] a w) : wpAnyP P md ops Q S p (fuel + 1) listed a w := by
 simp only [Bool.and_eq_true, decide_eq_true_eq, beq_iff_eq] at hB
 obtain ⟨⟨h1, h2⟩, h3⟩ := hB
 refine ⟨(fun h0 => by rw [h1] at h0; cases h0), fun j hj => ?_⟩
 rw [h1, List.mem_singleton] at hj
 subst hj
 have hw : wpOp P ops Q j (wpList P ops Q []) a w := by
  unfold wpOp
  simp only [ho]
  exact h
 refine wpOp_mono (fun a' w' hK => ⟨(fun e => by rw [h3] at e; cases e), ?_⟩) hw
 cases fuel with
 | zero => exact ⟨h2, hK⟩
 | succ fuel => exact ⟨fun _ => hK, fun i hi => by rw [h2] at hi; cases hi⟩
theorem wp_region_P {id : Nat} {a : Act} {w : World} (p : Nat) (S : World → Prop) (hm : P.follows .mixedOrders = true) (hS : S w.drew) (h : S w.drew → wpAnyP P .any ops Q S p ops.size (Array.replicate ops.size false) a w.drew) : (Code.region id ops true).wp P Q a w :=
 wp_region_any hm (wpAnyP.any _ _ _ _ (h hS))
end
def OpR (m k n : Nat) (ls : List Rv) (Y : Nat → Rw) (V : Nat → Nat → Rw) (hd : Nat → Hd) (Xs : Nat → List Blk) : Prop :=
 (∀ i, i < k → isQ (Y i) (rwB2 ls false i) ∧ (∀ j, j < n → isQ (V i j) (rwA2 ls i j)) ∧ OwL 4 Rw.cs 50 (Value.slice (hd i).A (hd i).n (hd i).c) (ofF n (V i)) (Xs i))
theorem OpR.add {m k n : Nat} {ls : List Rv} {Y : Nat → Rw} {V : Nat → Nat → Rw} {hd : Nat → Hd} {Xs : Nat → List Blk} (h : OpR m k n ls Y V hd Xs) {y : Rw} {u : Nat → Rw} {h9 : Hd} {Xc : List Blk} (hy : isQ y (rwB2 ls false k)) (hu : ∀ j, j < n → isQ (u j) (rwA2 ls k j)) (ho : OwL 4 Rw.cs 50 (Value.slice h9.A h9.n h9.c) (ofF n u) Xc) : OpR m (k + 1) n ls (putF Y k y) (putF V k u) (putF hd k h9) (putF Xs k Xc) := fun i hi => by
 by_cases e : i = k
 · subst e
   rw [putF_same, putF_same, putF_same, putF_same]
   exact ⟨hy, hu, ho⟩
 · rw [putF_other e, putF_other e, putF_other e, putF_other e]
   exact h i (by omega)
def fvR (l : List Fv) (j : Nat) : Rat := ((l[j]?).map Fv.rat).getD 0
theorem isQ.fv {x : Rw} {q : Rat} (h : isQ x q) : x.fv = fvQ q := by
 obtain ⟨⟨⟨h1, h2⟩, h3, h4⟩, -⟩ := h
 unfold Rw.fv fvQ
 rw [h1, h2, h3, h4]
structure Rr where
 A : Option Addr
 n : Nat
 c : Nat
 a : List Fv
 y : Rw
def Rr.cs (x : Rr) : List Value := .slice x.A x.n x.c :: x.y.cs
def Rr.rv (x : Rr) : Rv := ⟨x.a, x.y.fv⟩
def Rr.on (x : Rr) : World → Prop := fun W => RdF W W.heap.size x.A x.n x.c x.a ∧ x.y.on W
theorem rr_sized : Sized 5 Rr.cs := ⟨by omega, fun x => ⟨rfl, by
 intro u hu
 rcases List.mem_cons.1 hu with rfl | hu
 · rfl
 · exact (rw_sized.2 x.y).2 u hu⟩⟩
def Rr.zero : Rr := ⟨none, 0, 0, [], Rw.zero⟩
abbrev rrF (n : Nat) (u : Nat → Rr) (S : Nat → Nat → Prop) : Hl := ⟨famP (fun i => i < n) (fun i => (u i).on) S, famS (fun i => i < n) S⟩
section
variable {w W W' : World} {L L' X : List Blk} {D : List Hl} {n : Nat} {u : Nat → Rr} {S : Nat → Nat → Prop}
theorem St.rrNew (h : St w L D W) : St w L (rrF 0 u S :: D) W := h.fam fun i hi => absurd hi (by omega)
theorem St.rrAdd (h : St w L D W) (hm : rrF n u S ∈ D) (y : Rr) (T : Nat → Prop) (hy : (⟨y.on, T⟩ : Hl).ok L W) : St w L (rrF (n + 1) (putF u n y) (putF S n T) :: D) W :=
 h.fam fun i hi => by
  by_cases e : i = n
  · rw [e, putF_same, putF_same]; exact hy
  · rw [putF_other e, putF_other e]; exact h.famAt hm (i := i) (by omega)
theorem St.rrPut (h : St w L D W) (hm : rrF n u S ∈ D) (k : Nat) (y : Rr) (T : Nat → Prop) (hy : (⟨y.on, T⟩ : Hl).ok L W) : St w L (rrF n (putF u k y) (putF S k T) :: D) W :=
 h.fam fun i hi => by
  by_cases e : i = k
  · rw [e, putF_same, putF_same]; exact hy
  · rw [putF_other e, putF_other e]; exact h.famAt hm (i := i) hi
theorem St.okOld (h : St w L D W) {P : World → Prop} (hP : ∀ W' : World, w.heap.size ≤ W'.heap.size → (∀ b, b < w.heap.size → W'.heap[b]? = w.heap[b]?) → P W') : (⟨P, oldS w⟩ : Hl).ok L W :=
 ⟨hP W h.1.size (fun b hb => h.1.block b hb), fun b hS => ⟨Nat.lt_of_lt_of_le hS h.1.size, fun p hp => by have := (h.2.1 p hp).1; have hS : b < w.heap.size := hS; omega⟩, fun W' h1 h2 => hP W' (Nat.le_trans h.1.size h1) (fun b hb => (h2 b hb).trans (h.1.block b hb))⟩
end
theorem row_made : (Tryz.prog.info? 56).map (fun i => (i.zero.map (·.cells), i.size, i.bytes)) = some (some #[.slice none 0 0, .int .i64 0, .slice none 0 0, .int .i64 0, .slice none 0 0], 5, 88) := by kernel_rfl
theorem run_litR (A0 : Option Addr) (n0 c0 : Nat) (s t : Int) (A B : Option Addr) (n c m d : Nat) (W : World) : (Instr.buildSlice 22 1 #[(0, .agg #[.slice A0 n0 c0, .int .i64 s, .slice A n c, .int .i64 t, .slice B m d])]).run Tryz.prog W = .ok (.slice (some ⟨W.heap.size, 0, none⟩) 1 1) (W.alloc (.cells #[.slice A0 n0 c0, .int .i64 s, .slice A n c, .int .i64 t, .slice B m d] 56)) := by kernel_rfl
end Go.Proofs.YtdlcglndhhndpaaGreat
