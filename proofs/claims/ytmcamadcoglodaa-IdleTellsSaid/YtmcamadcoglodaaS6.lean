/- Plain laws of the statements IdleMore and IdleRegret. No condition. -/
import Derived.Test.YtmcamadcoglodaaS5
namespace Go.Proofs.Ytmcamadcoglodaa
open Go.RowKit
set_option linter.unusedVariables false

theorem First.congr {m n : Nat} {c c' : Nat → Nat → Int} {T : Nat → Nat} (h : First m n c T) (he : ∀ r k, r < m → k < n → c r k = c' r k) : First m n c' T := by
  have hc : ∀ F, As m n F → costF m c F = costF m c' F := fun F hF => costF_congr he hF.1
  refine ⟨h.1, fun F hF => by rw [← hc F hF, ← hc T h.1]; exact h.2.1 F hF, fun F hF e => h.2.2 F hF (by rw [hc F hF, hc T h.1]; exact e)⟩
theorem row_ofF {cl : List (List Int)} {i n : Nat} (h : (clAt cl i).length = n) : clAt cl i = ofF n (tb cl i) := by
  apply List.ext_getElem?
  intro j
  by_cases hj : j < n
  · rw [ofF_get hj, List.getElem?_eq_getElem (by omega)]
    congr 1
    exact (gi_eq (List.getElem?_eq_getElem (by omega))).symm
  · rw [List.getElem?_eq_none (by omega), List.getElem?_eq_none (by rw [ofF_len]; omega)]
section
variable {m n : Nat} {D : Nat → Nat → Int}
theorem tabL_len : (tabL m n D).length = m := ofF_len ..
theorem tabL_cl {i : Nat} (hi : i < m) : clAt (tabL m n D) i = ofF n (D i) := clAt_eq (ofF_get hi)
theorem tabL_wid (hm : 0 < m) : wid (tabL m n D) = n := by rw [wid, tabL_cl hm, ofF_len]
theorem tabL_right (hm : 1 ≤ m ∧ m ≤ 20) (hn : m ≤ n ∧ n ≤ 40) : rightC (tabL m n D) = true ↔ ∀ i k, i < m → k < n → 0 ≤ D i k ∧ D i k ≤ 1000000000 := by
  rw [rightC_iff, tabL_len, tabL_wid (by omega)]
  refine ⟨fun h i k hi hk => ?_, fun h => ⟨hm, hn, fun i hi => ?_⟩⟩
  · have h1 := (rowC_iff.1 (h.2.2 i hi)).2 k (by rw [tabL_wid (by omega)]; exact hk)
    rw [inB_iff, tabL_at hi hk] at h1
    exact h1
  · refine rowC_iff.2 ⟨by rw [tabL_cl hi, ofF_len, tabL_wid (by omega)], fun k hk => ?_⟩
    rw [tabL_wid (by omega)] at hk
    rw [inB_iff, tabL_at hi hk]
    exact h i k hi hk
theorem right_at {cl : List (List Int)} (hr : rightC cl = true) {i k : Nat} (hi : i < cl.length) (hk : k < wid cl) : 0 ≤ tb cl i k ∧ tb cl i k ≤ 1000000000 :=
  inB_iff.1 ((rowC_iff.1 ((rightC_iff.1 hr).2.2 i hi)).2 k hk)
/-- a table with one more column -/
def wideF (cl : List (List Int)) (n : Nat) (x : Nat → Int) : Nat → Nat → Int := fun i k => if k < n then tb cl i k else x i
theorem wide_right {cl : List (List Int)} {x : Nat → Int} (hr : rightC cl = true) (hn : wid cl ≤ 5) (hx : ∀ i, 0 ≤ x i ∧ x i ≤ 65535) : rightC (tabL cl.length (wid cl + 1) (wideF cl (wid cl) x)) = true := by
  obtain ⟨h1, h2, h3⟩ := rightC_iff.1 hr
  refine (tabL_right h1 (by omega)).2 fun i k hi hk => ?_
  unfold wideF
  by_cases e : k < wid cl
  · rw [if_pos e]; exact right_at hr hi e
  · rw [if_neg e]; have := hx i; omega
theorem wide_less {cl : List (List Int)} {x : Nat → Int} {T T' : Nat → Nat} (h : First m n (tb cl) T) (h' : First m (n + 1) (tb (tabL m (n + 1) (wideF cl n x))) T') : costF m (tb (tabL m (n + 1) (wideF cl n x))) T' ≤ costF m (tb cl) T := by
  have h1 := h'.2.1 T ⟨fun r hr => by have := h.1.1 r hr; omega, h.1.2⟩
  have h2 : costF m (tb (tabL m (n + 1) (wideF cl n x))) T = costF m (tb cl) T := sumN_congr m fun r hr => by
    have h3 := h.1.1 r hr
    rw [tabL_at hr (by omega)]
    unfold wideF
    rw [if_pos h3]
  omega
/-- a table with a number added to one row -/
def tallF (cl : List (List Int)) (a : Nat) (d : Int) : Nat → Nat → Int := fun i k => tb cl i k + if i = a then d else 0
theorem tall_right {cl : List (List Int)} {a : Nat} {d : Int} (hr : rightC cl = true) (ha : a < cl.length) (hd : 0 ≤ d) : rightC (tabL cl.length (wid cl) (tallF cl a d)) = true ↔ ∀ k, k < wid cl → tb cl a k + d ≤ 1000000000 := by
  obtain ⟨h1, h2, h3⟩ := rightC_iff.1 hr
  rw [tabL_right h1 h2]
  refine ⟨fun h k hk => ?_, fun h i k hi hk => ?_⟩
  · have := (h a k ha hk).2
    unfold tallF at this
    rw [if_pos rfl] at this
    exact this
  · have h4 := right_at hr hi hk
    unfold tallF
    by_cases e : i = a
    · subst e; rw [if_pos rfl]; have := h k hk; omega
    · rw [if_neg e]; omega
theorem sumN_one {a : Nat} {d : Int} : ∀ m, sumN (fun i => if i = a then d else 0) m = if a < m then d else 0
  | 0 => by simp [sumN]
  | m + 1 => by
    rw [sumN, sumN_one m]
    by_cases h : a < m
    · rw [if_pos h, if_neg (by omega), if_pos (by omega)]; omega
    · by_cases e : m = a
      · subst e; rw [if_neg (by omega), if_pos rfl, if_pos (by omega)]; omega
      · rw [if_neg h, if_neg e, if_neg (by omega)]; rfl
theorem tall_cost {cl : List (List Int)} {a : Nat} {d : Int} (ha : a < m) {F : Nat → Nat} (hF : As m n F) : costF m (tb (tabL m n (tallF cl a d))) F = costF m (tb cl) F + d := by
  have h1 : costF m (tb (tabL m n (tallF cl a d))) F = sumN (fun r => tb cl r (F r) + if r = a then d else 0) m := sumN_congr m fun r hr => by rw [tabL_at hr (hF.1 r hr)]; rfl
  rw [h1, sumN_plus (fun r => tb cl r (F r)) (fun r => if r = a then d else 0), sumN_one, if_pos ha]; rfl
theorem tall_same {cl : List (List Int)} {a : Nat} {d : Int} {T T' : Nat → Nat} (ha : a < m) (h : First m n (tb cl) T) (h' : First m n (tb (tabL m n (tallF cl a d))) T') : (∀ r, r < m → T' r = T r) ∧ costF m (tb (tabL m n (tallF cl a d))) T' = costF m (tb cl) T + d := by
  have h2 : First m n (tb cl) T' := ⟨h'.1, fun F hF => by
    have := h'.2.1 F hF
    rw [tall_cost ha hF, tall_cost ha h'.1] at this
    omega, fun F hF e => h'.2.2 F hF (by rw [tall_cost ha hF, tall_cost ha h'.1, e])⟩
  have h3 := first_unique h2 h
  refine ⟨h3, ?_⟩
  rw [tall_cost ha h'.1]
  have h4 : costF m (tb cl) T' = costF m (tb cl) T := sumN_congr m fun r hr => by rw [h3 r hr]
  rw [h4]
theorem worF_same {cl : List (List Int)} {ta : List Int} : worF cl cl ta = tb cl := by
  funext r k; unfold worF; split <;> rfl
/-- with equal bounds the best one has no regret -/
theorem reg_zero {cl : List (List Int)} {T : Nat → Nat} {r : Int} (h : First m n (tb cl) T) (hy : RegretYes m n cl cl (ofF m (fun r => ((T r : Nat) : Int))) r) : r = 0 := by
  obtain ⟨F, h1, h2, rfl⟩ := hy
  rw [worF_same] at h2 ⊢
  have h3 := h2 T h.1
  have h4 := h.2.1 F h1
  have h5 : sumN (fun i => tb cl i (gi (ofF m (fun r => ((T r : Nat) : Int))) i).toNat) m = costF m (tb cl) T := sumN_congr m fun i hi => by rw [toL_at hi, Int.toNat_natCast]
  rw [h5]
  omega
theorem bnd_same {cl : List (List Int)} (hr : rightC cl = true) : bndC cl cl = true := by
  rw [bndC, hr, decide_eq_true ⟨rfl, rfl⟩, leC_iff.2 fun i _ k _ => Int.le_refl _]; rfl
/-- costs between two bounds -/
def Btw (m n : Nat) (lo hi L : List (List Int)) : Prop := L.length = m ∧ ∀ i, i < m → (clAt L i).length = n ∧ ∀ k, k < n → tb lo i k ≤ tb L i k ∧ tb L i k ≤ tb hi i k
theorem btw_right {lo hi L : List (List Int)} (hb : bndC lo hi = true) (h : Btw lo.length (wid lo) lo hi L) : rightC L = true ∧ L.length = lo.length ∧ wid L = wid lo := by
  have hb2 := hb
  unfold bndC at hb2
  rw [Bool.and_eq_true, Bool.and_eq_true, Bool.and_eq_true, decide_eq_true_eq] at hb2
  obtain ⟨h1, h2, ⟨h3, h4⟩, h5⟩ := hb2
  obtain ⟨a1, a2, a3⟩ := rightC_iff.1 h1
  have hw : wid L = wid lo := (h.2 0 (by omega)).1
  refine ⟨rightC_iff.2 ⟨by rw [h.1]; exact a1, by rw [h.1, hw]; exact a2, fun i hi => ?_⟩, h.1, hw⟩
  rw [h.1] at hi
  refine rowC_iff.2 ⟨by rw [hw]; exact (h.2 i hi).1, fun k hk => inB_iff.2 ?_⟩
  rw [hw] at hk
  have e1 := (h.2 i hi).2 k hk
  have e2 := right_at h1 hi hk
  have e3 := right_at h2 (i := i) (k := k) (by omega) (by omega)
  omega
theorem gi_toNat {ta : List Int} {i k : Nat} (h : 0 ≤ gi ta i) : (k : Int) = gi ta i ↔ k = (gi ta i).toNat := by omega
/-- the regret is not less than what an assignment costs more than the best one -/
theorem btw_regret {lo hi L : List (List Int)} {ta : List Int} {r : Int} {T : Nat → Nat} (hA : As m n (fun i => (gi ta i).toNat)) (hp : ∀ i, i < m → 0 ≤ gi ta i) (h : ∀ i k, i < m → k < n → tb lo i k ≤ tb L i k ∧ tb L i k ≤ tb hi i k)
    (hy : RegretYes m n lo hi ta r) (hT : As m n T) : costF m (tb L) (fun i => (gi ta i).toNat) - costF m (tb L) T ≤ r := by
  obtain ⟨F, h1, h2, rfl⟩ := hy
  have h3 := h2 T hT
  have h4 : ∀ j, j ≤ m → sumN (fun i => tb L i (gi ta i).toNat) j - sumN (fun i => tb L i (T i)) j ≤ sumN (fun i => worF lo hi ta i (gi ta i).toNat) j - sumN (fun i => worF lo hi ta i (T i)) j := fun j => by
    induction j with
    | zero => intro _; simp [sumN]
    | succ j ih =>
      intro hj
      have h5 := ih (by omega)
      have e0 := hp j (by omega)
      have e1 : worF lo hi ta j (gi ta j).toNat = tb hi j (gi ta j).toNat := by unfold worF; rw [if_pos ((gi_toNat e0).2 rfl)]
      have b1 := h j (gi ta j).toNat (by omega) (hA.1 j (by omega))
      have b2 := h j (T j) (by omega) (hT.1 j (by omega))
      rw [sumN, sumN, sumN, sumN, e1]
      by_cases e : T j = (gi ta j).toNat
      · rw [e, e1]; omega
      · have e2 : worF lo hi ta j (T j) = tb lo j (T j) := by unfold worF; rw [if_neg (fun q => e ((gi_toNat e0).1 q))]
        rw [e2]; omega
  have h6 := h4 m (Nat.le_refl _)
  have h3' : sumN (fun i => worF lo hi ta i (F i)) m ≤ sumN (fun i => worF lo hi ta i (T i)) m := h3
  show sumN (fun i => tb L i (gi ta i).toNat) m - sumN (fun i => tb L i (T i)) m ≤ sumN (fun i => worF lo hi ta i (gi ta i).toNat) m - sumN (fun i => worF lo hi ta i (F i)) m
  omega
/-- and it is just that for the worst costs -/
theorem worst_regret {lo hi : List (List Int)} {ta : List Int} {r : Int} {T : Nat → Nat} (hA : As m n (fun i => (gi ta i).toNat)) (hy : RegretYes m n lo hi ta r) (hT : First m n (tb (tabL m n (worF lo hi ta))) T) :
    costF m (tb (tabL m n (worF lo hi ta))) (fun i => (gi ta i).toNat) - costF m (tb (tabL m n (worF lo hi ta))) T = r := by
  obtain ⟨F, h1, h2, rfl⟩ := hy
  have e1 : costF m (tb (tabL m n (worF lo hi ta))) (fun i => (gi ta i).toNat) = sumN (fun i => worF lo hi ta i (gi ta i).toNat) m := sumN_congr m fun i hi => tabL_at hi (hA.1 i hi)
  have e2 : ∀ F, As m n F → costF m (tb (tabL m n (worF lo hi ta))) F = costF m (worF lo hi ta) F := fun F hF => sumN_congr m fun i hi => tabL_at hi (hF.1 i hi)
  have h3 := h2 T hT.1
  have h4 := hT.2.1 F h1
  rw [e2 F h1, e2 T hT.1] at h4
  rw [e1, e2 T hT.1]
  omega
theorem bnd_parts {lo hi : List (List Int)} (hb : bndC lo hi = true) : rightC lo = true ∧ rightC hi = true ∧ lo.length = hi.length ∧ wid lo = wid hi ∧ ∀ i k, i < lo.length → k < wid lo → tb lo i k ≤ tb hi i k := by
  unfold bndC at hb
  rw [Bool.and_eq_true, Bool.and_eq_true, Bool.and_eq_true, decide_eq_true_eq] at hb
  obtain ⟨h1, h2, ⟨h3, h4⟩, h5⟩ := hb
  exact ⟨h1, h2, h3, h4, fun i k hi hk => leC_iff.1 h5 i hi k hk⟩
theorem worst_right {lo hi : List (List Int)} {ta : List Int} (hb : bndC lo hi = true) : rightC (tabL lo.length (wid lo) (worF lo hi ta)) = true := by
  obtain ⟨h1, h2, h3, h4, h5⟩ := bnd_parts hb
  obtain ⟨a1, a2, a3⟩ := rightC_iff.1 h1
  refine (tabL_right a1 a2).2 fun i k hi hk => ?_
  unfold worF
  split
  · exact right_at h2 (by omega) (by omega)
  · exact right_at h1 hi hk
end
end Go.Proofs.Ytmcamadcoglodaa
