/- Plain words: what Solve returns has a certificate that Check accepts; what Check accepts is a certificate; the examples. No condition. -/
import Derived.Test.YtmcamadcoglodaaS1
namespace Go.Proofs.Ytmcamadcoglodaa
open Go.RowKit
set_option linter.unusedVariables false

section
variable {cl : List (List Int)} {m n : Nat} {T : Nat → Nat} {R K : Nat → Int}
theorem ofF_gi {k : Nat} {f : Nat → Int} {i : Nat} (hi : i < k) : gi (ofF k f) i = f i := gi_eq (ofF_get hi)
/-- an assignment, as Check and Cost ask it -/
theorem as_ass (hm : m = cl.length) (hn : n = wid cl) (h : As m n T) : assC cl (ofF m (fun r => ((T r : Nat) : Int))) = true := by
  refine assC_iff.2 ⟨by rw [ofF_len]; exact hm, fun i hi => ?_⟩
  rw [ofF_len] at hi
  have h1 := h.1 i hi
  refine okA_iff.2 ⟨inB_iff.2 ?_, fun k hk => ?_⟩
  · rw [toL_at hi]; omega
  · rw [toL_at hi, toL_at (show k < m by omega)]
    intro e
    have := h.2 k i (by omega) hi (by omega)
    omega
theorem ce_chk (hr : rightC cl = true) (hm : m = cl.length) (hn : n = wid cl) (h : Ce m n (tb cl) T R K) (hR : ∀ r, r < m → 0 ≤ R r ∧ R r ≤ 1000000000) (hK : ∀ k, k < n → -1000000000 ≤ K k ∧ K k ≤ 0) :
    ChkP cl (ofF m (fun r => ((T r : Nat) : Int))) (ofF m R) (ofF n K) where
  right := hr
  ass := as_ass hm hn h.1
  lr := by rw [ofF_len]; exact hm
  lk := by rw [ofF_len]; exact hn
  rb := fun i hi => by rw [ofF_gi (by omega)]; have := hR i (by omega); omega
  kb := fun k hk => by rw [ofF_gi (by omega)]; have := hK k (by omega); omega
  pair := fun i k hi hk => by
    rw [ofF_gi (by omega), ofF_gi (by omega), toL_at (by omega)]
    refine ⟨h.feas i k (by omega) (by omega), fun e => ?_⟩
    have h1 := h.tight i (by omega)
    rw [show T i = k by omega] at h1
    omega
  free := fun k hk h0 => by
    rw [ofF_gi (by omega)] at h0
    refine Classical.byContradiction fun hno => h0 (h.free k (by omega) fun r hr e => hno ⟨r, by omega, by rw [toL_at hr, e]⟩)
/-- what Check accepts is a certificate -/
theorem chk_ce {ta RL KL : List Int} (h : ChkP cl ta RL KL) : Ce cl.length (wid cl) (tb cl) (fun r => (gi ta r).toNat) (gi RL) (gi KL) := by
  obtain ⟨h1, h2⟩ := assC_iff.1 h.ass
  have hin : ∀ r, r < cl.length → 0 ≤ gi ta r ∧ gi ta r < (wid cl : Int) := fun r hr => by
    have := inB_iff.1 (okA_iff.1 (h2 r (by omega))).1
    omega
  refine ⟨⟨fun r hr => by have := hin r hr; show (gi ta r).toNat < _; omega, fun r r' hr hr' e => ?_⟩, fun r k hr hk => (h.pair r k hr hk).1, fun r hr => ?_, fun k hk => (h.kb k hk).2, fun k hk hno => ?_⟩
  · have e2 : (gi ta r).toNat = (gi ta r').toNat := e
    have h3 := hin r hr
    have h4 := hin r' hr'
    rcases Nat.lt_trichotomy r r' with q | q | q
    · exact absurd (by omega) ((okA_iff.1 (h2 r' (by omega))).2 r q)
    · exact q
    · exact absurd (by omega) ((okA_iff.1 (h2 r (by omega))).2 r' q)
  · have h3 := hin r hr
    exact ((h.pair r (gi ta r).toNat hr (by omega)).2 (by omega)).symm
  · refine Classical.byContradiction fun h0 => ?_
    obtain ⟨i, hi, e⟩ := h.free k hk h0
    exact hno i hi (by show (gi ta i).toNat = k; omega)
end
theorem ex_own : ChkP (exL 0) [1, 0] [3, 2] [0, -2, 0] where
  right := by decide
  ass := by decide
  lr := rfl
  lk := rfl
  rb := fun i hi => by
    have h : i = 0 ∨ i = 1 := by have : i < 2 := hi; omega
    rcases h with rfl | rfl <;> exact ⟨by decide, by decide⟩
  kb := fun k hk => by
    have h : k = 0 ∨ k = 1 ∨ k = 2 := by have : k < 3 := hk; omega
    rcases h with rfl | rfl | rfl <;> exact ⟨by decide, by decide⟩
  pair := fun i k hi hk => by
    have h1 : i = 0 ∨ i = 1 := by have : i < 2 := hi; omega
    have h2 : k = 0 ∨ k = 1 ∨ k = 2 := by have : k < 3 := hk; omega
    rcases h1 with rfl | rfl <;> rcases h2 with rfl | rfl | rfl <;> exact ⟨by decide, by decide⟩
  free := fun k hk h0 => by
    have h : k = 0 ∨ k = 1 ∨ k = 2 := by have : k < 3 := hk; omega
    rcases h with rfl | rfl | rfl
    · exact ⟨1, by decide, by decide⟩
    · exact ⟨0, by decide, by decide⟩
    · exact absurd (by decide) h0
theorem ex_cost : costV (exL 0) [1, 0] = 3 ∧ costE (exL 0) [1, 0] = 0 ∧ rightC (exL 0) = true := ⟨by decide, by decide, by decide⟩
theorem ex_reg : regC (exL 0) (exL 2) [1, 0] = true := by decide
theorem ex_regret {r : Int} (h : RegretYes 2 3 (exL 0) (exL 2) [1, 0] r) : r = 4 := by
  obtain ⟨T, hA, hl, he⟩ := h
  have hB : As 2 3 (fun r => if r = 0 then 2 else 1) := ⟨fun r hr => by show (if r = 0 then 2 else 1) < 3; split <;> omega, fun r r' h1 h2 e => by
    have e2 : (if r = 0 then 2 else 1) = (if r' = 0 then 2 else 1) := e
    split at e2 <;> split at e2 <;> omega⟩
  have h1 := hl _ hB
  have hc : costF 2 (worF (exL 0) (exL 2) [1, 0]) (fun r => if r = 0 then 2 else 1) = 3 := by decide
  have hs : sumN (fun i => worF (exL 0) (exL 2) [1, 0] i (gi [1, 0] i).toNat) 2 = 7 := by decide
  rw [hc] at h1
  rw [hs] at he
  have h0 := hA.1 0 (by omega)
  have h01 := hA.1 1 (by omega)
  have h2 : T 0 ≠ T 1 := fun e => by have := hA.2 0 1 (by omega) (by omega) e; omega
  have hsum : costF 2 (worF (exL 0) (exL 2) [1, 0]) T = 0 + worF (exL 0) (exL 2) [1, 0] 0 (T 0) + worF (exL 0) (exL 2) [1, 0] 1 (T 1) := rfl
  have d0 : worF (exL 0) (exL 2) [1, 0] 0 0 = 4 := by decide
  have d1 : worF (exL 0) (exL 2) [1, 0] 0 1 = 3 := by decide
  have d2 : worF (exL 0) (exL 2) [1, 0] 0 2 = 3 := by decide
  have d3 : worF (exL 0) (exL 2) [1, 0] 1 0 = 4 := by decide
  have d4 : worF (exL 0) (exL 2) [1, 0] 1 1 = 0 := by decide
  have d5 : worF (exL 0) (exL 2) [1, 0] 1 2 = 5 := by decide
  rw [hsum] at h1 he
  have c0 : T 0 = 0 ∨ T 0 = 1 ∨ T 0 = 2 := by omega
  have c1 : T 1 = 0 ∨ T 1 = 1 ∨ T 1 = 2 := by omega
  rcases c0 with c0 | c0 | c0 <;> rcases c1 with c1 | c1 | c1 <;> rw [c0, c1] at h2 h1 he <;> first | exact absurd rfl h2 | (simp only [d0, d1, d2, d3, d4, d5] at h1 he; omega)
end Go.Proofs.Ytmcamadcoglodaa
