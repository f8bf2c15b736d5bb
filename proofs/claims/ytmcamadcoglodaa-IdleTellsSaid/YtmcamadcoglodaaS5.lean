/- Plain words for the statement IdleBest: what assignments cost, and which comes first. No condition. -/
import Derived.Test.YtmcamadcoglodaaS4
namespace Go.Proofs.Ytmcamadcoglodaa
open Go.RowKit
set_option linter.unusedVariables false

section
variable {cl : List (List Int)} {ta : List Int} {T : Nat → Nat}
theorem ass_as (h : assC cl ta = true) : As cl.length (wid cl) (fun r => (gi ta r).toNat) := by
  obtain ⟨h1, h2⟩ := assC_iff.1 h
  have hin : ∀ r, r < cl.length → 0 ≤ gi ta r ∧ gi ta r < (wid cl : Int) := fun r hr => by
    have := inB_iff.1 (okA_iff.1 (h2 r (by omega))).1
    omega
  refine ⟨fun r hr => by have := hin r hr; show (gi ta r).toNat < _; omega, fun r r' hr hr' e => ?_⟩
  have e2 : (gi ta r).toNat = (gi ta r').toNat := e
  have h3 := hin r hr
  have h4 := hin r' hr'
  rcases Nat.lt_trichotomy r r' with q | q | q
  · exact absurd (by omega) ((okA_iff.1 (h2 r' (by omega))).2 r q)
  · exact q
  · exact absurd (by omega) ((okA_iff.1 (h2 r (by omega))).2 r' q)
theorem ass_at (h : assC cl ta = true) {r : Nat} (hr : r < cl.length) : 0 ≤ gi ta r ∧ gi ta r < (wid cl : Int) := by
  obtain ⟨h1, h2⟩ := assC_iff.1 h
  have := inB_iff.1 (okA_iff.1 (h2 r (by omega))).1
  omega
theorem costV_ok (h : okC cl ta = true) : costV cl ta = costF cl.length (tb cl) (fun r => (gi ta r).toNat) := by
  rw [costV, if_pos h, (assC_iff.1 (okC_iff.1 h).2).1]; rfl
theorem costE_ok (h : okC cl ta = true) : costE cl ta = 0 := by rw [costE, if_pos h]
theorem costE_no (h : okC cl ta = false) : costE cl ta = 1 := by rw [costE, if_neg (by rw [h]; simp)]
theorem costV_no (h : okC cl ta = false) : costV cl ta = 0 := by rw [costV, if_neg (by rw [h]; simp)]
/-- an assignment that is given by a function, as a list -/
theorem as_ok (hr : rightC cl = true) (h : As cl.length (wid cl) T) : okC cl (ofF cl.length (fun r => ((T r : Nat) : Int))) = true ∧ costV cl (ofF cl.length (fun r => ((T r : Nat) : Int))) = costF cl.length (tb cl) T := by
  have h1 : okC cl (ofF cl.length (fun r => ((T r : Nat) : Int))) = true := okC_iff.2 ⟨hr, as_ass rfl rfl h⟩
  refine ⟨h1, ?_⟩
  rw [costV_ok h1]
  unfold costF
  exact sumN_congr _ fun r hr => by
    show tb cl r (gi (ofF cl.length (fun r => ((T r : Nat) : Int))) r).toNat = tb cl r (T r)
    rw [toL_at hr, Int.toNat_natCast]
theorem chk_cost (hF : First cl.length (wid cl) (tb cl) T) {R K : List Int} (h : ChkP cl ta R K) : costV cl ta = costF cl.length (tb cl) T := by
  have h1 : okC cl ta = true := okC_iff.2 ⟨h.right, h.ass⟩
  rw [costV_ok h1]
  have h2 := (chk_ce h).least hF.1
  have h3 := hF.2.1 _ (ass_as h.ass)
  omega
theorem first_cost (hF : First cl.length (wid cl) (tb cl) T) (h : okC cl ta = true) : costF cl.length (tb cl) T ≤ costV cl ta ∧ (costV cl ta = costF cl.length (tb cl) T → ¬ BefL ta (ofF cl.length (fun r => ((T r : Nat) : Int)))) := by
  have ha := (okC_iff.1 h).2
  have h1 := hF.2.1 _ (ass_as ha)
  rw [costV_ok h]
  refine ⟨h1, fun he hb => hF.2.2 _ (ass_as ha) he ?_⟩
  obtain ⟨r, h2, h3, h4, h5⟩ := hb
  rw [ofF_len] at h3
  rw [toL_at (T := T) h3] at h5
  refine ⟨r, h3, fun q hq => ?_, ?_⟩
  · have := h4 q hq
    rw [toL_at (T := T) (by omega)] at this
    show (gi ta q).toNat = T q
    omega
  · have := ass_at ha h3
    show (gi ta r).toNat < T r
    omega
end
end Go.Proofs.Ytmcamadcoglodaa
