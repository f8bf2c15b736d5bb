/- Walk over the table of the examples of the statements of layer 24; plain words of the examples. No condition. -/
import Derived.Test.YtmcamadcoglodaaQ13
namespace Go.Proofs.Ytmcamadcoglodaa
open Go.RowKit
set_option linter.unusedVariables false

theorem RdII.two {w : World} {B g : Nat} {A0 A1 : Option Addr} {n0 n1 c0 c1 : Nat} {l0 l1 : List Int} (hB : g < B) (h0 : w.cell? ⟨g, 0, none⟩ = some (.slice A0 n0 c0)) (h1 : w.cell? ⟨g, 1, none⟩ = some (.slice A1 n1 c1)) (r0 : RdI w B A0 n0 c0 l0) (r1 : RdI w B A1 n1 c1 l1) : RdII w B (some ⟨g, 0, none⟩) 2 2 [l0, l1] := by
  refine ⟨rfl, Nat.le_refl _, ⟨by omega, by omega⟩, fun _ => ⟨g, 0, rfl, hB, fun k hk => ?_⟩⟩
  have hk2 : k = 0 ∨ k = 1 := by simp at hk; omega
  rcases hk2 with rfl | rfl
  · exact ⟨[.slice A0 n0 c0], ⟨A0, n0, c0, rfl, r0⟩, rfl, fun j u hu => by
      match j, hu with
      | 0, hu => simp at hu; subst hu; exact h0
      | j + 1, hu => simp at hu⟩
  · exact ⟨[.slice A1 n1 c1], ⟨A1, n1, c1, rfl, r1⟩, rfl, fun j u hu => by
      match j, hu with
      | 0, hu => simp at hu; subst hu; exact h1
      | j + 1, hu => simp at hu⟩
def exL (d : Int) : List (List Int) := [[4 + d, 1 + d, 3 + d], [2 + d, d, 5 + d]]
theorem table_any (d : Int) (hd : 0 ≤ d ∧ d ≤ 100) (w : World) : Calls Try.prog 26 #[.int .i64 d] w fun e w' => ∃ g, e = .returned (.slice (some ⟨g, 0, none⟩) 2 2) ∧ RdII w' w'.heap.size (some ⟨g, 0, none⟩) 2 2 (exL d) ∧ Below w.heap.size w w' := by
  have q1 : IntKind.i64.wrap (4 + d) = 4 + d := IntWalk.i64_in _ (by omega)
  have q2 : IntKind.i64.wrap (1 + d) = 1 + d := IntWalk.i64_in _ (by omega)
  have q3 : IntKind.i64.wrap (3 + d) = 3 + d := IntWalk.i64_in _ (by omega)
  have q4 : IntKind.i64.wrap (2 + d) = 2 + d := IntWalk.i64_in _ (by omega)
  have q5 : IntKind.i64.wrap (5 + d) = 5 + d := IntWalk.i64_in _ (by omega)
  go_enter Try.func26, Try.ntmps26
  go_wp2
  go_ret
  have hb1 := (Below.refl w.heap.size w).alloc (Nat.le_refl _) (.cells #[.int .i64 (4 + d), .int .i64 (1 + d), .int .i64 (3 + d)] 3)
  have hb2 := hb1.alloc hb1.size (.cells #[.int .i64 (2 + d), .int .i64 d, .int .i64 (5 + d)] 3)
  have r1 := Rd.litG iSized (w := w) 3 [4 + d, 1 + d, 3 + d] #[.int .i64 (4 + d), .int .i64 (1 + d), .int .i64 (3 + d)] 3 w.heap.size rfl rfl rfl (by omega)
  have r2 := Rd.litG iSized (w := w.alloc (.cells #[.int .i64 (4 + d), .int .i64 (1 + d), .int .i64 (3 + d)] 3)) 3 [2 + d, d, 5 + d] #[.int .i64 (2 + d), .int .i64 d, .int .i64 (5 + d)] 3 (w.heap.size + 1) (by simp) rfl rfl (by omega)
  have HZ : ((w.alloc (.cells #[.int .i64 (4 + d), .int .i64 (1 + d), .int .i64 (3 + d)] 3)).alloc (.cells #[.int .i64 (2 + d), .int .i64 d, .int .i64 (5 + d)] 3)).heap.size = w.heap.size + 1 + 1 := by simp
  generalize w.alloc (.cells #[.int .i64 (4 + d), .int .i64 (1 + d), .int .i64 (3 + d)] 3) = wa at *
  have r1b := r1.up (flat_lasts _) ((Below.refl wa.heap.size wa).alloc (Nat.le_refl _) (.cells #[.int .i64 (2 + d), .int .i64 d, .int .i64 (5 + d)] 3))
  generalize wa.alloc (.cells #[.int .i64 (2 + d), .int .i64 d, .int .i64 (5 + d)] 3) = wb at *
  have hz : wb.heap.size = w.heap.size + 1 + 1 := HZ
  have hbC := (Below.refl wb.heap.size wb).alloc (Nat.le_refl _) (.cells #[.slice (some ⟨w.heap.size, 0, none⟩) 3 3, .slice (some ⟨w.heap.size + 1, 0, none⟩) 3 3] 23)
  refine ⟨w.heap.size + 1 + 1, rfl, ?_, hb2.trans (hbC.mono hb2.size)⟩
  exact RdII.two (by simp; omega) (new_cell hz rfl) (new_cell hz rfl) (r1b.up (flat_lasts _) hbC) (r2.up (flat_lasts _) hbC)
/-- the first of the cheapest assignments of the example -/
theorem ex_first {T : Nat → Nat} (h : First 2 3 (tb (exL 0)) T) : T 0 = 1 ∧ T 1 = 0 := by
  have hd0 : tb (exL 0) 0 0 = 4 := rfl
  have hd1 : tb (exL 0) 0 1 = 1 := rfl
  have hd2 : tb (exL 0) 0 2 = 3 := rfl
  have hd3 : tb (exL 0) 1 0 = 2 := rfl
  have hd4 : tb (exL 0) 1 1 = 0 := rfl
  have hd5 : tb (exL 0) 1 2 = 5 := rfl
  have hA : As 2 3 (fun r => if r = 0 then 1 else 0) := ⟨fun r hr => by show (if r = 0 then 1 else 0) < 3; split <;> omega, fun r r' h1 h2 e => by
    have e2 : (if r = 0 then 1 else 0) = (if r' = 0 then 1 else 0) := e
    split at e2 <;> split at e2 <;> omega⟩
  have hF : First 2 3 (tb (exL 0)) (fun r => if r = 0 then 1 else 0) := by
    have hc : costF 2 (tb (exL 0)) (fun r => if r = 0 then 1 else 0) = 3 := rfl
    have hall : ∀ F, As 2 3 F → (F 0 = 0 ∧ F 1 = 1 ∧ costF 2 (tb (exL 0)) F = 4) ∨ (F 0 = 0 ∧ F 1 = 2 ∧ costF 2 (tb (exL 0)) F = 9) ∨ (F 0 = 1 ∧ F 1 = 0 ∧ costF 2 (tb (exL 0)) F = 3) ∨ (F 0 = 1 ∧ F 1 = 2 ∧ costF 2 (tb (exL 0)) F = 6) ∨ (F 0 = 2 ∧ F 1 = 0 ∧ costF 2 (tb (exL 0)) F = 5) ∨ (F 0 = 2 ∧ F 1 = 1 ∧ costF 2 (tb (exL 0)) F = 3) := fun F h => by
      have h0 := h.1 0 (by omega)
      have h1 := h.1 1 (by omega)
      have h2 : F 0 ≠ F 1 := fun e => by have := h.2 0 1 (by omega) (by omega) e; omega
      have hs : costF 2 (tb (exL 0)) F = 0 + tb (exL 0) 0 (F 0) + tb (exL 0) 1 (F 1) := rfl
      rw [hs]
      have c0 : F 0 = 0 ∨ F 0 = 1 ∨ F 0 = 2 := by omega
      have c1 : F 1 = 0 ∨ F 1 = 1 ∨ F 1 = 2 := by omega
      rcases c0 with c0 | c0 | c0 <;> rcases c1 with c1 | c1 | c1 <;> rw [c0, c1] at h2 ⊢ <;> first | exact absurd rfl h2 | (simp [hd0, hd1, hd2, hd3, hd4, hd5])
    refine ⟨hA, fun F h => ?_, fun F h he hb => ?_⟩
    · rw [hc]
      rcases hall F h with h | h | h | h | h | h <;> omega
    · rw [hc] at he
      obtain ⟨r, r1, r2, r3⟩ := hb
      have hr : r = 0 ∨ r = 1 := by omega
      rcases hr with rfl | rfl
      · simp only [if_true] at r3
        rcases hall F h with h | h | h | h | h | h <;> omega
      · have := r2 0 (by omega)
        simp only [if_true] at this
        simp at r3
  have h1 := first_unique h hF
  exact ⟨h1 0 (by omega), h1 1 (by omega)⟩
end Go.Proofs.Ytmcamadcoglodaa
