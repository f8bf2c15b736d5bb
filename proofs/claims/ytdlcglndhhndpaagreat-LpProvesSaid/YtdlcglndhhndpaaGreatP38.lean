/- Laws and walks; conditions stand in each theorem. -/
import Derived.Test.YtdlcglndhhndpaaGreatP37
set_option linter.unusedSimpArgs false
set_option linter.unusedVariables false
namespace Go.Proofs.YtdlcglndhhndpaaGreat
open Go.RowKit
section
variable {m n : Nat} {A : Nat → Nat → Rat} {b c : Nat → Rat}
theorem Cd.addS {x o : Nat → Rat} (hn : n ≤ 4) (h : Cd 21 n x) (ho : ∀ j, j < n → Pt 1 (o j)) : Cd 26 n (fun j => o j + x j) := by
 obtain ⟨d, h1, h2, h3⟩ := h
 have g1 := prD_pos o n
 have g2 := prD_le4 hn ho
 have g3 : ∀ k, k < n → IsI (o k * ((prD o n : Int) : Rat)) (pw 4) := fun k hk => (prD_int ho k hk).mono (pw_le hn)
 generalize prD o n = G at g1 g2 g3
 have p1 : pw 4 * pw 21 = pw 25 := by decide +kernel
 have p2 : 2 * pw 25 ≤ pw 26 - 1 := by decide +kernel
 have p3 := pw_pos 4
 have p4 := pw_pos 21
 have p5 := pw_pos 25
 refine ⟨G * d, ?_, ?_, fun u hu => ?_⟩
 · rw [Rat.intCast_mul]
   intro e
   rcases Rat.mul_eq_zero.1 e with e | e
   · exact int_ne g1 e
   · exact h1 e
 · rw [Int.natAbs_mul]
   push_cast
   have : (G.natAbs : Int) * (d.natAbs : Int) ≤ pw 4 * pw 21 := Int.mul_le_mul (by omega) (by omega) (by omega) (Int.le_of_lt p3)
   rw [p1] at this
   omega
 · have e2 : (o u + x u) * (((G * d) : Int) : Rat) = (o u * ((G : Int) : Rat)) * ((d : Int) : Rat) + ((G : Int) : Rat) * (x u * ((d : Int) : Rat)) := by
    rw [Rat.intCast_mul]
    grind
   show IsI ((o u + x u) * (((G * d) : Int) : Rat)) (pw 26 - 1)
   rw [e2]
   have q1 := (g3 u hu).mul ((IsI.of d).mono (Int.le_of_lt h2))
   have q2 := ((IsI.of G).mono (show (G.natAbs : Int) ≤ pw 4 by omega)).mul ((h3 u hu).mono (show pw 21 - 1 ≤ pw 21 by omega))
   exact (q1.add q2).mono (by rw [p1]; omega)
theorem add_fit {x o : Nat → Rat} (h : Cd 21 n x) (ho : ∀ j, j < n → Pt 1 (o j)) : ∀ j, j < n → addK (o j) (x j) = true ∧ fitsF (o j + x j) = true := fun j hj => by
 have := (ho j hj).add (h.pt j hj) (by omega)
 exact ⟨this.1, addK_fits this.1⟩
theorem more_sol {x o : Nat → Rat} (h : CerR m n A c x) (ho : Sol m n A b o) : Sol m n A b (fun j => o j + x j) ∧ smQ (fun j => c j * o j) n < smQ (fun j => c j * (o j + x j)) n := by
 have e : ∀ f : Nat → Rat, smQ (fun j => f j * (o j + x j)) n = smQ (fun j => f j * o j) n + smQ (fun j => f j * x j) n := fun f => by
  rw [← smQ_add]
  exact smQ_congr fun j _ => by grind
 refine ⟨⟨fun u hu => ?_, fun i hi => ?_⟩, ?_⟩
 · have h1 := ho.1 u hu
   have h2 := h.1.1 u hu
   show 0 ≤ o u + x u
   grind
 · rw [e]
   have h1 := ho.2 i hi
   have h2 := h.1.2 i hi
   grind
 · rw [e]
   have := h.2
   grind
theorem more_all {x o : Nat → Rat} (hS : SmP m n A b c) (h : LpSays m n A b c (.ray x)) (hs : ∀ j, j < n → Pt 1 (o j)) (ho : Sol m n A b o) : belB m n A b (fun j => o j + x j) = true ∧ prdK c (fun j => o j + x j) n = true ∧ smQ (fun j => c j * o j) n < smQ (fun j => c j * (o j + x j)) n := by
 have hc := h.isR
 have hd : Cd 21 n x := h.cd hS
 have hd2 := hd.addS hS.n4 hs
 have hm := more_sol hc ho
 exact ⟨bel_fit (b' := b) hS hd2 (by omega) fun i hi => hm.1.2 i hi, gol_fit hS hd2 (by omega), hm.2⟩
theorem best_all {x y o : Nat → Rat} (h : LpSays m n A b c (.best x y)) (ho : Sol m n A b o) : smQ (fun j => c j * o j) n ≤ smQ (fun j => c j * x j) n := by
 have hc := h.isB
 have h1 := weak ho hc.2.1
 rw [hc.2.2] at h1
 exact h1
theorem none_all {y o : Nat → Rat} (h : LpSays m n A b c (.none y)) (ho : Sol m n A b o) : False := cerN_no h.isN ho
end
end Go.Proofs.YtdlcglndhhndpaaGreat
