/- Walk over the statement BallotHides. Conditions stand in the theorem. -/
import Derived.Test.YtfidjhhpcjmioaaL8
namespace Go.Proofs.Ytfidjhhpcjmioaa
open Go.RowKit Alg
set_option linter.unusedVariables false

set_option maxRecDepth 100000 in
set_option maxHeartbeats 2000000 in
theorem ballotHides_walk (m : Int) (y : Bool) (s t k : Int) (U : Option Addr) (q capu : Nat) (order : List Int) (w : World)
    (h0 : I64 m) (h0' : I64 s) (h1 : 0 ≤ t ∧ t ≤ 255) (h2 : 0 ≤ k ∧ k ≤ 255) (ru : RdU w w.heap.size U q capu order) (wf : ∀ x ∈ order, 0 ≤ x ∧ x ≤ 255) :
    Calls Try.prog 11 #[.agg #[.int .i64 m, .bool y, .int .i64 s], .int .u8 t, .int .u8 k, .slice U q capu] w fun e w' => e = .returned (.bool true) ∧ Below w.heap.size w w' := by
  have hcapu := ru.caps
  have hbox : ∀ w1, Below (w.alloc (Obj.cells #[.int .i64 m, .bool y, .int .i64 s] 43)).heap.size (w.alloc (Obj.cells #[.int .i64 m, .bool y, .int .i64 s] 43)) w1 → w1.cell? ⟨w.heap.size, 0, none⟩ = some (.int .i64 m) ∧ w1.cell? ⟨w.heap.size, 1, none⟩ = some (.bool y) ∧ w1.cell? ⟨w.heap.size, 2, none⟩ = some (.int .i64 s) ∧ w.heap.size < w1.heap.size ∧ Below w.heap.size w w1 := fun w1 hb1 =>
    ⟨(hb1.cell (by simp)).trans (by simp), (hb1.cell (by simp)).trans (by simp), (hb1.cell (by simp)).trans (by simp), by have := hb1.size; simp at this; omega, ((Below.refl w.heap.size w).alloc (Nat.le_refl _) _).trans (hb1.mono (by simp))⟩
  have Hbox := Lib.hid hbox; clear hbox
  by_cases h30 : 30 < q
  · have hd : decide ((30 : Int) < (q : Int)) = true := by simp; omega
    go_enter Try.func11, Try.ntmps11
    go_wp2_with (go_at_call 23; refine (bsmall_any _).mono ?_; rintro e w1 ⟨rfl, hb1⟩)
    go_ret
    exact ⟨rfl, (Hbox.out _ hb1).2.2.2.2⟩
  have hd30 : decide ((30 : Int) < (q : Int)) = false := by simp; omega
  by_cases hm0 : m < 0
  · go_enter Try.func11, Try.ntmps11
    go_wp2_with (go_at_call 23; refine (bsmall_any _).mono ?_; rintro e w1 ⟨rfl, hb1⟩; obtain ⟨b0, b1, b2, blt, hb01⟩ := Hbox.out _ hb1)
    go_ret
    exact ⟨rfl, hb01⟩
  have hdm : decide (m < 0) = false := by simp; omega
  by_cases hm4 : 4000 ≤ m
  · go_enter Try.func11, Try.ntmps11
    go_wp2_with (go_at_call 23; refine (bsmall_any _).mono ?_; rintro e w1 ⟨rfl, hb1⟩; obtain ⟨b0, b1, b2, blt, hb01⟩ := Hbox.out _ hb1)
    go_ret
    exact ⟨rfl, hb01⟩
  have hdm4 : decide (4000 ≤ m) = false := by simp; omega
  have hmem : memF m = true := by simp [memF]; omega
  obtain ⟨T, hT⟩ : ∃ T : Nat, (T : Int) = 1 + t % 20 := ⟨(1 + t % 20).toNat, by omega⟩
  have hr1 := Int.emod_nonneg k (show 1 + t % 20 ≠ 0 by omega)
  have hr2 := Int.emod_lt_of_pos k (show 0 < 1 + t % 20 by omega)
  obtain ⟨K, hK⟩ : ∃ K : Nat, (K : Int) = 1 + k % (1 + t % 20) := ⟨(1 + k % (1 + t % 20)).toNat, by omega⟩
  have hT1 : 1 ≤ T := by omega
  have hT2 : T ≤ 20 := by omega
  have hK1 : 1 ≤ K := by omega
  have hK2 : K ≤ T := by omega
  have hscene := fun w => scene_any t k w h1 h2
  rw [← hT] at hscene hK
  rw [← hK] at hscene
  have hcast := fun w => cast_fine m y T K s w hmem hK1 hK2 hT2 h0'
  have hsl := splitL_len (yesI y) K s T
  have hsub := chosenF_sub (splitL (yesI y) K s T) order (by rw [splitL_len]; omega) (fun x hx => (wf x hx).1) q (by rw [ru.len]; omega)
  have hnd := chosenF_nodup (splitL (yesI y) K s T) order q
  have hcl := chosenF_len (splitL (yesI y) K s T) order q
  have hpj := fun (h : K ≤ (chosenF (splitL (yesI y) K s T) order q).length) => (part_join hK1 (by omega) hT2 (yesI_inF y) hsub hnd h).2
  have hpf := fun (h : (chosenF (splitL (yesI y) K s T) order q).length < K) => (part_few hK1 (by omega) hT2 hsub hnd h).2
  have Hch := Lib.hid (fun A n c w hl ho => bchosen_any A U n q c capu (splitL (yesI y) K s T) order w hl ho wf (by omega))
  generalize chosenF (splitL (yesI y) K s T) order q = some_ at *
  generalize splitL (yesI y) K s T = L at *
  have Hscene := Lib.hid hscene; have Hcast := Lib.hid hcast; have Hpj := Lib.hid hpj; have Hpf := Lib.hid hpf; have Hsl := Lib.hid hsl
  have hMM : ((T : Int) != (T : Int)) = false := by simp
  have hmm : (m != m) = false := by simp
  clear hscene hcast hsub hnd hpj hpf hsl hT hK hr1 hr2 h1 h2 h0 h0' hmem
  have e1y : ((1 : Int) == yesI y) = y := by cases y <;> rfl
  have e0y : ((0 : Int) == yesI y) = !y := by cases y <;> rfl
  have E1 := Lib.hid e1y; have E0 := Lib.hid e0y; clear e1y e0y
  have hyy : (y == y) = true := by simp
  have hnn : ((!y) == (!y)) = true := by simp
  all_goals
    go_enter Try.func11, Try.ntmps11
    go_wp2_with (go_at_call 23; refine (bsmall_any _).mono ?_; rintro e w1 ⟨rfl, hb1⟩; obtain ⟨b0, b1, b2, blt, hb01⟩ := Hbox.out _ hb1)
    refine (Hscene.out _).mono ?_
    rintro e w2 ⟨rfl, hb2⟩
    have d0 := (hb2.cell blt).trans b0
    have d1 := (hb2.cell blt).trans b1
    have d2 := (hb2.cell blt).trans b2
    have dlt := Nat.lt_of_lt_of_le blt hb2.size
    have hb02 := hb01.trans (hb2.mono hb01.size)
    clear b0 b1 b2 blt hb1 hb2
    go_wp2_with fail
    refine (Hcast.out _).mono ?_
    rintro e w3 ⟨A3, c3, rfl, r3, -, hb3⟩
    have b0 := (hb3.cell dlt).trans d0
    have b1 := (hb3.cell dlt).trans d1
    have blt := Nat.lt_of_lt_of_le dlt hb3.size
    have hb03 := hb02.trans (hb3.mono hb02.size)
    clear d0 d1 d2 dlt hb3
    go_wp2_with fail
    have hbA := (Below.refl w3.heap.size w3).alloc (Nat.le_refl _) (Obj.cells #[.int .i64 m, .slice A3 T c3] 47)
    have hb04 := hb03.trans (hbA.mono hb03.size)
    have r4 := r3.up (flat_lasts _) hbA
    have d1 := (hbA.cell blt).trans b1
    have dlt := Nat.lt_of_lt_of_le blt hbA.size
    refine (Hch.out _ _ _ _ r4 (ru.up (flat_lasts _) hb04)).mono ?_
    rw [if_neg (by omega)]
    rintro e w5 ⟨v5, rfl, ho5, hb5⟩
    have hb05 := hb04.trans (hb5.mono hb04.size)
    have b1' := (hb5.cell dlt).trans d1
    have blt' := Nat.lt_of_lt_of_le dlt hb5.size
    obtain ⟨A5, c5, rfl, r5⟩ := ho5.rd pSized (by omega)
    obtain ⟨N, hN⟩ : ∃ N, N = some_.length := ⟨_, rfl⟩
    have HN := Lib.hid hN
    rw [← hN] at r5 hcl ⊢
    clear ho5 hN b0 b1 blt d1 dlt hb5 hbA r3 r4
    by_cases hKN : K ≤ N
    · have hge : (K : Int) ≤ (N : Int) := by omega
      have Hf1 := Lib.hid ((Hpj.out (by rw [← HN.out]; exact hKN) 1 (by decide)).trans E1.out)
      have Hf0 := Lib.hid ((Hpj.out (by rw [← HN.out]; exact hKN) 0 (by decide)).trans E0.out)
      go_wp2_with fail
      go_region_held3 (fun w' => w'.cell? ⟨w.heap.size, 1, none⟩ = some (.bool y))
        (first | exact b1' | exact c1' | exact e1')
        (first
          | (go_at_call 18; (with_reducible refine (fits_any A5 N c5 some_ K 1 _ (Rd.drewN (flat_lasts _) r5 1) (by omega)).mono ?_); rw [Hf1.out]; rintro e w6 ⟨rfl, hb6⟩
             have c1' := (hb6.cell blt').trans b1'
             have clt' := Nat.lt_of_lt_of_le blt' hb6.size
             have hb56 : Below w5.heap.size w5 w6 := (Below.refl _ w5).drew.trans hb6)
          | (go_at_call 18; (with_reducible refine (fits_any A5 N c5 some_ K 0 _ (r5.up (flat_lasts _) hb56) (by omega)).mono ?_); rw [Hf0.out]; rintro e w7 ⟨rfl, hb7⟩
             have e1' := (hb7.cell clt').trans c1'))
      go_wp2
      go_ret
      exact ⟨by simp, hb05.trans ((hb56.trans (hb7.mono hb56.size)).mono hb05.size)⟩
    · have hge : (N : Int) < (K : Int) := by omega
      have Hf1 := Lib.hid (Hpf.out (by rw [← HN.out]; omega) 1 (by decide))
      have Hf0 := Lib.hid (Hpf.out (by rw [← HN.out]; omega) 0 (by decide))
      go_wp2_with fail
      refine (fits_any A5 N c5 some_ K 0 w5 r5 (by omega)).mono ?_
      rw [Hf0.out]
      rintro e w6 ⟨rfl, hb6⟩
      go_wp2_with fail
      refine (fits_any A5 N c5 some_ K 1 w6 (r5.up (flat_lasts _) hb6) (by omega)).mono ?_
      rw [Hf1.out]
      rintro e w7 ⟨rfl, hb7⟩
      go_wp2_with fail
      go_ret
      exact ⟨rfl, hb05.trans ((hb6.trans (hb7.mono hb6.size)).mono hb05.size)⟩
end Go.Proofs.Ytfidjhhpcjmioaa
