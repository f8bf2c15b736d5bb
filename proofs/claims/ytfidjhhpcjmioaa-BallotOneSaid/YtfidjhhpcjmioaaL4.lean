/- Walk over the statement ShareJoins. Conditions stand in the theorem. -/
import Derived.Test.YtfidjhhpcjmioaaL3
import Derived.Test.YtfidjhhpcjmioaaShj
namespace Go.Proofs.Ytfidjhhpcjmioaa
open Go.RowKit
set_option linter.unusedVariables false

theorem chosenF_sub (l : List (Int × Int)) (order : List Int) (hl : 0 < l.length) (hu : ∀ x ∈ order, 0 ≤ x) : ∀ i, i ≤ order.length → ∀ x ∈ chosenF l order i, x ∈ l
  | 0, _, x, hx => by simp [chosenF] at hx
  | i + 1, hi, x, hx => by
    have ih := chosenF_sub l order hl hu i (by omega)
    have hfi : 0 ≤ fi order i := by
      have : fi order i = order[i] := by simp [fi, List.getD, show i < order.length by omega]
      rw [this]; exact hu _ (List.getElem_mem (by omega))
    have hlt : (fi order i % l.length).toNat < l.length := by
      have h1 := Int.emod_lt_of_pos (fi order i) (show (0 : Int) < l.length by omega)
      have h2 := Int.emod_nonneg (fi order i) (show (l.length : Int) ≠ 0 by omega)
      omega
    rw [chosenF] at hx
    split at hx
    · exact ih x hx
    · rw [List.mem_append] at hx
      rcases hx with hx | hx
      · exact ih x hx
      · rw [List.mem_singleton] at hx
        rw [hx]; exact fx_mem hlt
theorem chosenF_nodup (l : List (Int × Int)) (order : List Int) : ∀ i, (chosenF l order i).Nodup
  | 0 => by simp [chosenF]
  | i + 1 => by
    have ih := chosenF_nodup l order i
    rw [chosenF]
    split
    · exact ih
    · rename_i h
      rw [List.nodup_append]
      refine ⟨ih, by simp, fun a ha b hb => ?_⟩
      rw [List.mem_singleton] at hb
      rintro rfl
      rw [hb] at ha
      exact h ha

theorem shareJoins_walk (secret k n seed : Int) (U : Option Addr) (m capu : Nat) (order : List Int) (other : Int) (w : World)
    (h0 : -9223372036854775808 ≤ secret ∧ secret ≤ 9223372036854775807) (h1 : 0 ≤ k ∧ k ≤ 255) (h2 : 0 ≤ n ∧ n ≤ 255) (h3 : -9223372036854775808 ≤ seed ∧ seed ≤ 9223372036854775807)
    (rd : RdU w w.heap.size U m capu order) (wf : ∀ x ∈ order, 0 ≤ x ∧ x ≤ 255) (h5 : -9223372036854775808 ≤ other ∧ other ≤ 9223372036854775807) :
    Calls Try.prog 4 #[.int .i64 secret, .int .u8 k, .int .u8 n, .int .i64 seed, .slice U m capu, .int .i64 other] w fun e w' => e = .returned (.bool true) ∧ Below w.heap.size w w' := by
  obtain ⟨c1, c2, c3⟩ := rd.caps
  by_cases hm : (30 : Int) < (m : Int)
  · go_enter Try.func4, Try.ntmps4
    go_wp2_with (go_at_call 12; refine (small_any _).mono ?_; rintro e w1 ⟨rfl, hb1⟩)
    go_ret
    exact ⟨rfl, hb1⟩
  · have hS : inF (secret % 2147483647) = true := inF_mod _
    have hO : inF (other % 2147483647) = true := inF_mod _
    have hlo := rd.len
    obtain ⟨sec, hsec⟩ : ∃ s, s = secret % 2147483647 := ⟨_, rfl⟩
    obtain ⟨oth, hoth⟩ : ∃ s, s = other % 2147483647 := ⟨_, rfl⟩
    obtain ⟨M, hM⟩ : ∃ M : Nat, (M : Int) = 1 + n % 20 := ⟨(1 + n % 20).toNat, by omega⟩
    have hr1 := Int.emod_nonneg k (show 1 + n % 20 ≠ 0 by omega)
    have hr2 := Int.emod_lt_of_pos k (show 0 < 1 + n % 20 by omega)
    obtain ⟨K, hK⟩ : ∃ K : Nat, (K : Int) = 1 + k % (1 + n % 20) := ⟨(1 + k % (1 + n % 20)).toNat, by omega⟩
    have hM1 : 1 ≤ M := by omega
    have hM2 : M ≤ 20 := by omega
    have hK1 : 1 ≤ K := by omega
    have hK2 : K ≤ M := by omega
    rw [← hsec] at hS
    rw [← hoth] at hO
    have hnum := fun w => numbers_any secret k n w h0 h1 h2
    rw [← hsec, ← hK, ← hM] at hnum
    have hmod := fun w => mod_any other w h5.1 h5.2
    rw [← hoth] at hmod
    have Hnum := Lib.hid hnum; have Hmod := Lib.hid hmod
    have HS := Lib.hid hS; have HO := Lib.hid hO; have Hlo := Lib.hid hlo
    clear hnum hmod hsec hoth hM hK hr1 hr2 hS hO h0 h1 h2 h5 hlo
    go_enter Try.func4, Try.ntmps4
    go_wp2_with (go_at_call 12; refine (small_any _).mono ?_; rintro e w1 ⟨rfl, hb1⟩)
    refine (Hnum.out w1).mono ?_
    rintro e w2 ⟨rfl, hb2⟩
    have hb02 := hb1.trans (hb2.mono hb1.size)
    go_wp2_with fail
    refine (Hmod.out w2).mono ?_
    rintro e _ ⟨rfl, rfl⟩
    go_wp2_with fail
    refine (split_ok sec seed K M w2 HS.out hM1 hM2 hK1 hK2 h3.1 h3.2).mono ?_
    rintro e w3 ⟨v3, rfl, ho3, hb3⟩
    obtain ⟨A3, c3, rfl, r3⟩ := ho3.rd pSized (by rw [splitL_len]; omega)
    rw [splitL_len] at r3 ⊢
    clear ho3
    have hb03 := hb02.trans (hb3.mono hb02.size)
    have hMM : ((M : Int) != (M : Int)) = false := by simp
    go_wp2_with fail
    refine (chosen_any A3 U M m c3 capu _ order w3 r3 (rd.up (flat_lasts _) hb03) wf (by omega)).mono ?_
    rw [if_neg (by omega)]
    rintro e w4 ⟨v4, rfl, ho4, hb4⟩
    have hb04 := hb03.trans (hb4.mono hb03.size)
    have hcl := chosenF_len (splitL sec K seed M) order m
    have hsub := chosenF_sub (splitL sec K seed M) order (by rw [splitL_len]; omega) (fun x hx => (wf x hx).1) m (by rw [Hlo.out]; omega)
    have hnd := chosenF_nodup (splitL sec K seed M) order m
    generalize chosenF (splitL sec K seed M) order m = some_ at *
    obtain ⟨A4, c4, rfl, r4⟩ := ho4.rd pSized (by omega)
    obtain ⟨N, hN⟩ : ∃ N, N = some_.length := ⟨_, rfl⟩
    rw [← hN] at r4 hcl ⊢
    clear ho4
    by_cases hKN : K ≤ N
    · obtain ⟨hj, hf⟩ := part_join hK1 (by omega) hM2 HS.out hsub hnd (by omega)
      have Hj := Lib.hid hj; have Hf := Lib.hid hf; clear hj hf hsub hnd hN
      have hge : (K : Int) ≤ (N : Int) := by omega
      have hss : (sec == sec) = true := by simp
      go_wp2_with fail
      refine (join_any A4 N c4 some_ K w4 r4).mono ?_
      rw [Hj.out]
      rintro e w5 ⟨rfl, hb5⟩
      have hb45 := hb5
      go_wp2_with fail
      refine (fits_any A4 N c4 some_ K sec w5 (r4.up (flat_lasts _) hb5) (by omega)).mono ?_
      rw [Hf.out sec HS.out]
      rintro e w6 ⟨rfl, hb6⟩
      have hb46 := hb5.trans (hb6.mono hb5.size)
      go_wp2_with fail
      refine (fits_any A4 N c4 some_ K oth w6 (r4.up (flat_lasts _) hb46) (by omega)).mono ?_
      rw [Hf.out oth HO.out]
      rintro e w7 ⟨rfl, hb7⟩
      have hb47 := hb46.trans (hb7.mono hb46.size)
      go_wp2_with fail
      go_ret
      exact ⟨by simp, hb04.trans (hb47.mono hb04.size)⟩
    · obtain ⟨hj, hf⟩ := part_few hK1 (by omega) hM2 hsub hnd (by omega)
      have Hj := Lib.hid hj; have Hf := Lib.hid hf; clear hj hf hsub hnd hN
      have hge : (N : Int) < (K : Int) := by omega
      go_wp2_with fail
      refine (join_any A4 N c4 some_ K w4 r4).mono ?_
      rw [Hj.out]
      rintro e w5 ⟨rfl, hb5⟩
      go_wp2_with fail
      refine (fits_any A4 N c4 some_ K sec w5 (r4.up (flat_lasts _) hb5) (by omega)).mono ?_
      rw [Hf.out sec HS.out]
      rintro e w6 ⟨rfl, hb6⟩
      have hb46 := hb5.trans (hb6.mono hb5.size)
      go_wp2_with fail
      refine (fits_any A4 N c4 some_ K oth w6 (r4.up (flat_lasts _) hb46) (by omega)).mono ?_
      rw [Hf.out oth HO.out]
      rintro e w7 ⟨rfl, hb7⟩
      have hb47 := hb46.trans (hb7.mono hb46.size)
      go_wp2_with fail
      go_ret
      exact ⟨rfl, hb04.trans (hb47.mono hb04.size)⟩
end Go.Proofs.Ytfidjhhpcjmioaa
