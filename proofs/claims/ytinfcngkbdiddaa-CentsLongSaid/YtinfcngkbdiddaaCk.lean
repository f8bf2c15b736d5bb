
/- Walk over check of package cents. Conditions stand in each theorem. -/
import Derived.Test.YtinfcngkbdiddaaCr
namespace Go.Proofs.Ytinfcngkbdiddaa
open Go.RowKit
set_option linter.unusedVariables false
set_option linter.unusedSimpArgs false

theorem neg_any {l : List Fv} (h : l.all Fv.ok = true) : l.any negV = false ↔ ∀ x ∈ l, 0 ≤ x.rat := by
  rw [List.any_eq_false]
  have key : ∀ x, x ∈ l → (negV x = true ↔ ¬ 0 ≤ x.rat) := fun x hx => by
    obtain ⟨hs, -⟩ := fv_std (List.all_eq_true.1 h x hx)
    unfold negV
    rw [decide_eq_true_iff, hs.1.1, ← Rat.num_nonneg]
    unfold sgI
    split
    · omega
    · split <;> omega
  constructor
  · intro h1 x hx
    have := h1 x hx
    rw [key x hx] at this
    exact Decidable.not_not.1 this
  · intro h1 x hx
    rw [key x hx]
    exact fun e => e (h1 x hx)
theorem checkC_no {total : Int} {sh me : List Fv} (h : ¬ (0 ≤ total ∧ total ≤ 1000000000000000 ∧ rightM me = true ∧ sh.length = me.length ∧ sh.all Fv.ok = true ∧ (∀ x ∈ sh, 0 ≤ x.rat))) : checkC total sh me = 1 := by
  unfold checkC
  rw [if_neg h]
set_option maxRecDepth 100000 in
set_option maxHeartbeats 4000000 in
theorem ccheck_any (total : Int) (A A2 : Option Addr) (n cap n2 cap2 : Nat) (l m : List Fv) (w : World) (hl : RdF w w.heap.size A n cap l) (hm : RdF w w.heap.size A2 n2 cap2 m) (ht : -9223372036854775808 ≤ total ∧ total ≤ 9223372036854775807) :
    Calls Try.prog 23 #[.int .i64 total, .slice A n cap, .slice A2 n2 cap2] w fun e w' => e = .returned (.int .i64 (checkC total l m)) ∧ Below w.heap.size w w' := by
  have hcaps := hl.caps
  have hcaps2 := hm.caps
  have hlen := hl.len
  have hlen2 := hm.len
  have K := St.start w
  have r := K.raw
  have HRm := Lib.hid (fun W (h : Below w.heap.size w W) => mright_any A2 n2 cap2 m W (hm.up fE_lasts h))
  have HSm := Lib.hid (fun W (h : Below w.heap.size w W) => csum_any A n cap l W (hl.up fE_lasts h))
  have HNg := Lib.hid (fun W (h : Below w.heap.size w W) => conN_any A n cap l W (hl.up fE_lasts h))
  obtain ⟨E, hE⟩ : ∃ E, E = checkC total l m := ⟨_, rfl⟩
  rw [← hE]
  clear hl hm
  by_cases h1 : total < 0
  · have HX := Lib.hid (show E = 1 from hE.trans (checkC_no (by omega)))
    have hd : decide (total < 0) = true := decide_eq_true h1
    clear hE hlen hlen2
    go_enter Try.func23, Try.ntmps23
    go_wp2_with (first | ((first | (apply K.alloc; rfl; rfl; (first | with_reducible exact big_zero | with_reducible exact frac_zero)) | (apply K.box; rfl; rfl; rfl)); clear K r; (first | ((fail_if_success revert b0); intro W b0 K) | ((fail_if_success revert b1); intro W b1 K) | ((fail_if_success revert b2); intro W b2 K) | ((fail_if_success revert b3); intro W b3 K) | ((fail_if_success revert b4); intro W b4 K) | ((fail_if_success revert b5); intro W b5 K) | ((fail_if_success revert b6); intro W b6 K) | ((fail_if_success revert b7); intro W b7 K)); have r := K.rawS) | (apply K.storeA; rfl; rfl; rfl; rfl; rfl; (repeat (first | with_reducible exact Upd.head _ | with_reducible apply Upd.tail)); (first | with_reducible exact big_size | with_reducible exact frac_size); rfl; rfl; rfl; clear K r; intro W K; have r := K.rawS))
    go_ret
    exact ⟨by rw [HX.out]; first | done | rfl, K.1⟩
  have hd : decide (total < 0) = false := decide_eq_false h1
  by_cases h2 : 1000000000000000 < total
  · have HX := Lib.hid (show E = 1 from hE.trans (checkC_no (by omega)))
    have hd2 : decide (1000000000000000 < total) = true := decide_eq_true h2
    clear hE hlen hlen2
    go_enter Try.func23, Try.ntmps23
    go_wp2_with (first | ((first | (apply K.alloc; rfl; rfl; (first | with_reducible exact big_zero | with_reducible exact frac_zero)) | (apply K.box; rfl; rfl; rfl)); clear K r; (first | ((fail_if_success revert b0); intro W b0 K) | ((fail_if_success revert b1); intro W b1 K) | ((fail_if_success revert b2); intro W b2 K) | ((fail_if_success revert b3); intro W b3 K) | ((fail_if_success revert b4); intro W b4 K) | ((fail_if_success revert b5); intro W b5 K) | ((fail_if_success revert b6); intro W b6 K) | ((fail_if_success revert b7); intro W b7 K)); have r := K.rawS) | (apply K.storeA; rfl; rfl; rfl; rfl; rfl; (repeat (first | with_reducible exact Upd.head _ | with_reducible apply Upd.tail)); (first | with_reducible exact big_size | with_reducible exact frac_size); rfl; rfl; rfl; clear K r; intro W K; have r := K.rawS))
    go_ret
    exact ⟨by rw [HX.out]; first | done | rfl, K.1⟩
  have hd2 : decide (1000000000000000 < total) = false := decide_eq_false h2
  cases h3 : rightM m
  · have HX := Lib.hid (show E = 1 from hE.trans (checkC_no (fun h => by rw [h3] at h; exact absurd h.2.2.1 (by simp))))
    rw [h3] at HRm
    clear hE hlen hlen2 h3
    go_enter Try.func23, Try.ntmps23
    go_wp2_with (first | ((first | (apply K.alloc; rfl; rfl; (first | with_reducible exact big_zero | with_reducible exact frac_zero)) | (apply K.box; rfl; rfl; rfl)); clear K r; (first | ((fail_if_success revert b0); intro W b0 K) | ((fail_if_success revert b1); intro W b1 K) | ((fail_if_success revert b2); intro W b2 K) | ((fail_if_success revert b3); intro W b3 K) | ((fail_if_success revert b4); intro W b4 K) | ((fail_if_success revert b5); intro W b5 K) | ((fail_if_success revert b6); intro W b6 K) | ((fail_if_success revert b7); intro W b7 K)); have r := K.rawS) | (apply K.storeA; rfl; rfl; rfl; rfl; rfl; (repeat (first | with_reducible exact Upd.head _ | with_reducible apply Upd.tail)); (first | with_reducible exact big_size | with_reducible exact frac_size); rfl; rfl; rfl; clear K r; intro W K; have r := K.rawS))
    refine (HRm.out _ K.1).mono ?_
    rintro e W' ⟨rfl, hb⟩
    replace K := K.keep hb
    clear r
    have r := K.rawS
    clear hb
    go_wp2_with (first | ((first | (apply K.alloc; rfl; rfl; (first | with_reducible exact big_zero | with_reducible exact frac_zero)) | (apply K.box; rfl; rfl; rfl)); clear K r; (first | ((fail_if_success revert b0); intro W b0 K) | ((fail_if_success revert b1); intro W b1 K) | ((fail_if_success revert b2); intro W b2 K) | ((fail_if_success revert b3); intro W b3 K) | ((fail_if_success revert b4); intro W b4 K) | ((fail_if_success revert b5); intro W b5 K) | ((fail_if_success revert b6); intro W b6 K) | ((fail_if_success revert b7); intro W b7 K)); have r := K.rawS) | (apply K.storeA; rfl; rfl; rfl; rfl; rfl; (repeat (first | with_reducible exact Upd.head _ | with_reducible apply Upd.tail)); (first | with_reducible exact big_size | with_reducible exact frac_size); rfl; rfl; rfl; clear K r; intro W K; have r := K.rawS))
    go_ret
    exact ⟨by rw [HX.out]; first | done | rfl, K.1⟩
  rw [h3] at HRm
  by_cases h4 : (n : Int) = (n2 : Int)
  case neg =>
    have HX := Lib.hid (show E = 1 from hE.trans (checkC_no (fun h => h4 (by have := h.2.2.2.1; omega))))
    have hd4 : ((n : Int) != (n2 : Int)) = true := by simp [h4]
    clear hE hlen hlen2 h3
    go_enter Try.func23, Try.ntmps23
    go_wp2_with (first | ((first | (apply K.alloc; rfl; rfl; (first | with_reducible exact big_zero | with_reducible exact frac_zero)) | (apply K.box; rfl; rfl; rfl)); clear K r; (first | ((fail_if_success revert b0); intro W b0 K) | ((fail_if_success revert b1); intro W b1 K) | ((fail_if_success revert b2); intro W b2 K) | ((fail_if_success revert b3); intro W b3 K) | ((fail_if_success revert b4); intro W b4 K) | ((fail_if_success revert b5); intro W b5 K) | ((fail_if_success revert b6); intro W b6 K) | ((fail_if_success revert b7); intro W b7 K)); have r := K.rawS) | (apply K.storeA; rfl; rfl; rfl; rfl; rfl; (repeat (first | with_reducible exact Upd.head _ | with_reducible apply Upd.tail)); (first | with_reducible exact big_size | with_reducible exact frac_size); rfl; rfl; rfl; clear K r; intro W K; have r := K.rawS))
    refine (HRm.out _ K.1).mono ?_
    rintro e W' ⟨rfl, hb⟩
    replace K := K.keep hb
    clear r
    have r := K.rawS
    clear hb
    go_wp2_with (first | ((first | (apply K.alloc; rfl; rfl; (first | with_reducible exact big_zero | with_reducible exact frac_zero)) | (apply K.box; rfl; rfl; rfl)); clear K r; (first | ((fail_if_success revert b0); intro W b0 K) | ((fail_if_success revert b1); intro W b1 K) | ((fail_if_success revert b2); intro W b2 K) | ((fail_if_success revert b3); intro W b3 K) | ((fail_if_success revert b4); intro W b4 K) | ((fail_if_success revert b5); intro W b5 K) | ((fail_if_success revert b6); intro W b6 K) | ((fail_if_success revert b7); intro W b7 K)); have r := K.rawS) | (apply K.storeA; rfl; rfl; rfl; rfl; rfl; (repeat (first | with_reducible exact Upd.head _ | with_reducible apply Upd.tail)); (first | with_reducible exact big_size | with_reducible exact frac_size); rfl; rfl; rfl; clear K r; intro W K; have r := K.rawS))
    go_ret
    exact ⟨by rw [HX.out]; first | done | rfl, K.1⟩
  obtain rfl : n = n2 := by omega
  have hd4 : ((n : Int) != (n : Int)) = false := by simp
  clear h4
  cases h5 : l.all Fv.ok
  · have HX := Lib.hid (show E = 1 from hE.trans (checkC_no (fun h => by rw [h5] at h; exact absurd h.2.2.2.2.1 (by simp))))
    unfold SumP at HSm
    rw [h5] at HSm
    clear hE hlen hlen2 h3
    go_enter Try.func23, Try.ntmps23
    go_wp2_with (first | ((first | (apply K.alloc; rfl; rfl; (first | with_reducible exact big_zero | with_reducible exact frac_zero)) | (apply K.box; rfl; rfl; rfl)); clear K r; (first | ((fail_if_success revert b0); intro W b0 K) | ((fail_if_success revert b1); intro W b1 K) | ((fail_if_success revert b2); intro W b2 K) | ((fail_if_success revert b3); intro W b3 K) | ((fail_if_success revert b4); intro W b4 K) | ((fail_if_success revert b5); intro W b5 K) | ((fail_if_success revert b6); intro W b6 K) | ((fail_if_success revert b7); intro W b7 K)); have r := K.rawS) | (apply K.storeA; rfl; rfl; rfl; rfl; rfl; (repeat (first | with_reducible exact Upd.head _ | with_reducible apply Upd.tail)); (first | with_reducible exact big_size | with_reducible exact frac_size); rfl; rfl; rfl; clear K r; intro W K; have r := K.rawS))
    refine (HRm.out _ K.1).mono ?_
    rintro e W' ⟨rfl, hb⟩
    replace K := K.keep hb
    clear r
    have r := K.rawS
    clear hb
    go_wp2_with (first | ((first | (apply K.alloc; rfl; rfl; (first | with_reducible exact big_zero | with_reducible exact frac_zero)) | (apply K.box; rfl; rfl; rfl)); clear K r; (first | ((fail_if_success revert b0); intro W b0 K) | ((fail_if_success revert b1); intro W b1 K) | ((fail_if_success revert b2); intro W b2 K) | ((fail_if_success revert b3); intro W b3 K) | ((fail_if_success revert b4); intro W b4 K) | ((fail_if_success revert b5); intro W b5 K) | ((fail_if_success revert b6); intro W b6 K) | ((fail_if_success revert b7); intro W b7 K)); have r := K.rawS) | (apply K.storeA; rfl; rfl; rfl; rfl; rfl; (repeat (first | with_reducible exact Upd.head _ | with_reducible apply Upd.tail)); (first | with_reducible exact big_size | with_reducible exact frac_size); rfl; rfl; rfl; clear K r; intro W K; have r := K.rawS))
    refine (HSm.out _ K.1).mono ?_
    rintro e W' ⟨s3, A3, n3, c3, l3, t3, B3, m3, d3, k3, rfl, ⟨hra, hrb⟩, hV, ⟨hfa, hfb⟩, hb⟩
    have HV := Lib.hid hV
    clear hV
    have hf3 := Lib.hid (hfa.mono K.1.size)
    have hg3 := Lib.hid (hfb.mono K.1.size)
    replace K := K.retF hb hra hrb hfa hfb
    clear r
    have r := K.rawS
    clear hra hrb hfa hfb hb
    go_wp2_with (first | ((first | (apply K.alloc; rfl; rfl; (first | with_reducible exact big_zero | with_reducible exact frac_zero)) | (apply K.box; rfl; rfl; rfl)); clear K r; (first | ((fail_if_success revert b0); intro W b0 K) | ((fail_if_success revert b1); intro W b1 K) | ((fail_if_success revert b2); intro W b2 K) | ((fail_if_success revert b3); intro W b3 K) | ((fail_if_success revert b4); intro W b4 K) | ((fail_if_success revert b5); intro W b5 K) | ((fail_if_success revert b6); intro W b6 K) | ((fail_if_success revert b7); intro W b7 K)); have r := K.rawS) | (apply K.storeA; rfl; rfl; rfl; rfl; rfl; (repeat (first | with_reducible exact Upd.head _ | with_reducible apply Upd.tail)); (first | with_reducible exact big_size | with_reducible exact frac_size); rfl; rfl; rfl; clear K r; intro W K; have r := K.rawS))
    go_ret
    exact ⟨by rw [HX.out]; first | done | rfl, K.1⟩
  have hNeg := neg_any h5
  cases h6 : l.any negV
  case true =>
    have HX := Lib.hid (show E = 1 from hE.trans (checkC_no (fun h => by have := hNeg.2 h.2.2.2.2.2; rw [h6] at this; cases this)))
    unfold SumP at HSm
    rw [h5] at HSm
    rw [h6] at HNg
    clear hE hlen hlen2 h3 hNeg
    go_enter Try.func23, Try.ntmps23
    go_wp2_with (first | ((first | (apply K.alloc; rfl; rfl; (first | with_reducible exact big_zero | with_reducible exact frac_zero)) | (apply K.box; rfl; rfl; rfl)); clear K r; (first | ((fail_if_success revert b0); intro W b0 K) | ((fail_if_success revert b1); intro W b1 K) | ((fail_if_success revert b2); intro W b2 K) | ((fail_if_success revert b3); intro W b3 K) | ((fail_if_success revert b4); intro W b4 K) | ((fail_if_success revert b5); intro W b5 K) | ((fail_if_success revert b6); intro W b6 K) | ((fail_if_success revert b7); intro W b7 K)); have r := K.rawS) | (apply K.storeA; rfl; rfl; rfl; rfl; rfl; (repeat (first | with_reducible exact Upd.head _ | with_reducible apply Upd.tail)); (first | with_reducible exact big_size | with_reducible exact frac_size); rfl; rfl; rfl; clear K r; intro W K; have r := K.rawS))
    refine (HRm.out _ K.1).mono ?_
    rintro e W' ⟨rfl, hb⟩
    replace K := K.keep hb
    clear r
    have r := K.rawS
    clear hb
    go_wp2_with (first | ((first | (apply K.alloc; rfl; rfl; (first | with_reducible exact big_zero | with_reducible exact frac_zero)) | (apply K.box; rfl; rfl; rfl)); clear K r; (first | ((fail_if_success revert b0); intro W b0 K) | ((fail_if_success revert b1); intro W b1 K) | ((fail_if_success revert b2); intro W b2 K) | ((fail_if_success revert b3); intro W b3 K) | ((fail_if_success revert b4); intro W b4 K) | ((fail_if_success revert b5); intro W b5 K) | ((fail_if_success revert b6); intro W b6 K) | ((fail_if_success revert b7); intro W b7 K)); have r := K.rawS) | (apply K.storeA; rfl; rfl; rfl; rfl; rfl; (repeat (first | with_reducible exact Upd.head _ | with_reducible apply Upd.tail)); (first | with_reducible exact big_size | with_reducible exact frac_size); rfl; rfl; rfl; clear K r; intro W K; have r := K.rawS))
    refine (HSm.out _ K.1).mono ?_
    rintro e W' ⟨s3, A3, n3, c3, l3, t3, B3, m3, d3, k3, rfl, ⟨hra, hrb⟩, hV, ⟨hfa, hfb⟩, hb⟩
    have HV := Lib.hid hV
    clear hV
    have hf3 := Lib.hid (hfa.mono K.1.size)
    have hg3 := Lib.hid (hfb.mono K.1.size)
    replace K := K.retF hb hra hrb hfa hfb
    clear r
    have r := K.rawS
    clear hra hrb hfa hfb hb
    go_wp2_with (first | ((first | (apply K.alloc; rfl; rfl; (first | with_reducible exact big_zero | with_reducible exact frac_zero)) | (apply K.box; rfl; rfl; rfl)); clear K r; (first | ((fail_if_success revert b0); intro W b0 K) | ((fail_if_success revert b1); intro W b1 K) | ((fail_if_success revert b2); intro W b2 K) | ((fail_if_success revert b3); intro W b3 K) | ((fail_if_success revert b4); intro W b4 K) | ((fail_if_success revert b5); intro W b5 K) | ((fail_if_success revert b6); intro W b6 K) | ((fail_if_success revert b7); intro W b7 K)); have r := K.rawS) | (apply K.storeA; rfl; rfl; rfl; rfl; rfl; (repeat (first | with_reducible exact Upd.head _ | with_reducible apply Upd.tail)); (first | with_reducible exact big_size | with_reducible exact frac_size); rfl; rfl; rfl; clear K r; intro W K; have r := K.rawS))
    refine (HNg.out _ K.1).mono ?_
    rintro e W' ⟨rfl, hb⟩
    replace K := K.keep hb
    clear r
    have r := K.rawS
    clear hb
    go_wp2_with (first | ((first | (apply K.alloc; rfl; rfl; (first | with_reducible exact big_zero | with_reducible exact frac_zero)) | (apply K.box; rfl; rfl; rfl)); clear K r; (first | ((fail_if_success revert b0); intro W b0 K) | ((fail_if_success revert b1); intro W b1 K) | ((fail_if_success revert b2); intro W b2 K) | ((fail_if_success revert b3); intro W b3 K) | ((fail_if_success revert b4); intro W b4 K) | ((fail_if_success revert b5); intro W b5 K) | ((fail_if_success revert b6); intro W b6 K) | ((fail_if_success revert b7); intro W b7 K)); have r := K.rawS) | (apply K.storeA; rfl; rfl; rfl; rfl; rfl; (repeat (first | with_reducible exact Upd.head _ | with_reducible apply Upd.tail)); (first | with_reducible exact big_size | with_reducible exact frac_size); rfl; rfl; rfl; clear K r; intro W K; have r := K.rawS))
    go_ret
    exact ⟨by rw [HX.out]; first | done | rfl, K.1⟩
  have hC : E = (match sumF 0 (l.map Fv.rat) with
      | none => 6
      | some q => if q = (total : Rat) then 0 else 1) := by
    rw [hE]
    unfold checkC
    rw [if_pos ⟨by omega, by omega, h3, by omega, h5, hNeg.1 h6⟩]
    cases sumF 0 (l.map Fv.rat) <;> rfl
  rw [h6] at HNg
  have hsm : smE l = if (sumF 0 (l.map Fv.rat)).isSome = true then 0 else 6 := by unfold smE; rw [if_pos h5]
  unfold SumP at HSm
  rw [h5, hsm] at HSm
  clear hE hlen hlen2 h3 hNeg h6
  cases hs : sumF 0 (l.map Fv.rat) with
  | none =>
    rw [hs] at hC HSm
    have HX := Lib.hid (show E = 6 from hC)
    clear hC hs
    go_enter Try.func23, Try.ntmps23
    go_wp2_with (first | ((first | (apply K.alloc; rfl; rfl; (first | with_reducible exact big_zero | with_reducible exact frac_zero)) | (apply K.box; rfl; rfl; rfl)); clear K r; (first | ((fail_if_success revert b0); intro W b0 K) | ((fail_if_success revert b1); intro W b1 K) | ((fail_if_success revert b2); intro W b2 K) | ((fail_if_success revert b3); intro W b3 K) | ((fail_if_success revert b4); intro W b4 K) | ((fail_if_success revert b5); intro W b5 K) | ((fail_if_success revert b6); intro W b6 K) | ((fail_if_success revert b7); intro W b7 K)); have r := K.rawS) | (apply K.storeA; rfl; rfl; rfl; rfl; rfl; (repeat (first | with_reducible exact Upd.head _ | with_reducible apply Upd.tail)); (first | with_reducible exact big_size | with_reducible exact frac_size); rfl; rfl; rfl; clear K r; intro W K; have r := K.rawS))
    refine (HRm.out _ K.1).mono ?_
    rintro e W' ⟨rfl, hb⟩
    replace K := K.keep hb
    clear r
    have r := K.rawS
    clear hb
    go_wp2_with (first | ((first | (apply K.alloc; rfl; rfl; (first | with_reducible exact big_zero | with_reducible exact frac_zero)) | (apply K.box; rfl; rfl; rfl)); clear K r; (first | ((fail_if_success revert b0); intro W b0 K) | ((fail_if_success revert b1); intro W b1 K) | ((fail_if_success revert b2); intro W b2 K) | ((fail_if_success revert b3); intro W b3 K) | ((fail_if_success revert b4); intro W b4 K) | ((fail_if_success revert b5); intro W b5 K) | ((fail_if_success revert b6); intro W b6 K) | ((fail_if_success revert b7); intro W b7 K)); have r := K.rawS) | (apply K.storeA; rfl; rfl; rfl; rfl; rfl; (repeat (first | with_reducible exact Upd.head _ | with_reducible apply Upd.tail)); (first | with_reducible exact big_size | with_reducible exact frac_size); rfl; rfl; rfl; clear K r; intro W K; have r := K.rawS))
    refine (HSm.out _ K.1).mono ?_
    rintro e W' ⟨s3, A3, n3, c3, l3, t3, B3, m3, d3, k3, rfl, ⟨hra, hrb⟩, hV, ⟨hfa, hfb⟩, hb⟩
    have HV := Lib.hid hV
    clear hV
    have hf3 := Lib.hid (hfa.mono K.1.size)
    have hg3 := Lib.hid (hfb.mono K.1.size)
    replace K := K.retF hb hra hrb hfa hfb
    clear r
    have r := K.rawS
    clear hra hrb hfa hfb hb
    go_wp2_with (first | ((first | (apply K.alloc; rfl; rfl; (first | with_reducible exact big_zero | with_reducible exact frac_zero)) | (apply K.box; rfl; rfl; rfl)); clear K r; (first | ((fail_if_success revert b0); intro W b0 K) | ((fail_if_success revert b1); intro W b1 K) | ((fail_if_success revert b2); intro W b2 K) | ((fail_if_success revert b3); intro W b3 K) | ((fail_if_success revert b4); intro W b4 K) | ((fail_if_success revert b5); intro W b5 K) | ((fail_if_success revert b6); intro W b6 K) | ((fail_if_success revert b7); intro W b7 K)); have r := K.rawS) | (apply K.storeA; rfl; rfl; rfl; rfl; rfl; (repeat (first | with_reducible exact Upd.head _ | with_reducible apply Upd.tail)); (first | with_reducible exact big_size | with_reducible exact frac_size); rfl; rfl; rfl; clear K r; intro W K; have r := K.rawS))
    refine (HNg.out _ K.1).mono ?_
    rintro e W' ⟨rfl, hb⟩
    replace K := K.keep hb
    clear r
    have r := K.rawS
    clear hb
    go_wp2_with (first | ((first | (apply K.alloc; rfl; rfl; (first | with_reducible exact big_zero | with_reducible exact frac_zero)) | (apply K.box; rfl; rfl; rfl)); clear K r; (first | ((fail_if_success revert b0); intro W b0 K) | ((fail_if_success revert b1); intro W b1 K) | ((fail_if_success revert b2); intro W b2 K) | ((fail_if_success revert b3); intro W b3 K) | ((fail_if_success revert b4); intro W b4 K) | ((fail_if_success revert b5); intro W b5 K) | ((fail_if_success revert b6); intro W b6 K) | ((fail_if_success revert b7); intro W b7 K)); have r := K.rawS) | (apply K.storeA; rfl; rfl; rfl; rfl; rfl; (repeat (first | with_reducible exact Upd.head _ | with_reducible apply Upd.tail)); (first | with_reducible exact big_size | with_reducible exact frac_size); rfl; rfl; rfl; clear K r; intro W K; have r := K.rawS))
    go_ret
    exact ⟨by rw [HX.out]; first | done | rfl, K.1⟩
  | some q =>
    rw [hs] at hC HSm
    have HX := Lib.hid hC
    have hT := Lib.hid (fun W => cwhole_any total W ht)
    obtain ⟨M, hM⟩ : ∃ M, cmpQ q (total : Rat) = M := ⟨_, rfl⟩
    have ft : fitsF (total : Rat) = true := by rw [← divInt_1]; exact divInt_fits (by omega) (fits_i64 (by omega)) (fits_i64 (by decide))
    have HM0 := Lib.hid (show (q = (total : Rat) → M = 0) ∧ (q ≠ (total : Rat) → M ≠ 0) from ⟨fun e => by rw [← hM]; exact cmpQ_zero.2 e, fun e => by rw [← hM]; exact cmpQ_ne e⟩)
    have HM := Lib.hid hM
    clear hC hs hM
    go_enter Try.func23, Try.ntmps23
    go_wp2_with (first | ((first | (apply K.alloc; rfl; rfl; (first | with_reducible exact big_zero | with_reducible exact frac_zero)) | (apply K.box; rfl; rfl; rfl)); clear K r; (first | ((fail_if_success revert b0); intro W b0 K) | ((fail_if_success revert b1); intro W b1 K) | ((fail_if_success revert b2); intro W b2 K) | ((fail_if_success revert b3); intro W b3 K) | ((fail_if_success revert b4); intro W b4 K) | ((fail_if_success revert b5); intro W b5 K) | ((fail_if_success revert b6); intro W b6 K) | ((fail_if_success revert b7); intro W b7 K)); have r := K.rawS) | (apply K.storeA; rfl; rfl; rfl; rfl; rfl; (repeat (first | with_reducible exact Upd.head _ | with_reducible apply Upd.tail)); (first | with_reducible exact big_size | with_reducible exact frac_size); rfl; rfl; rfl; clear K r; intro W K; have r := K.rawS))
    refine (HRm.out _ K.1).mono ?_
    rintro e W' ⟨rfl, hb⟩
    replace K := K.keep hb
    clear r
    have r := K.rawS
    clear hb
    go_wp2_with (first | ((first | (apply K.alloc; rfl; rfl; (first | with_reducible exact big_zero | with_reducible exact frac_zero)) | (apply K.box; rfl; rfl; rfl)); clear K r; (first | ((fail_if_success revert b0); intro W b0 K) | ((fail_if_success revert b1); intro W b1 K) | ((fail_if_success revert b2); intro W b2 K) | ((fail_if_success revert b3); intro W b3 K) | ((fail_if_success revert b4); intro W b4 K) | ((fail_if_success revert b5); intro W b5 K) | ((fail_if_success revert b6); intro W b6 K) | ((fail_if_success revert b7); intro W b7 K)); have r := K.rawS) | (apply K.storeA; rfl; rfl; rfl; rfl; rfl; (repeat (first | with_reducible exact Upd.head _ | with_reducible apply Upd.tail)); (first | with_reducible exact big_size | with_reducible exact frac_size); rfl; rfl; rfl; clear K r; intro W K; have r := K.rawS))
    refine (HSm.out _ K.1).mono ?_
    rintro e W' ⟨s3, A3, n3, c3, l3, t3, B3, m3, d3, k3, rfl, ⟨hra, hrb⟩, hV, ⟨hfa, hfb⟩, hb⟩
    have HV := Lib.hid hV
    clear hV
    have hf3 := Lib.hid (hfa.mono K.1.size)
    have hg3 := Lib.hid (hfb.mono K.1.size)
    replace K := K.retF hb hra hrb hfa hfb
    clear r
    have r := K.rawS
    clear hra hrb hfa hfb hb
    go_wp2_with (first | ((first | (apply K.alloc; rfl; rfl; (first | with_reducible exact big_zero | with_reducible exact frac_zero)) | (apply K.box; rfl; rfl; rfl)); clear K r; (first | ((fail_if_success revert b0); intro W b0 K) | ((fail_if_success revert b1); intro W b1 K) | ((fail_if_success revert b2); intro W b2 K) | ((fail_if_success revert b3); intro W b3 K) | ((fail_if_success revert b4); intro W b4 K) | ((fail_if_success revert b5); intro W b5 K) | ((fail_if_success revert b6); intro W b6 K) | ((fail_if_success revert b7); intro W b7 K)); have r := K.rawS) | (apply K.storeA; rfl; rfl; rfl; rfl; rfl; (repeat (first | with_reducible exact Upd.head _ | with_reducible apply Upd.tail)); (first | with_reducible exact big_size | with_reducible exact frac_size); rfl; rfl; rfl; clear K r; intro W K; have r := K.rawS))
    refine (HNg.out _ K.1).mono ?_
    rintro e W' ⟨rfl, hb⟩
    replace K := K.keep hb
    clear r
    have r := K.rawS
    clear hb
    obtain ⟨hs3, fq⟩ := HV.out q (by trivial) rfl
    have P1 := Lib.hid (fun s2 t2 A2 B2 n2 c2 m2 d2 l2 k2 W r1 q1 r2 q2 h2 => pCmp q (total : Rat) s3 t3 s2 t2 A3 B3 A2 B2 n3 c3 m3 d3 n2 c2 m2 d2 l3 k3 l2 k2 W r1 q1 r2 q2 hs3 h2 fq ft)
    rw [HM.out] at P1
    clear HV hs3 fq ft HM
    by_cases hq : q = (total : Rat)
    · have hM0 := HM0.out.1 hq
      subst hM0
      have HY := Lib.hid (show E = 0 from by rw [HX.out]; exact if_pos hq)
      generalize ((total : Int) : Rat) = z at *
      clear hq HM0 HX
      go_upto_region 8 with (first | ((first | (apply K.alloc; rfl; rfl; (first | with_reducible exact big_zero | with_reducible exact frac_zero)) | (apply K.box; rfl; rfl; rfl)); clear K r; (first | ((fail_if_success revert b0); intro W b0 K) | ((fail_if_success revert b1); intro W b1 K) | ((fail_if_success revert b2); intro W b2 K) | ((fail_if_success revert b3); intro W b3 K) | ((fail_if_success revert b4); intro W b4 K) | ((fail_if_success revert b5); intro W b5 K) | ((fail_if_success revert b6); intro W b6 K) | ((fail_if_success revert b7); intro W b7 K)); have r := K.rawS) | (apply K.storeA; rfl; rfl; rfl; rfl; rfl; (repeat (first | with_reducible exact Upd.head _ | with_reducible apply Upd.tail)); (first | with_reducible exact big_size | with_reducible exact frac_size); rfl; rfl; rfl; clear K r; intro W K; have r := K.rawS))
      have Kd := K.drew
      go_region_with (first
        | (go_at_call 28; (with_reducible refine (hT.out _).mono ?_); rintro e W ⟨s50, A50, n50, c50, l50, t50, B50, m50, d50, k50, rfl, ⟨hra, hrb⟩, hs50, ⟨hfa, hfb⟩, hb⟩; (first | with_reducible replace K := Kd.retF hb hra hrb hfa hfb | with_reducible replace K := K.retF hb hra hrb hfa hfb); clear r hra hrb hfa hfb hb; have r := K.rawS)
        | (go_at_call 31; (with_reducible refine (P1.out _ _ _ _ _ _ _ _ _ _ _ ?qa ?qb ?qc ?qd hs50).mono ?_); (case qa => exact K.rd (by repeat (first | with_reducible exact List.mem_cons_self | with_reducible apply List.mem_cons_of_mem))); (case qb => exact K.rd (by repeat (first | with_reducible exact List.mem_cons_self | with_reducible apply List.mem_cons_of_mem))); (case qc => exact K.rd (by repeat (first | with_reducible exact List.mem_cons_self | with_reducible apply List.mem_cons_of_mem))); (case qd => exact K.rd (by repeat (first | with_reducible exact List.mem_cons_self | with_reducible apply List.mem_cons_of_mem))); rintro e W ⟨rfl, hb⟩; replace K := K.keep hb; clear r hb; have r := K.rawS))
      all_goals
        go_wp2_with fail
        go_ret
        exact ⟨by rw [HY.out]; first | done | rfl, K.1⟩
    · have hM0 : (M != 0) = true := by
        have := HM0.out.2 hq
        simp [this]
      have HY := Lib.hid (show E = 1 from by rw [HX.out]; exact if_neg hq)
      generalize ((total : Int) : Rat) = z at *
      clear hq HM0 HX
      go_upto_region 8 with (first | ((first | (apply K.alloc; rfl; rfl; (first | with_reducible exact big_zero | with_reducible exact frac_zero)) | (apply K.box; rfl; rfl; rfl)); clear K r; (first | ((fail_if_success revert b0); intro W b0 K) | ((fail_if_success revert b1); intro W b1 K) | ((fail_if_success revert b2); intro W b2 K) | ((fail_if_success revert b3); intro W b3 K) | ((fail_if_success revert b4); intro W b4 K) | ((fail_if_success revert b5); intro W b5 K) | ((fail_if_success revert b6); intro W b6 K) | ((fail_if_success revert b7); intro W b7 K)); have r := K.rawS) | (apply K.storeA; rfl; rfl; rfl; rfl; rfl; (repeat (first | with_reducible exact Upd.head _ | with_reducible apply Upd.tail)); (first | with_reducible exact big_size | with_reducible exact frac_size); rfl; rfl; rfl; clear K r; intro W K; have r := K.rawS))
      have Kd := K.drew
      go_region_with (first
        | (go_at_call 28; (with_reducible refine (hT.out _).mono ?_); rintro e W ⟨s50, A50, n50, c50, l50, t50, B50, m50, d50, k50, rfl, ⟨hra, hrb⟩, hs50, ⟨hfa, hfb⟩, hb⟩; (first | with_reducible replace K := Kd.retF hb hra hrb hfa hfb | with_reducible replace K := K.retF hb hra hrb hfa hfb); clear r hra hrb hfa hfb hb; have r := K.rawS)
        | (go_at_call 31; (with_reducible refine (P1.out _ _ _ _ _ _ _ _ _ _ _ ?qa ?qb ?qc ?qd hs50).mono ?_); (case qa => exact K.rd (by repeat (first | with_reducible exact List.mem_cons_self | with_reducible apply List.mem_cons_of_mem))); (case qb => exact K.rd (by repeat (first | with_reducible exact List.mem_cons_self | with_reducible apply List.mem_cons_of_mem))); (case qc => exact K.rd (by repeat (first | with_reducible exact List.mem_cons_self | with_reducible apply List.mem_cons_of_mem))); (case qd => exact K.rd (by repeat (first | with_reducible exact List.mem_cons_self | with_reducible apply List.mem_cons_of_mem))); rintro e W ⟨rfl, hb⟩; replace K := K.keep hb; clear r hb; have r := K.rawS))
      all_goals
        go_wp2_with fail
        go_ret
        exact ⟨by rw [HY.out]; first | done | rfl, K.1⟩
end Go.Proofs.Ytinfcngkbdiddaa
