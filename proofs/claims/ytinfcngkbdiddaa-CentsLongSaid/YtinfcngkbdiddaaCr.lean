
/- Walk over Right of package cents. Conditions stand in each theorem. -/
import Derived.Test.YtinfcngkbdiddaaCd
namespace Go.Proofs.Ytinfcngkbdiddaa
open Go.RowKit
set_option linter.unusedVariables false
set_option linter.unusedSimpArgs false

theorem any_out (l : List Fv) : (l.all fun x => decide (-1 < x.rat ∧ x.rat < 1)) = !(l.any outV) := by
  rw [List.not_any_eq_all_not]
  congr 1
  funext x
  unfold outV outM
  rw [← decide_not]
  refine decide_eq_decide.2 ?_
  grind
theorem cmpQ_ne {x y : Rat} (h : x ≠ y) : cmpQ x y ≠ 0 := fun e => h (cmpQ_zero.1 e)
theorem rightM_len {l : List Fv} (h : ¬ (1 ≤ l.length ∧ l.length ≤ 60)) : rightM l = false := by
  unfold rightM
  rw [decide_eq_false h, Bool.false_and]
set_option maxRecDepth 100000 in
set_option maxHeartbeats 2000000 in
theorem mright_any (A : Option Addr) (n cap : Nat) (l : List Fv) (w : World) (hl : RdF w w.heap.size A n cap l) :
    Calls Try.prog 13 #[.slice A n cap] w fun e w' => e = .returned (.bool (rightM l)) ∧ Below w.heap.size w w' := by
  have hcaps := hl.caps
  have hlen := hl.len
  have K := St.start w
  have r := K.raw
  have HL := Lib.hid (fun W (h : Below w.heap.size w W) => hl.up fE_lasts h)
  by_cases h1 : (n : Int) < 1
  · have hR := rightM_len (l := l) (by rw [hlen]; omega)
    rw [hR]
    have hd : decide ((n : Int) < 1) = true := decide_eq_true h1
    clear hR hlen
    go_enter Try.func13, Try.ntmps13
    go_wp2_with (first | ((first | (apply K.alloc; rfl; rfl; (first | with_reducible exact big_zero | with_reducible exact frac_zero)) | (apply K.box; rfl; rfl; rfl)); clear K r; (first | ((fail_if_success revert b0); intro W b0 K) | ((fail_if_success revert b1); intro W b1 K) | ((fail_if_success revert b2); intro W b2 K) | ((fail_if_success revert b3); intro W b3 K) | ((fail_if_success revert b4); intro W b4 K) | ((fail_if_success revert b5); intro W b5 K) | ((fail_if_success revert b6); intro W b6 K) | ((fail_if_success revert b7); intro W b7 K)); have r := K.rawS) | (apply K.storeA; rfl; rfl; rfl; rfl; rfl; (repeat (first | with_reducible exact Upd.head _ | with_reducible apply Upd.tail)); (first | with_reducible exact big_size | with_reducible exact frac_size); rfl; rfl; rfl; clear K r; intro W K; have r := K.rawS))
    go_ret
    exact ⟨rfl, K.1⟩
  have hd : decide ((n : Int) < 1) = false := decide_eq_false h1
  by_cases h2 : (60 : Int) < (n : Int)
  · have hR := rightM_len (l := l) (by rw [hlen]; omega)
    rw [hR]
    have hd2 : decide ((60 : Int) < (n : Int)) = true := decide_eq_true h2
    clear hR hlen
    go_enter Try.func13, Try.ntmps13
    go_wp2_with (first | ((first | (apply K.alloc; rfl; rfl; (first | with_reducible exact big_zero | with_reducible exact frac_zero)) | (apply K.box; rfl; rfl; rfl)); clear K r; (first | ((fail_if_success revert b0); intro W b0 K) | ((fail_if_success revert b1); intro W b1 K) | ((fail_if_success revert b2); intro W b2 K) | ((fail_if_success revert b3); intro W b3 K) | ((fail_if_success revert b4); intro W b4 K) | ((fail_if_success revert b5); intro W b5 K) | ((fail_if_success revert b6); intro W b6 K) | ((fail_if_success revert b7); intro W b7 K)); have r := K.rawS) | (apply K.storeA; rfl; rfl; rfl; rfl; rfl; (repeat (first | with_reducible exact Upd.head _ | with_reducible apply Upd.tail)); (first | with_reducible exact big_size | with_reducible exact frac_size); rfl; rfl; rfl; clear K r; intro W K; have r := K.rawS))
    go_ret
    exact ⟨rfl, K.1⟩
  have hd2 : decide ((60 : Int) < (n : Int)) = false := decide_eq_false h2
  have hR : rightM l = (l.all Fv.ok && (decide (sumF 0 (l.map Fv.rat) = some 0) && !(l.any outV))) := by
    unfold rightM
    rw [decide_eq_true (by rw [hlen]; omega), Bool.true_and, any_out]
  obtain ⟨RM, hRM⟩ : ∃ b, b = rightM l := ⟨_, rfl⟩
  rw [← hRM]
  rw [hR] at hRM
  have HRM := Lib.hid hRM
  clear hR hlen hl hRM
  go_enter Try.func13, Try.ntmps13
  go_wp2_with (first | ((first | (apply K.alloc; rfl; rfl; (first | with_reducible exact big_zero | with_reducible exact frac_zero)) | (apply K.box; rfl; rfl; rfl)); clear K r; (first | ((fail_if_success revert b0); intro W b0 K) | ((fail_if_success revert b1); intro W b1 K) | ((fail_if_success revert b2); intro W b2 K) | ((fail_if_success revert b3); intro W b3 K) | ((fail_if_success revert b4); intro W b4 K) | ((fail_if_success revert b5); intro W b5 K) | ((fail_if_success revert b6); intro W b6 K) | ((fail_if_success revert b7); intro W b7 K)); have r := K.rawS) | (apply K.storeA; rfl; rfl; rfl; rfl; rfl; (repeat (first | with_reducible exact Upd.head _ | with_reducible apply Upd.tail)); (first | with_reducible exact big_size | with_reducible exact frac_size); rfl; rfl; rfl; clear K r; intro W K; have r := K.rawS))
  refine (csum_any A n cap l _ (HL.out _ K.1)).mono ?_
  rintro e W' ⟨s3, A3, n3, c3, l3, t3, B3, m3, d3, k3, rfl, ⟨hra, hrb⟩, hV, ⟨hfa, hfb⟩, hb⟩
  have HV := Lib.hid hV
  clear hV h1 h2 hd hd2
  have hf3 := Lib.hid (hfa.mono K.1.size)
  have hg3 := Lib.hid (hfb.mono K.1.size)
  replace K := K.retF hb hra hrb hfa hfb
  clear r
  have r := K.rawS
  clear hra hrb hfa hfb hb
  have HWh := Lib.hid (show ∀ W, Calls Try.prog 28 #[.int .i64 0] W (FrV W 0) from fun W => by
    have := cwhole_any 0 W (by decide)
    rw [Rat.intCast_zero] at this
    exact this)
  cases hall : l.all Fv.ok
  · have hE : smE l = 0 := by unfold smE; rw [hall]; rfl
    have HX := Lib.hid (show RM = false from by rw [HRM.out, hall]; rfl)
    rw [hE]
    have P1 := HWh
    clear hall hE HV HRM
    go_upto_region 4 with (first | ((first | (apply K.alloc; rfl; rfl; (first | with_reducible exact big_zero | with_reducible exact frac_zero)) | (apply K.box; rfl; rfl; rfl)); clear K r; (first | ((fail_if_success revert b0); intro W b0 K) | ((fail_if_success revert b1); intro W b1 K) | ((fail_if_success revert b2); intro W b2 K) | ((fail_if_success revert b3); intro W b3 K) | ((fail_if_success revert b4); intro W b4 K) | ((fail_if_success revert b5); intro W b5 K) | ((fail_if_success revert b6); intro W b6 K) | ((fail_if_success revert b7); intro W b7 K)); have r := K.rawS) | (apply K.storeA; rfl; rfl; rfl; rfl; rfl; (repeat (first | with_reducible exact Upd.head _ | with_reducible apply Upd.tail)); (first | with_reducible exact big_size | with_reducible exact frac_size); rfl; rfl; rfl; clear K r; intro W K; have r := K.rawS))
    go_quiet (fail)
    go_wp2
    go_ret
    exact ⟨by rw [HX.out]; first | done | rfl, (K.drewN _).1⟩
  cases hs : sumF 0 (l.map Fv.rat) with
  | none =>
    have hE : smE l = 6 := by unfold smE; rw [if_pos hall, hs]; rfl
    have h0 : decide ((none : Option Rat) = some 0) = false := decide_eq_false (by simp)
    have HX := Lib.hid (show RM = false from by rw [HRM.out, hall, hs, h0]; rfl)
    rw [hE]
    have P1 := HWh
    clear hall hE HV hs h0 HRM
    go_upto_region 4 with (first | ((first | (apply K.alloc; rfl; rfl; (first | with_reducible exact big_zero | with_reducible exact frac_zero)) | (apply K.box; rfl; rfl; rfl)); clear K r; (first | ((fail_if_success revert b0); intro W b0 K) | ((fail_if_success revert b1); intro W b1 K) | ((fail_if_success revert b2); intro W b2 K) | ((fail_if_success revert b3); intro W b3 K) | ((fail_if_success revert b4); intro W b4 K) | ((fail_if_success revert b5); intro W b5 K) | ((fail_if_success revert b6); intro W b6 K) | ((fail_if_success revert b7); intro W b7 K)); have r := K.rawS) | (apply K.storeA; rfl; rfl; rfl; rfl; rfl; (repeat (first | with_reducible exact Upd.head _ | with_reducible apply Upd.tail)); (first | with_reducible exact big_size | with_reducible exact frac_size); rfl; rfl; rfl; clear K r; intro W K; have r := K.rawS))
    go_quiet (fail)
    go_wp2
    go_ret
    exact ⟨by rw [HX.out]; first | done | rfl, (K.drewN _).1⟩
  | some q =>
    have hE : smE l = 0 := by unfold smE; rw [if_pos hall, hs]; rfl
    obtain ⟨hs3, fq⟩ := HV.out q hall hs
    have hRM := HRM.out
    rw [hall, hs, Bool.true_and] at hRM
    rw [hE]
    obtain ⟨M, hM⟩ : ∃ M, cmpQ q 0 = M := ⟨_, rfl⟩
    have P1 := Lib.hid (fun s2 t2 A2 B2 n2 c2 m2 d2 l2 k2 W r1 q1 r2 q2 h2 => pCmp q 0 s3 t3 s2 t2 A3 B3 A2 B2 n3 c3 m3 d3 n2 c2 m2 d2 l3 k3 l2 k2 W r1 q1 r2 q2 hs3 h2 fq (by decide +kernel))
    rw [hM] at P1
    have HCon := Lib.hid (fun W (h : Below w.heap.size w W) => conO_any A n cap l W (HL.out W h) hall)
    clear hall hE HV hs hs3 fq HRM
    by_cases hq : q = 0
    · have h0 : decide (some q = some 0) = true := decide_eq_true (by rw [hq])
      have HX := Lib.hid (show RM = !(l.any outV) from by rw [hRM, h0, Bool.true_and])
      have hM0 : M = 0 := by rw [← hM, hq]; exact cmpQ_zero.2 rfl
      subst hM0
      clear hM hq h0 hRM
      go_upto_region 4 with (first | ((first | (apply K.alloc; rfl; rfl; (first | with_reducible exact big_zero | with_reducible exact frac_zero)) | (apply K.box; rfl; rfl; rfl)); clear K r; (first | ((fail_if_success revert b0); intro W b0 K) | ((fail_if_success revert b1); intro W b1 K) | ((fail_if_success revert b2); intro W b2 K) | ((fail_if_success revert b3); intro W b3 K) | ((fail_if_success revert b4); intro W b4 K) | ((fail_if_success revert b5); intro W b5 K) | ((fail_if_success revert b6); intro W b6 K) | ((fail_if_success revert b7); intro W b7 K)); have r := K.rawS) | (apply K.storeA; rfl; rfl; rfl; rfl; rfl; (repeat (first | with_reducible exact Upd.head _ | with_reducible apply Upd.tail)); (first | with_reducible exact big_size | with_reducible exact frac_size); rfl; rfl; rfl; clear K r; intro W K; have r := K.rawS))
      have Kd := K.drew
      go_region_with (first
        | (go_at_call 28; (with_reducible refine (HWh.out _).mono ?_); rintro e W ⟨s50, A50, n50, c50, l50, t50, B50, m50, d50, k50, rfl, ⟨hra, hrb⟩, hs50, ⟨hfa, hfb⟩, hb⟩; (first | with_reducible replace K := Kd.retF hb hra hrb hfa hfb | with_reducible replace K := K.retF hb hra hrb hfa hfb); clear r hra hrb hfa hfb hb; have r := K.rawS)
        | (go_at_call 31; (with_reducible refine (P1.out _ _ _ _ _ _ _ _ _ _ _ ?qa ?qb ?qc ?qd hs50).mono ?_); (case qa => exact K.rd (by repeat (first | with_reducible exact List.mem_cons_self | with_reducible apply List.mem_cons_of_mem))); (case qb => exact K.rd (by repeat (first | with_reducible exact List.mem_cons_self | with_reducible apply List.mem_cons_of_mem))); (case qc => exact K.rd (by repeat (first | with_reducible exact List.mem_cons_self | with_reducible apply List.mem_cons_of_mem))); (case qd => exact K.rd (by repeat (first | with_reducible exact List.mem_cons_self | with_reducible apply List.mem_cons_of_mem))); rintro e W ⟨rfl, hb⟩; replace K := K.keep hb; clear r hb; have r := K.rawS))
      all_goals
        go_wp2_with fail
        refine (HCon.out _ K.1).mono ?_
        rintro e W' ⟨rfl, hb⟩
        replace K := K.keep hb
        clear r
        have r := K.rawS
        clear hb
        go_wp2_with fail
        go_ret
        exact ⟨by rw [HX.out]; first | done | rfl, K.1⟩
    · have h0 : decide (some q = some 0) = false := decide_eq_false (by simpa using hq)
      have HX := Lib.hid (show RM = false from by rw [hRM, h0, Bool.false_and])
      have hM0 : (M != 0) = true := by
        have := cmpQ_ne hq
        rw [hM] at this
        simp [this]
      clear hM hq h0 hRM
      go_upto_region 4 with (first | ((first | (apply K.alloc; rfl; rfl; (first | with_reducible exact big_zero | with_reducible exact frac_zero)) | (apply K.box; rfl; rfl; rfl)); clear K r; (first | ((fail_if_success revert b0); intro W b0 K) | ((fail_if_success revert b1); intro W b1 K) | ((fail_if_success revert b2); intro W b2 K) | ((fail_if_success revert b3); intro W b3 K) | ((fail_if_success revert b4); intro W b4 K) | ((fail_if_success revert b5); intro W b5 K) | ((fail_if_success revert b6); intro W b6 K) | ((fail_if_success revert b7); intro W b7 K)); have r := K.rawS) | (apply K.storeA; rfl; rfl; rfl; rfl; rfl; (repeat (first | with_reducible exact Upd.head _ | with_reducible apply Upd.tail)); (first | with_reducible exact big_size | with_reducible exact frac_size); rfl; rfl; rfl; clear K r; intro W K; have r := K.rawS))
      have Kd := K.drew
      go_region_with (first
        | (go_at_call 28; (with_reducible refine (HWh.out _).mono ?_); rintro e W ⟨s50, A50, n50, c50, l50, t50, B50, m50, d50, k50, rfl, ⟨hra, hrb⟩, hs50, ⟨hfa, hfb⟩, hb⟩; (first | with_reducible replace K := Kd.retF hb hra hrb hfa hfb | with_reducible replace K := K.retF hb hra hrb hfa hfb); clear r hra hrb hfa hfb hb; have r := K.rawS)
        | (go_at_call 31; (with_reducible refine (P1.out _ _ _ _ _ _ _ _ _ _ _ ?qa ?qb ?qc ?qd hs50).mono ?_); (case qa => exact K.rd (by repeat (first | with_reducible exact List.mem_cons_self | with_reducible apply List.mem_cons_of_mem))); (case qb => exact K.rd (by repeat (first | with_reducible exact List.mem_cons_self | with_reducible apply List.mem_cons_of_mem))); (case qc => exact K.rd (by repeat (first | with_reducible exact List.mem_cons_self | with_reducible apply List.mem_cons_of_mem))); (case qd => exact K.rd (by repeat (first | with_reducible exact List.mem_cons_self | with_reducible apply List.mem_cons_of_mem))); rintro e W ⟨rfl, hb⟩; replace K := K.keep hb; clear r hb; have r := K.rawS))
      all_goals
        go_wp2_with fail
        go_ret
        exact ⟨by rw [HX.out]; first | done | rfl, K.1⟩
end Go.Proofs.Ytinfcngkbdiddaa
