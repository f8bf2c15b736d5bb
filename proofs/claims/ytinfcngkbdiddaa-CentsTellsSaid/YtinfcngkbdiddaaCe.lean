
/- Walk over ask of the reference of layer 27. Conditions stand in the theorem. -/
import Derived.Test.YtinfcngkbdiddaaCb
namespace Go.Proofs.Ytinfcngkbdiddaa
open Go.RowKit
set_option linter.unusedVariables false
set_option linter.unusedSimpArgs false

set_option maxRecDepth 100000 in
set_option maxHeartbeats 4000000 in
theorem rask_any (total : Int) (A A2 : Option Addr) (n cap n2 cap2 : Nat) (l m : List Fv) (w : World) (hl : RdF w w.heap.size A n cap l) (hm : RdF w w.heap.size A2 n2 cap2 m) (ht : -9223372036854775808 ≤ total ∧ total ≤ 9223372036854775807) :
    Calls Try.prog 32 #[.int .i64 total, .slice A n cap, .slice A2 n2 cap2] w fun e w' => e = .returned (.int .i64 (checkC total l m)) ∧ Below w.heap.size w w' := by
  have hcaps := hl.caps
  have hcaps2 := hm.caps
  have hlen := hl.len
  have hlen2 := hm.len
  have K := St.start w
  have r := K.raw
  have HRm := Lib.hid (fun W (h : Below w.heap.size w W) => rright_any A2 n2 cap2 m W (hm.up fE_lasts h))
  have HF := Lib.hid (fun W (h : Below w.heap.size w W) => rfine_any A n cap l W (hl.up fE_lasts h))
  have HL := Lib.hid hl
  obtain ⟨E, hE⟩ : ∃ E, E = checkC total l m := ⟨_, rfl⟩
  rw [← hE]
  by_cases h1 : total < 0
  · have HX := Lib.hid (show E = 1 from hE.trans (checkC_no (by omega)))
    have hd : decide (total < 0) = true := decide_eq_true h1
    clear hE hlen hlen2 hl hm
    go_enter Try.func32, Try.ntmps32
    go_wp2_with (first | ((first | (apply K.alloc; rfl; rfl; (first | with_reducible exact big_zero | with_reducible exact frac_zero)) | (apply K.box; rfl; rfl; rfl)); clear K r; (first | ((fail_if_success revert b0); intro W b0 K) | ((fail_if_success revert b1); intro W b1 K) | ((fail_if_success revert b2); intro W b2 K) | ((fail_if_success revert b3); intro W b3 K) | ((fail_if_success revert b4); intro W b4 K) | ((fail_if_success revert b5); intro W b5 K) | ((fail_if_success revert b6); intro W b6 K) | ((fail_if_success revert b7); intro W b7 K)); have r := K.rawS) | (apply K.storeA; rfl; rfl; rfl; rfl; rfl; (repeat (first | with_reducible exact Upd.head _ | with_reducible apply Upd.tail)); (first | with_reducible exact big_size | with_reducible exact frac_size); rfl; rfl; rfl; clear K r; intro W K; have r := K.rawS))
    go_ret
    exact ⟨by rw [HX.out]; first | done | rfl, K.1⟩
  have hd : decide (total < 0) = false := decide_eq_false h1
  by_cases h2 : 1000000000000000 < total
  · have HX := Lib.hid (show E = 1 from hE.trans (checkC_no (by omega)))
    have hd2 : decide (1000000000000000 < total) = true := decide_eq_true h2
    clear hE hlen hlen2 hl hm
    go_enter Try.func32, Try.ntmps32
    go_wp2_with (first | ((first | (apply K.alloc; rfl; rfl; (first | with_reducible exact big_zero | with_reducible exact frac_zero)) | (apply K.box; rfl; rfl; rfl)); clear K r; (first | ((fail_if_success revert b0); intro W b0 K) | ((fail_if_success revert b1); intro W b1 K) | ((fail_if_success revert b2); intro W b2 K) | ((fail_if_success revert b3); intro W b3 K) | ((fail_if_success revert b4); intro W b4 K) | ((fail_if_success revert b5); intro W b5 K) | ((fail_if_success revert b6); intro W b6 K) | ((fail_if_success revert b7); intro W b7 K)); have r := K.rawS) | (apply K.storeA; rfl; rfl; rfl; rfl; rfl; (repeat (first | with_reducible exact Upd.head _ | with_reducible apply Upd.tail)); (first | with_reducible exact big_size | with_reducible exact frac_size); rfl; rfl; rfl; clear K r; intro W K; have r := K.rawS))
    go_ret
    exact ⟨by rw [HX.out]; first | done | rfl, K.1⟩
  have hd2 : decide (1000000000000000 < total) = false := decide_eq_false h2
  cases h3 : rightM m
  · have HX := Lib.hid (show E = 1 from hE.trans (checkC_no (fun h => by rw [h3] at h; exact absurd h.2.2.1 (by simp))))
    rw [h3] at HRm
    clear hE hlen hlen2 h3 hl hm
    go_enter Try.func32, Try.ntmps32
    go_wp2_with (first | ((first | (apply K.alloc; rfl; rfl; (first | with_reducible exact big_zero | with_reducible exact frac_zero)) | (apply K.box; rfl; rfl; rfl)); clear K r; (first | ((fail_if_success revert b0); intro W b0 K) | ((fail_if_success revert b1); intro W b1 K) | ((fail_if_success revert b2); intro W b2 K) | ((fail_if_success revert b3); intro W b3 K) | ((fail_if_success revert b4); intro W b4 K) | ((fail_if_success revert b5); intro W b5 K) | ((fail_if_success revert b6); intro W b6 K) | ((fail_if_success revert b7); intro W b7 K)); have r := K.rawS) | (apply K.storeA; rfl; rfl; rfl; rfl; rfl; (repeat (first | with_reducible exact Upd.head _ | with_reducible apply Upd.tail)); (first | with_reducible exact big_size | with_reducible exact frac_size); rfl; rfl; rfl; clear K r; intro W K; have r := K.rawS))
    refine (HRm.out _ K.1).mono ?_
    rintro e W' ⟨rfl, hb⟩
    replace K := K.keep hb
    clear r
    have r := K.rawS
    clear hb
    go_wp2_with (first | ((first | (apply K.alloc; rfl; rfl; (first | with_reducible exact big_zero | with_reducible exact frac_zero)) | (apply K.box; rfl; rfl; rfl)); clear K r; (first | ((fail_if_success revert b0); intro W b0 K) | ((fail_if_success revert b1); intro W b1 K) | ((fail_if_success revert b2); intro W b2 K) | ((fail_if_success revert b3); intro W b3 K) | ((fail_if_success revert b4); intro W b4 K) | ((fail_if_success revert b5); intro W b5 K) | ((fail_if_success revert b6); intro W b6 K) | ((fail_if_success revert b7); intro W b7 K)); have r := K.rawS) | (apply K.storeA; rfl; rfl; rfl; rfl; rfl; (repeat (first | with_reducible exact Upd.head _ | with_reducible apply Upd.tail)); (first | with_reducible exact big_size | with_reducible exact frac_size); rfl; rfl; rfl; clear K r; intro W K; have r := K.rawS))
    go_ret
    exact ⟨by rw [HX.out]; first | done | rfl, K.1⟩
  rw [h3] at HRm
  by_cases h4 : (n : Int) = (n2 : Int)
  case neg =>
    have HX := Lib.hid (show E = 1 from hE.trans (checkC_no (fun h => h4 (by have := h.2.2.2.1; omega))))
    have hd4 : ((n : Int) != (n2 : Int)) = true := by simp [h4]
    clear hE hlen hlen2 h3 hl hm
    go_enter Try.func32, Try.ntmps32
    go_wp2_with (first | ((first | (apply K.alloc; rfl; rfl; (first | with_reducible exact big_zero | with_reducible exact frac_zero)) | (apply K.box; rfl; rfl; rfl)); clear K r; (first | ((fail_if_success revert b0); intro W b0 K) | ((fail_if_success revert b1); intro W b1 K) | ((fail_if_success revert b2); intro W b2 K) | ((fail_if_success revert b3); intro W b3 K) | ((fail_if_success revert b4); intro W b4 K) | ((fail_if_success revert b5); intro W b5 K) | ((fail_if_success revert b6); intro W b6 K) | ((fail_if_success revert b7); intro W b7 K)); have r := K.rawS) | (apply K.storeA; rfl; rfl; rfl; rfl; rfl; (repeat (first | with_reducible exact Upd.head _ | with_reducible apply Upd.tail)); (first | with_reducible exact big_size | with_reducible exact frac_size); rfl; rfl; rfl; clear K r; intro W K; have r := K.rawS))
    refine (HRm.out _ K.1).mono ?_
    rintro e W' ⟨rfl, hb⟩
    replace K := K.keep hb
    clear r
    have r := K.rawS
    clear hb
    go_wp2_with (first | ((first | (apply K.alloc; rfl; rfl; (first | with_reducible exact big_zero | with_reducible exact frac_zero)) | (apply K.box; rfl; rfl; rfl)); clear K r; (first | ((fail_if_success revert b0); intro W b0 K) | ((fail_if_success revert b1); intro W b1 K) | ((fail_if_success revert b2); intro W b2 K) | ((fail_if_success revert b3); intro W b3 K) | ((fail_if_success revert b4); intro W b4 K) | ((fail_if_success revert b5); intro W b5 K) | ((fail_if_success revert b6); intro W b6 K) | ((fail_if_success revert b7); intro W b7 K)); have r := K.rawS) | (apply K.storeA; rfl; rfl; rfl; rfl; rfl; (repeat (first | with_reducible exact Upd.head _ | with_reducible apply Upd.tail)); (first | with_reducible exact big_size | with_reducible exact frac_size); rfl; rfl; rfl; clear K r; intro W K; have r := K.rawS))
    go_ret
    exact ⟨by rw [HX.out]; first | done | rfl, K.1⟩
  obtain rfl : n = n2 := by omega
  have hd4 : ((n : Int) != (n : Int)) = false := by simp
  clear h4
  cases h5 : l.all Fv.ok
  · have HX := Lib.hid (show E = 1 from hE.trans (checkC_no (fun h => by rw [h5] at h; exact absurd h.2.2.2.2.1 (by simp))))
    rw [h5] at HF
    clear hE hlen hlen2 h3 hl hm
    go_enter Try.func32, Try.ntmps32
    go_wp2_with (first | ((first | (apply K.alloc; rfl; rfl; (first | with_reducible exact big_zero | with_reducible exact frac_zero)) | (apply K.box; rfl; rfl; rfl)); clear K r; (first | ((fail_if_success revert b0); intro W b0 K) | ((fail_if_success revert b1); intro W b1 K) | ((fail_if_success revert b2); intro W b2 K) | ((fail_if_success revert b3); intro W b3 K) | ((fail_if_success revert b4); intro W b4 K) | ((fail_if_success revert b5); intro W b5 K) | ((fail_if_success revert b6); intro W b6 K) | ((fail_if_success revert b7); intro W b7 K)); have r := K.rawS) | (apply K.storeA; rfl; rfl; rfl; rfl; rfl; (repeat (first | with_reducible exact Upd.head _ | with_reducible apply Upd.tail)); (first | with_reducible exact big_size | with_reducible exact frac_size); rfl; rfl; rfl; clear K r; intro W K; have r := K.rawS))
    refine (HRm.out _ K.1).mono ?_
    rintro e W' ⟨rfl, hb⟩
    replace K := K.keep hb
    clear r
    have r := K.rawS
    clear hb
    go_wp2_with (first | ((first | (apply K.alloc; rfl; rfl; (first | with_reducible exact big_zero | with_reducible exact frac_zero)) | (apply K.box; rfl; rfl; rfl)); clear K r; (first | ((fail_if_success revert b0); intro W b0 K) | ((fail_if_success revert b1); intro W b1 K) | ((fail_if_success revert b2); intro W b2 K) | ((fail_if_success revert b3); intro W b3 K) | ((fail_if_success revert b4); intro W b4 K) | ((fail_if_success revert b5); intro W b5 K) | ((fail_if_success revert b6); intro W b6 K) | ((fail_if_success revert b7); intro W b7 K)); have r := K.rawS) | (apply K.storeA; rfl; rfl; rfl; rfl; rfl; (repeat (first | with_reducible exact Upd.head _ | with_reducible apply Upd.tail)); (first | with_reducible exact big_size | with_reducible exact frac_size); rfl; rfl; rfl; clear K r; intro W K; have r := K.rawS))
    refine (HF.out _ K.1).mono ?_
    rintro e W' ⟨rfl, hb⟩
    replace K := K.keep hb
    clear r
    have r := K.rawS
    clear hb
    go_wp2_with (first | ((first | (apply K.alloc; rfl; rfl; (first | with_reducible exact big_zero | with_reducible exact frac_zero)) | (apply K.box; rfl; rfl; rfl)); clear K r; (first | ((fail_if_success revert b0); intro W b0 K) | ((fail_if_success revert b1); intro W b1 K) | ((fail_if_success revert b2); intro W b2 K) | ((fail_if_success revert b3); intro W b3 K) | ((fail_if_success revert b4); intro W b4 K) | ((fail_if_success revert b5); intro W b5 K) | ((fail_if_success revert b6); intro W b6 K) | ((fail_if_success revert b7); intro W b7 K)); have r := K.rawS) | (apply K.storeA; rfl; rfl; rfl; rfl; rfl; (repeat (first | with_reducible exact Upd.head _ | with_reducible apply Upd.tail)); (first | with_reducible exact big_size | with_reducible exact frac_size); rfl; rfl; rfl; clear K r; intro W K; have r := K.rawS))
    go_ret
    exact ⟨by rw [HX.out]; first | done | rfl, K.1⟩
  have hNeg := neg_any h5
  rw [h5] at HF
  have HE1 := Lib.hid (show ∀ x ∈ l, negV x = true → E = 1 from fun x hx hn => hE.trans (checkC_no (fun h => by
    have := hNeg.2 h.2.2.2.2.2
    rw [List.any_eq_false] at this
    exact this x hx hn)))
  have HE2 := Lib.hid (show l.any negV = false → E = (match sumF 0 (l.map Fv.rat) with
      | none => 6
      | some q => if q = (total : Rat) then 0 else 1) from fun h6 => by
    rw [hE]
    unfold checkC
    rw [if_pos ⟨by omega, by omega, h3, by omega, h5, hNeg.1 h6⟩]
    cases sumF 0 (l.map Fv.rat) <;> rfl)
  have HSm := Lib.hid (fun W (h : Below w.heap.size w W) => rsum_any A n cap l W (hl.up fE_lasts h) (fun x hx => List.all_eq_true.1 h5 x hx))
  have Hlen := Lib.hid hlen
  clear hE hlen hlen2 h3 hNeg h5 hl hm
  go_enter Try.func32, Try.ntmps32
  go_wp2_with (first | ((first | (apply K.alloc; rfl; rfl; (first | with_reducible exact big_zero | with_reducible exact frac_zero)) | (apply K.box; rfl; rfl; rfl)); clear K r; (first | ((fail_if_success revert b0); intro W b0 K) | ((fail_if_success revert b1); intro W b1 K) | ((fail_if_success revert b2); intro W b2 K) | ((fail_if_success revert b3); intro W b3 K) | ((fail_if_success revert b4); intro W b4 K) | ((fail_if_success revert b5); intro W b5 K) | ((fail_if_success revert b6); intro W b6 K) | ((fail_if_success revert b7); intro W b7 K)); have r := K.rawS) | (apply K.storeA; rfl; rfl; rfl; rfl; rfl; (repeat (first | with_reducible exact Upd.head _ | with_reducible apply Upd.tail)); (first | with_reducible exact big_size | with_reducible exact frac_size); rfl; rfl; rfl; clear K r; intro W K; have r := K.rawS))
  refine (HRm.out _ K.1).mono ?_
  rintro e W' ⟨rfl, hb⟩
  replace K := K.keep hb
  clear r
  have r := K.rawS
  clear hb
  go_wp2_with (first | ((first | (apply K.alloc; rfl; rfl; (first | with_reducible exact big_zero | with_reducible exact frac_zero)) | (apply K.box; rfl; rfl; rfl)); clear K r; (first | ((fail_if_success revert b0); intro W b0 K) | ((fail_if_success revert b1); intro W b1 K) | ((fail_if_success revert b2); intro W b2 K) | ((fail_if_success revert b3); intro W b3 K) | ((fail_if_success revert b4); intro W b4 K) | ((fail_if_success revert b5); intro W b5 K) | ((fail_if_success revert b6); intro W b6 K) | ((fail_if_success revert b7); intro W b7 K)); have r := K.rawS) | (apply K.storeA; rfl; rfl; rfl; rfl; rfl; (repeat (first | with_reducible exact Upd.head _ | with_reducible apply Upd.tail)); (first | with_reducible exact big_size | with_reducible exact frac_size); rfl; rfl; rfl; clear K r; intro W K; have r := K.rawS))
  refine (HF.out _ K.1).mono ?_
  rintro e W' ⟨rfl, hb⟩
  replace K := K.keep hb
  clear r
  have r := K.rawS
  clear hb
  go_wp2_with (first | ((first | (apply K.alloc; rfl; rfl; (first | with_reducible exact big_zero | with_reducible exact frac_zero)) | (apply K.box; rfl; rfl; rfl)); clear K r; (first | ((fail_if_success revert b0); intro W b0 K) | ((fail_if_success revert b1); intro W b1 K) | ((fail_if_success revert b2); intro W b2 K) | ((fail_if_success revert b3); intro W b3 K) | ((fail_if_success revert b4); intro W b4 K) | ((fail_if_success revert b5); intro W b5 K) | ((fail_if_success revert b6); intro W b6 K) | ((fail_if_success revert b7); intro W b7 K)); have r := K.rawS) | (apply K.storeA; rfl; rfl; rfl; rfl; rfl; (repeat (first | with_reducible exact Upd.head _ | with_reducible apply Upd.tail)); (first | with_reducible exact big_size | with_reducible exact frac_size); rfl; rfl; rfl; clear K r; intro W K; have r := K.rawS))
  go_loopg [7] n (fun gk s7 wr => ∃ j : Nat, j ≤ n ∧ gk = n - j ∧ s7 = .int .i64 j ∧ Hid (∀ (i : Nat) x, i < j → l[i]? = some x → negV x = false) ∧ St w [] [] wr)
  case atStart => exact ⟨0, Nat.zero_le _, rfl, rfl, Lib.hid (fun i x h => absurd h (by omega)), K⟩
  case round =>
    clear K r
    obtain ⟨j, hj, rfl, rfl, HA, K⟩ := hrel
    have r := K.rawS
    by_cases hlt : j < n
    · obtain ⟨eb1, off1, A1, n1, c1, B1, m1, d1, x, hA1, hbB1, hx1, ⟨z0, z1, z2, z3⟩, r1, q1⟩ := HL.out.atF hlt
      subst hA1
      have Ex1 := Lib.hid (fun W (h : Below w.heap.size w W) => (⟨(h.cell (p := ⟨eb1, off1 + j * 4, none⟩) hbB1).trans z0, (h.cell (p := ⟨eb1, off1 + j * 4 + 1, none⟩) hbB1).trans z1, (h.cell (p := ⟨eb1, off1 + j * 4 + 2, none⟩) hbB1).trans z2, (h.cell (p := ⟨eb1, off1 + j * 4 + 3, none⟩) hbB1).trans z3⟩ : W.cell? ⟨eb1, off1 + j * 4, none⟩ = some (.int .i64 (x).s) ∧ W.cell? ⟨eb1, off1 + j * 4 + 1, none⟩ = some (.slice A1 n1 c1) ∧ W.cell? ⟨eb1, off1 + j * 4 + 2, none⟩ = some (.int .i64 (x).t) ∧ W.cell? ⟨eb1, off1 + j * 4 + 3, none⟩ = some (.slice B1 m1 d1)))
      have hki : (j : Int) < (n : Int) := by omega
      have hk0 : (0 : Int) ≤ (j : Int) := by omega
      have hcap1 := r1.caps
      have hcbp1 := q1.caps
      replace K := (K.oldRd r1).oldRd q1
      have Hx1 := Lib.hid hx1
      clear hx1 z0 z1 z2 z3 r1 q1
      have e1 := Ex1.out _ K.1
      by_cases hx : x.s < 0
      · have HX := Lib.hid (HE1.out x (List.mem_of_getElem? Hx1.out) (decide_eq_true hx))
        have hxd : decide (x.s < 0) = true := decide_eq_true hx
        clear HA
        go_wp2_with fail
        go_ret
        exact ⟨by rw [HX.out]; first | done | rfl, K.1⟩
      · have hxd : decide (x.s < 0) = false := decide_eq_false hx
        have HO := Lib.hid (show ∀ (i : Nat) y, i < j + 1 → l[i]? = some y → negV y = false from fun i y hi hy => by
          by_cases e : i = j
          · subst e; rw [Hx1.out] at hy; cases hy; exact decide_eq_false hx
          · exact HA.out i y (by omega) hy)
        clear HA
        go_wp2_with fail
        go_roundg (n - (j + 1))
        case rel => exact ⟨j + 1, hlt, rfl, by go_num, HO, K.less (fun _ h => by cases h)⟩
        case measure => omega
    · have e : n = j := by omega
      subst e
      have hout : l.any negV = false := by
        rw [List.any_eq_false]
        intro x hx
        obtain ⟨i, hi, rfl⟩ := List.mem_iff_getElem.1 hx
        rw [HA.out i _ (by rw [Hlen.out] at hi; exact hi) (List.getElem?_eq_getElem hi)]
        simp
      have hC := HE2.out hout
      clear HA hout HE1 HE2
      go_wp2_with (first | ((first | (apply K.alloc; rfl; rfl; (first | with_reducible exact big_zero | with_reducible exact frac_zero)) | (apply K.box; rfl; rfl; rfl)); clear K r; (first | ((fail_if_success revert b0); intro W b0 K) | ((fail_if_success revert b1); intro W b1 K) | ((fail_if_success revert b2); intro W b2 K) | ((fail_if_success revert b3); intro W b3 K) | ((fail_if_success revert b4); intro W b4 K) | ((fail_if_success revert b5); intro W b5 K) | ((fail_if_success revert b6); intro W b6 K) | ((fail_if_success revert b7); intro W b7 K)); have r := K.rawS) | (apply K.storeA; rfl; rfl; rfl; rfl; rfl; (repeat (first | with_reducible exact Upd.head _ | with_reducible apply Upd.tail)); (first | with_reducible exact big_size | with_reducible exact frac_size); rfl; rfl; rfl; clear K r; intro W K; have r := K.rawS))
      refine (HSm.out _ K.1).mono ?_
      rintro e W' ⟨s3, A3, n3, c3, l3, t3, B3, m3, d3, k3, rfl, ⟨hra, hrb⟩, hV, ⟨hfa, hfb⟩, hb⟩
      have HV := Lib.hid hV
      clear hV
      have hf3 := Lib.hid (hfa.mono K.1.size)
      have hg3 := Lib.hid (hfb.mono K.1.size)
      replace K := K.retF hb hra hrb hfa hfb
      clear r
      have r := K.rawS
      clear hra hrb hfa hfb hb
      have hrl : ratL l = l.map Fv.rat := rfl
      rw [hrl] at HV ⊢
      cases hs : sumF 0 (l.map Fv.rat) with
      | none =>
        rw [hs] at hC
        have HX := Lib.hid (show E = 6 from hC)
        have eI : (none : Option Rat).isSome = false := rfl
        rw [eI]
        clear hC hs HV eI
        go_wp2_with (first | ((first | (apply K.alloc; rfl; rfl; (first | with_reducible exact big_zero | with_reducible exact frac_zero)) | (apply K.box; rfl; rfl; rfl)); clear K r; (first | ((fail_if_success revert b0); intro W b0 K) | ((fail_if_success revert b1); intro W b1 K) | ((fail_if_success revert b2); intro W b2 K) | ((fail_if_success revert b3); intro W b3 K) | ((fail_if_success revert b4); intro W b4 K) | ((fail_if_success revert b5); intro W b5 K) | ((fail_if_success revert b6); intro W b6 K) | ((fail_if_success revert b7); intro W b7 K)); have r := K.rawS) | (apply K.storeA; rfl; rfl; rfl; rfl; rfl; (repeat (first | with_reducible exact Upd.head _ | with_reducible apply Upd.tail)); (first | with_reducible exact big_size | with_reducible exact frac_size); rfl; rfl; rfl; clear K r; intro W K; have r := K.rawS))
        go_ret
        exact ⟨by rw [HX.out]; first | done | rfl, K.1⟩
      | some q =>
        rw [hs] at hC
        have HX := Lib.hid hC
        obtain ⟨hs3, fq⟩ := HV.out q hs
        have eI : (some q).isSome = true := rfl
        rw [eI]
        have hT := Lib.hid (fun W => rOf_any total 1 W ht (by decide) (by decide))
        rw [divInt_1] at hT
        have P1 := Lib.hid (fun s2 t2 A2 B2 n2 c2 m2 d2 l2 k2 W a b c d h2 => qSame q (total : Rat) s3 t3 s2 t2 A3 B3 A2 B2 n3 c3 m3 d3 n2 c2 m2 d2 l3 k3 l2 k2 W a b c d hs3 h2)
        clear hC hs HV hs3 fq eI
        by_cases hq : q = (total : Rat)
        · have HY := Lib.hid (show E = 0 from by rw [HX.out]; exact if_pos hq)
          rw [decide_eq_true hq] at P1
          generalize ((total : Int) : Rat) = z at *
          clear hq HX
          go_upto_region 11 with (first | ((first | (apply K.alloc; rfl; rfl; (first | with_reducible exact big_zero | with_reducible exact frac_zero)) | (apply K.box; rfl; rfl; rfl)); clear K r; (first | ((fail_if_success revert b0); intro W b0 K) | ((fail_if_success revert b1); intro W b1 K) | ((fail_if_success revert b2); intro W b2 K) | ((fail_if_success revert b3); intro W b3 K) | ((fail_if_success revert b4); intro W b4 K) | ((fail_if_success revert b5); intro W b5 K) | ((fail_if_success revert b6); intro W b6 K) | ((fail_if_success revert b7); intro W b7 K)); have r := K.rawS) | (apply K.storeA; rfl; rfl; rfl; rfl; rfl; (repeat (first | with_reducible exact Upd.head _ | with_reducible apply Upd.tail)); (first | with_reducible exact big_size | with_reducible exact frac_size); rfl; rfl; rfl; clear K r; intro W K; have r := K.rawS))
          have Kd := K.drew
          go_region_with (first
            | (go_at_call 36; (with_reducible refine (hT.out _).mono ?_); rintro e W ⟨s50, A50, n50, c50, l50, t50, B50, m50, d50, k50, rfl, ⟨hra, hrb⟩, hs50, ⟨hfa, hfb⟩, hb⟩; (first | with_reducible replace K := Kd.retF hb hra hrb hfa hfb | with_reducible replace K := K.retF hb hra hrb hfa hfb); clear r hra hrb hfa hfb hb; have r := K.rawS)
            | (go_at_call 17; (with_reducible refine (P1.out _ _ _ _ _ _ _ _ _ _ _ ?qa ?qb ?qc ?qd hs50).mono ?_); (case qa => exact K.rd (by repeat (first | with_reducible exact List.mem_cons_self | with_reducible apply List.mem_cons_of_mem))); (case qb => exact K.rd (by repeat (first | with_reducible exact List.mem_cons_self | with_reducible apply List.mem_cons_of_mem))); (case qc => exact K.rd (by repeat (first | with_reducible exact List.mem_cons_self | with_reducible apply List.mem_cons_of_mem))); (case qd => exact K.rd (by repeat (first | with_reducible exact List.mem_cons_self | with_reducible apply List.mem_cons_of_mem))); rintro e W ⟨rfl, hb⟩; replace K := K.keep hb; clear r hb; have r := K.rawS))
          all_goals
            go_wp2_with fail
            go_ret
            exact ⟨by rw [HY.out]; first | done | rfl, K.1⟩
        · have HY := Lib.hid (show E = 1 from by rw [HX.out]; exact if_neg hq)
          rw [decide_eq_false hq] at P1
          generalize ((total : Int) : Rat) = z at *
          clear hq HX
          go_upto_region 11 with (first | ((first | (apply K.alloc; rfl; rfl; (first | with_reducible exact big_zero | with_reducible exact frac_zero)) | (apply K.box; rfl; rfl; rfl)); clear K r; (first | ((fail_if_success revert b0); intro W b0 K) | ((fail_if_success revert b1); intro W b1 K) | ((fail_if_success revert b2); intro W b2 K) | ((fail_if_success revert b3); intro W b3 K) | ((fail_if_success revert b4); intro W b4 K) | ((fail_if_success revert b5); intro W b5 K) | ((fail_if_success revert b6); intro W b6 K) | ((fail_if_success revert b7); intro W b7 K)); have r := K.rawS) | (apply K.storeA; rfl; rfl; rfl; rfl; rfl; (repeat (first | with_reducible exact Upd.head _ | with_reducible apply Upd.tail)); (first | with_reducible exact big_size | with_reducible exact frac_size); rfl; rfl; rfl; clear K r; intro W K; have r := K.rawS))
          have Kd := K.drew
          go_region_with (first
            | (go_at_call 36; (with_reducible refine (hT.out _).mono ?_); rintro e W ⟨s50, A50, n50, c50, l50, t50, B50, m50, d50, k50, rfl, ⟨hra, hrb⟩, hs50, ⟨hfa, hfb⟩, hb⟩; (first | with_reducible replace K := Kd.retF hb hra hrb hfa hfb | with_reducible replace K := K.retF hb hra hrb hfa hfb); clear r hra hrb hfa hfb hb; have r := K.rawS)
            | (go_at_call 17; (with_reducible refine (P1.out _ _ _ _ _ _ _ _ _ _ _ ?qa ?qb ?qc ?qd hs50).mono ?_); (case qa => exact K.rd (by repeat (first | with_reducible exact List.mem_cons_self | with_reducible apply List.mem_cons_of_mem))); (case qb => exact K.rd (by repeat (first | with_reducible exact List.mem_cons_self | with_reducible apply List.mem_cons_of_mem))); (case qc => exact K.rd (by repeat (first | with_reducible exact List.mem_cons_self | with_reducible apply List.mem_cons_of_mem))); (case qd => exact K.rd (by repeat (first | with_reducible exact List.mem_cons_self | with_reducible apply List.mem_cons_of_mem))); rintro e W ⟨rfl, hb⟩; replace K := K.keep hb; clear r hb; have r := K.rawS))
          all_goals
            go_wp2_with fail
            go_ret
            exact ⟨by rw [HY.out]; first | done | rfl, K.1⟩
end Go.Proofs.Ytinfcngkbdiddaa
