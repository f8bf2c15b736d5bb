
/- Walk over Int of the reference of layer 4. Conditions stand in the theorem. -/
import Derived.Test.YtinfcngkbdiddaaE15
import Derived.Test.YtinfcngkbdiddaaD
namespace Go.Proofs.Ytinfcngkbdiddaa
open Go.RowKit
set_option linter.unusedVariables false
set_option linter.unusedSimpArgs false

theorem vF_pos {f : Nat → Int} : ∀ {n : Nat}, Dg f n → 0 ≤ vF f n := fun {n} h => by
  rw [← val_ofF]
  exact val_nonneg h.ok
/-- the number of the digits from k on -/
theorem vT_le {f : Nat → Int} {n : Nat} (h : Dg f n) : ∀ k, k ≤ n → 0 ≤ vT f n k ∧ vT f n k ≤ vF f n
  | 0, _ => by rw [vT_all]; exact ⟨vF_pos h, Int.le_refl _⟩
  | k + 1, hk => by
    have h1 := vT_le h k (by omega)
    have h2 := vT_step f (n := n) (i := k) (by omega)
    have h3 : 0 ≤ vT f n (k + 1) := by
      unfold vT
      exact vF_pos fun i hi => h _ (by omega)
    have h4 := h k (by omega)
    omega
theorem St.hideE {w W : World} {L : List Blk} {D : List Hl} (K : St w L D W) : ∃ R : World → Prop, ∀ W', R W' ↔ St w L D W' := ⟨_, fun _ => Iff.rfl⟩
set_option maxRecDepth 100000 in
set_option maxHeartbeats 4000000 in
theorem eInt_any (s : Int) (A : Option Addr) (n cap : Nat) (l : List Int) (w : World) (hl : RdI w w.heap.size A n cap l) :
    Calls Try.prog 33 #[.agg #[.int .i64 s, .slice A n cap]] w fun e w' => e = .returned (.tuple #[.int .i64 (intV s l), .bool (intC s l)]) ∧ Below w.heap.size w w' := by
  have K := (St.start w).oldRd hl
  have r := K.raw
  have HR := Lib.hid (fun W hl => eright_any s A n cap l W hl)
  cases h1 : rightB s l
  · rw [h1] at HR
    have e1 : intC s l = false := by unfold intC; rw [h1]; rfl
    rw [intC_false e1, e1]
    clear e1 h1
    go_enter Try.func33, Try.ntmps33
    go_wp2_with (first | ((first | (apply K.alloc; rfl; rfl; (first | with_reducible exact big_zero | with_reducible exact frac_zero)) | (apply K.box; rfl; rfl; rfl)); clear K r; (first | ((fail_if_success revert b0); intro W b0 K) | ((fail_if_success revert b1); intro W b1 K) | ((fail_if_success revert b2); intro W b2 K) | ((fail_if_success revert b3); intro W b3 K) | ((fail_if_success revert b4); intro W b4 K) | ((fail_if_success revert b5); intro W b5 K) | ((fail_if_success revert b6); intro W b6 K) | ((fail_if_success revert b7); intro W b7 K)); have r := K.rawS) | (apply K.storeA; rfl; rfl; rfl; rfl; rfl; (repeat (first | with_reducible exact Upd.head _ | with_reducible apply Upd.tail)); (first | with_reducible exact big_size | with_reducible exact frac_size); rfl; rfl; rfl; clear K r; intro W K; have r := K.rawS))
    refine (HR.out _ (by first | exact Rd.nil | exact K.rda)).mono ?_
    rintro e W' ⟨rfl, hb⟩
    replace K := K.keep hb
    clear r
    have r := K.rawS
    clear hb
    go_wp2
    go_ret2
    exact ⟨rfl, K.1⟩
  rw [h1] at HR
  have hst := Std.of_right h1
  have hfit := fits_of_right h1
  have hsg := hst.signs
  have hln := hl.len
  have hcap := hl.caps
  have hls : l = digs (bval s l).natAbs := hst.2
  have hda : Dg (gi l) n := by have h2 := (digs_cn (bval s l).natAbs).1; rw [← hls] at h2; exact h2.at hln
  have hval : vF (gi l) n = ((bval s l).natAbs : Int) := by
    rw [← val_vF hln]
    have := digs_val (bval s l).natAbs
    rw [← hls] at this
    exact this
  have hn60 : n ≤ 60 := by rw [← hln, hls]; exact digs_len.2 (fits_iff.1 hfit)
  have eC : intC s l = decide (-9223372036854775808 ≤ bval s l ∧ bval s l ≤ 9223372036854775807) := by unfold intC; rw [h1]; rfl
  have eV : intV s l = if decide (-9223372036854775808 ≤ bval s l ∧ bval s l ≤ 9223372036854775807) = true then bval s l else 0 := by unfold intV; rw [eC]
  rw [eC, eV]
  generalize bval s l = z at *
  have HC1 := Lib.hid (fun W t A2 n2 cap2 b h (h2 : Std t b (-9223372036854775808)) hl => uCompare z (-9223372036854775808) s A n cap l t A2 n2 cap2 b W hl h hst h2 hfit (fits_i64 (by decide)))
  have HC2 := Lib.hid (fun W t A2 n2 cap2 b h (h2 : Std t b 9223372036854775807) hl => uCompare z 9223372036854775807 s A n cap l t A2 n2 cap2 b W hl h hst h2 hfit (fits_i64 (by decide)))
  obtain ⟨V1, hV1⟩ : ∃ V, V = cmpI z (-9223372036854775808) := ⟨_, rfl⟩
  obtain ⟨V2, hV2⟩ : ∃ V, V = cmpI z 9223372036854775807 := ⟨_, rfl⟩
  rw [← hV1] at HC1
  rw [← hV2] at HC2
  clear eC eV h1 hst hfit hls hln
  by_cases hz1 : z < -9223372036854775808
  · have v1 : V1 < 0 := by rw [hV1, cmpI_lt hz1]; decide
    have v1' : decide (V1 < 0) = true := decide_eq_true v1
    rw [decide_eq_false (show ¬ (-9223372036854775808 ≤ z ∧ z ≤ 9223372036854775807) by omega), if_neg (by simp)]
    clear hV1 hV2 HC2 hz1 hval hda hsg
    go_enter Try.func33, Try.ntmps33
    go_wp2_with (first | ((first | (apply K.alloc; rfl; rfl; (first | with_reducible exact big_zero | with_reducible exact frac_zero)) | (apply K.box; rfl; rfl; rfl)); clear K r; (first | ((fail_if_success revert b0); intro W b0 K) | ((fail_if_success revert b1); intro W b1 K) | ((fail_if_success revert b2); intro W b2 K) | ((fail_if_success revert b3); intro W b3 K) | ((fail_if_success revert b4); intro W b4 K) | ((fail_if_success revert b5); intro W b5 K) | ((fail_if_success revert b6); intro W b6 K) | ((fail_if_success revert b7); intro W b7 K)); have r := K.rawS) | (apply K.storeA; rfl; rfl; rfl; rfl; rfl; (repeat (first | with_reducible exact Upd.head _ | with_reducible apply Upd.tail)); (first | with_reducible exact big_size | with_reducible exact frac_size); rfl; rfl; rfl; clear K r; intro W K; have r := K.rawS))
    refine (HR.out _ (by first | exact Rd.nil | exact K.rda)).mono ?_
    rintro e W' ⟨rfl, hb⟩
    replace K := K.keep hb
    clear r
    have r := K.rawS
    clear hb
    go_upto_region 4 with (first | ((first | (apply K.alloc; rfl; rfl; (first | with_reducible exact big_zero | with_reducible exact frac_zero)) | (apply K.box; rfl; rfl; rfl)); clear K r; (first | ((fail_if_success revert b0); intro W b0 K) | ((fail_if_success revert b1); intro W b1 K) | ((fail_if_success revert b2); intro W b2 K) | ((fail_if_success revert b3); intro W b3 K) | ((fail_if_success revert b4); intro W b4 K) | ((fail_if_success revert b5); intro W b5 K) | ((fail_if_success revert b6); intro W b6 K) | ((fail_if_success revert b7); intro W b7 K)); have r := K.rawS) | (apply K.storeA; rfl; rfl; rfl; rfl; rfl; (repeat (first | with_reducible exact Upd.head _ | with_reducible apply Upd.tail)); (first | with_reducible exact big_size | with_reducible exact frac_size); rfl; rfl; rfl; clear K r; intro W K; have r := K.rawS))
    obtain ⟨RX, HX⟩ := K.hideE
    go_cut [20] from 10 to 20 (fun p wx => p = .bool true ∧ RX wx)
    case first =>
      have Kd := K.drew
      go_region_with (first
        | (go_at_call 48; (with_reducible refine (eOf_any _ _ ?q).mono ?_); (case q => decide); rintro e W ⟨s30, A30, n30, c30, l30, rfl, hr, hs30, hf, hb⟩; (first | with_reducible replace K := Kd.ret hb hr hf | with_reducible replace K := K.ret hb hr hf); clear r hr hf hb; have r := K.rawS)
        | (go_at_call 47; (with_reducible refine (HC1.out _ _ _ _ _ _ ?qa hs30 ?qb).mono ?_); (case qa => exact K.rd (by repeat (first | with_reducible exact List.mem_cons_self | with_reducible apply List.mem_cons_of_mem))); (case qb => exact K.rd (by repeat (first | with_reducible exact List.mem_cons_self | with_reducible apply List.mem_cons_of_mem))); rintro e W ⟨rfl, hb⟩; replace K := K.keep hb; clear r hb; have r := K.rawS)
        | (go_at_call 47; (with_reducible refine (HC2.out _ _ _ _ _ _ ?qa hs30 ?qb).mono ?_); (case qa => exact K.rd (by repeat (first | with_reducible exact List.mem_cons_self | with_reducible apply List.mem_cons_of_mem))); (case qb => exact K.rd (by repeat (first | with_reducible exact List.mem_cons_self | with_reducible apply List.mem_cons_of_mem))); rintro e W ⟨rfl, hb⟩; replace K := K.keep hb; clear r hb; have r := K.rawS))
      all_goals
        go_wp2_with fail
        go_meet
        exact ⟨rfl, (HX _).2 (K.less (by simp only [List.mem_cons, List.not_mem_nil, or_false, forall_eq_or_imp, forall_eq, true_or, or_true, and_self]))⟩
    case rest =>
    obtain ⟨rfl, hk⟩ := hcut
    replace K := (HX _).1 hk
    clear r hk HX HC1
    have r := K.rawS
    go_wp2
    go_ret2
    exact ⟨rfl, K.1⟩
  by_cases hz2 : 9223372036854775807 < z
  · have v1 : ¬ V1 < 0 := by
      rw [hV1]
      by_cases e : z = -9223372036854775808
      · rw [e, cmpI_eq]; decide
      · rw [cmpI_gt (by omega)]; decide
    have v1' : decide (V1 < 0) = false := decide_eq_false v1
    have v2 : 0 < V2 := by rw [hV2, cmpI_gt hz2]; decide
    have v2' : decide (0 < V2) = true := decide_eq_true v2
    rw [decide_eq_false (show ¬ (-9223372036854775808 ≤ z ∧ z ≤ 9223372036854775807) by omega), if_neg (by simp)]
    clear hV1 hV2 hz1 hz2 hval hda hsg
    go_enter Try.func33, Try.ntmps33
    go_wp2_with (first | ((first | (apply K.alloc; rfl; rfl; (first | with_reducible exact big_zero | with_reducible exact frac_zero)) | (apply K.box; rfl; rfl; rfl)); clear K r; (first | ((fail_if_success revert b0); intro W b0 K) | ((fail_if_success revert b1); intro W b1 K) | ((fail_if_success revert b2); intro W b2 K) | ((fail_if_success revert b3); intro W b3 K) | ((fail_if_success revert b4); intro W b4 K) | ((fail_if_success revert b5); intro W b5 K) | ((fail_if_success revert b6); intro W b6 K) | ((fail_if_success revert b7); intro W b7 K)); have r := K.rawS) | (apply K.storeA; rfl; rfl; rfl; rfl; rfl; (repeat (first | with_reducible exact Upd.head _ | with_reducible apply Upd.tail)); (first | with_reducible exact big_size | with_reducible exact frac_size); rfl; rfl; rfl; clear K r; intro W K; have r := K.rawS))
    refine (HR.out _ (by first | exact Rd.nil | exact K.rda)).mono ?_
    rintro e W' ⟨rfl, hb⟩
    replace K := K.keep hb
    clear r
    have r := K.rawS
    clear hb
    go_upto_region 4 with (first | ((first | (apply K.alloc; rfl; rfl; (first | with_reducible exact big_zero | with_reducible exact frac_zero)) | (apply K.box; rfl; rfl; rfl)); clear K r; (first | ((fail_if_success revert b0); intro W b0 K) | ((fail_if_success revert b1); intro W b1 K) | ((fail_if_success revert b2); intro W b2 K) | ((fail_if_success revert b3); intro W b3 K) | ((fail_if_success revert b4); intro W b4 K) | ((fail_if_success revert b5); intro W b5 K) | ((fail_if_success revert b6); intro W b6 K) | ((fail_if_success revert b7); intro W b7 K)); have r := K.rawS) | (apply K.storeA; rfl; rfl; rfl; rfl; rfl; (repeat (first | with_reducible exact Upd.head _ | with_reducible apply Upd.tail)); (first | with_reducible exact big_size | with_reducible exact frac_size); rfl; rfl; rfl; clear K r; intro W K; have r := K.rawS))
    obtain ⟨RX, HX⟩ := K.hideE
    go_cut [20] from 10 to 20 (fun p wx => p = .bool true ∧ RX wx)
    case first =>
      have Kd := K.drew
      go_region_with (first
        | (go_at_call 48; (with_reducible refine (eOf_any _ _ ?q).mono ?_); (case q => decide); rintro e W ⟨s30, A30, n30, c30, l30, rfl, hr, hs30, hf, hb⟩; (first | with_reducible replace K := Kd.ret hb hr hf | with_reducible replace K := K.ret hb hr hf); clear r hr hf hb; have r := K.rawS)
        | (go_at_call 47; (with_reducible refine (HC1.out _ _ _ _ _ _ ?qa hs30 ?qb).mono ?_); (case qa => exact K.rd (by repeat (first | with_reducible exact List.mem_cons_self | with_reducible apply List.mem_cons_of_mem))); (case qb => exact K.rd (by repeat (first | with_reducible exact List.mem_cons_self | with_reducible apply List.mem_cons_of_mem))); rintro e W ⟨rfl, hb⟩; replace K := K.keep hb; clear r hb; have r := K.rawS)
        | (go_at_call 47; (with_reducible refine (HC2.out _ _ _ _ _ _ ?qa hs30 ?qb).mono ?_); (case qa => exact K.rd (by repeat (first | with_reducible exact List.mem_cons_self | with_reducible apply List.mem_cons_of_mem))); (case qb => exact K.rd (by repeat (first | with_reducible exact List.mem_cons_self | with_reducible apply List.mem_cons_of_mem))); rintro e W ⟨rfl, hb⟩; replace K := K.keep hb; clear r hb; have r := K.rawS))
      all_goals
        go_wp2_with fail
        go_meet
        exact ⟨rfl, (HX _).2 (K.less (by simp only [List.mem_cons, List.not_mem_nil, or_false, forall_eq_or_imp, forall_eq, true_or, or_true, and_self]))⟩
    case rest =>
    obtain ⟨rfl, hk⟩ := hcut
    replace K := (HX _).1 hk
    clear r hk HX HC1 HC2
    have r := K.rawS
    go_wp2
    go_ret2
    exact ⟨rfl, K.1⟩
  have v1 : ¬ V1 < 0 := by
    rw [hV1]
    by_cases e : z = -9223372036854775808
    · rw [e, cmpI_eq]; decide
    · rw [cmpI_gt (by omega)]; decide
  have v1' : decide (V1 < 0) = false := decide_eq_false v1
  have v2 : ¬ 0 < V2 := by
    rw [hV2]
    by_cases e : z = 9223372036854775807
    · rw [e, cmpI_eq]; decide
    · rw [cmpI_lt (by omega)]; decide
  have v2' : decide (0 < V2) = false := decide_eq_false v2
  rw [decide_eq_true (show (-9223372036854775808 ≤ z ∧ z ≤ 9223372036854775807) by omega), if_pos rfl]
  have Hda := Lib.hid hda
  have Hval := Lib.hid hval
  have Hsg : Hid ((n = 0 ∧ z = 0) ∨ ((s = 1 ∧ 0 < z) ∨ (s = -1 ∧ z < 0))) := Lib.hid (by
    rcases hsg with ⟨h1, -, h3⟩ | ⟨-, h2, h3⟩ | ⟨-, h2, h3⟩
    · exact Or.inl ⟨by rw [← hl.len, h1]; rfl, h3⟩
    · exact Or.inr (Or.inl ⟨h2, by omega⟩)
    · exact Or.inr (Or.inr ⟨h2, by omega⟩))
  have Hz := Lib.hid (show -9223372036854775808 ≤ z ∧ z ≤ 9223372036854775807 by omega)
  clear hV1 hV2 hz1 hz2 hval hda hsg
  have hwn : IntKind.i64.wrap ((n : Int) - 1) = (n : Int) - 1 := IntWalk.i64_in _ (by omega)
  go_enter Try.func33, Try.ntmps33
  go_wp2_with (first | ((first | (apply K.alloc; rfl; rfl; (first | with_reducible exact big_zero | with_reducible exact frac_zero)) | (apply K.box; rfl; rfl; rfl)); clear K r; (first | ((fail_if_success revert b0); intro W b0 K) | ((fail_if_success revert b1); intro W b1 K) | ((fail_if_success revert b2); intro W b2 K) | ((fail_if_success revert b3); intro W b3 K) | ((fail_if_success revert b4); intro W b4 K) | ((fail_if_success revert b5); intro W b5 K) | ((fail_if_success revert b6); intro W b6 K) | ((fail_if_success revert b7); intro W b7 K)); have r := K.rawS) | (apply K.storeA; rfl; rfl; rfl; rfl; rfl; (repeat (first | with_reducible exact Upd.head _ | with_reducible apply Upd.tail)); (first | with_reducible exact big_size | with_reducible exact frac_size); rfl; rfl; rfl; clear K r; intro W K; have r := K.rawS))
  refine (HR.out _ (by first | exact Rd.nil | exact K.rda)).mono ?_
  rintro e W' ⟨rfl, hb⟩
  replace K := K.keep hb
  clear r
  have r := K.rawS
  clear hb
  go_upto_region 4 with (first | ((first | (apply K.alloc; rfl; rfl; (first | with_reducible exact big_zero | with_reducible exact frac_zero)) | (apply K.box; rfl; rfl; rfl)); clear K r; (first | ((fail_if_success revert b0); intro W b0 K) | ((fail_if_success revert b1); intro W b1 K) | ((fail_if_success revert b2); intro W b2 K) | ((fail_if_success revert b3); intro W b3 K) | ((fail_if_success revert b4); intro W b4 K) | ((fail_if_success revert b5); intro W b5 K) | ((fail_if_success revert b6); intro W b6 K) | ((fail_if_success revert b7); intro W b7 K)); have r := K.rawS) | (apply K.storeA; rfl; rfl; rfl; rfl; rfl; (repeat (first | with_reducible exact Upd.head _ | with_reducible apply Upd.tail)); (first | with_reducible exact big_size | with_reducible exact frac_size); rfl; rfl; rfl; clear K r; intro W K; have r := K.rawS))
  obtain ⟨RX, HX⟩ := K.hideE
  go_cut [20] from 10 to 20 (fun p wx => p = .bool false ∧ RX wx)
  case first =>
    have Kd := K.drew
    go_region_with (first
      | (go_at_call 48; (with_reducible refine (eOf_any _ _ ?q).mono ?_); (case q => decide); rintro e W ⟨s30, A30, n30, c30, l30, rfl, hr, hs30, hf, hb⟩; (first | with_reducible replace K := Kd.ret hb hr hf | with_reducible replace K := K.ret hb hr hf); clear r hr hf hb; have r := K.rawS)
      | (go_at_call 47; (with_reducible refine (HC1.out _ _ _ _ _ _ ?qa hs30 ?qb).mono ?_); (case qa => exact K.rd (by repeat (first | with_reducible exact List.mem_cons_self | with_reducible apply List.mem_cons_of_mem))); (case qb => exact K.rd (by repeat (first | with_reducible exact List.mem_cons_self | with_reducible apply List.mem_cons_of_mem))); rintro e W ⟨rfl, hb⟩; replace K := K.keep hb; clear r hb; have r := K.rawS)
      | (go_at_call 47; (with_reducible refine (HC2.out _ _ _ _ _ _ ?qa hs30 ?qb).mono ?_); (case qa => exact K.rd (by repeat (first | with_reducible exact List.mem_cons_self | with_reducible apply List.mem_cons_of_mem))); (case qb => exact K.rd (by repeat (first | with_reducible exact List.mem_cons_self | with_reducible apply List.mem_cons_of_mem))); rintro e W ⟨rfl, hb⟩; replace K := K.keep hb; clear r hb; have r := K.rawS))
    all_goals
      go_wp2_with fail
      go_meet
      exact ⟨rfl, (HX _).2 (K.less (by simp only [List.mem_cons, List.not_mem_nil, or_false, forall_eq_or_imp, forall_eq, true_or, or_true, and_self]))⟩
  case rest =>
  obtain ⟨rfl, hk⟩ := hcut
  replace K := (HX _).1 hk
  clear r hk HX HC1 HC2 v1 v1' v2 v2' HR hl
  have r := K.rawS
  go_wp2
  go_loopg [5, 6] n (fun gk r5 r6 wr => ∃ (k : Nat) (rv : Int), k ≤ n ∧ k = gk ∧ r5 = .int .i64 rv ∧ r6 = .int .i64 ((k : Int) - 1) ∧ Hid ((s = 1 → rv = vT (gi l) n k) ∧ (s = -1 → rv = -vT (gi l) n k) ∧ (n = 0 → rv = 0)) ∧ St w [(b0, #[.int .i64 s, .slice A n cap], 33)] [⟨rdP A n cap l, oldS w⟩] wr)
  case atStart => exact ⟨n, 0, Nat.le_refl _, rfl, rfl, rfl, Lib.hid ⟨fun _ => by rw [vT_end], fun _ => by rw [vT_end]; rfl, fun _ => rfl⟩, K⟩
  case round =>
    clear K r
    obtain ⟨k, rv, hk, rfl, rfl, rfl, HI, K⟩ := hrel
    have r := K.rawS
    rcases Nat.eq_zero_or_pos k with hk0 | hk0
    · subst hk0
      have hend : rv = z := by
        obtain ⟨i1, i2, i3⟩ := HI.out
        rcases Hsg.out with ⟨h1, h2⟩ | ⟨h1, h2⟩ | ⟨h1, h2⟩
        · rw [i3 h1, h2]
        · rw [i1 h1, vT_all, Hval.out]; omega
        · rw [i2 h1, vT_all, Hval.out]; omega
      subst hend
      clear HI hwn
      go_wp2
      go_ret2
      exact ⟨rfl, K.1⟩
    · obtain ⟨m, rfl⟩ : ∃ m, k = m + 1 := ⟨k - 1, by omega⟩
      obtain ⟨b1, o1, x, rfl, hb1, hx, c0⟩ := (show RdI wr wr.heap.size A n cap l from K.rda).atI (k := m) (by omega)
      have Hx := Lib.hid (gi_eq hx)
      have hxd := Hda.out m (by omega)
      rw [Hx.out] at hxd
      have h1 : (m : Int) < (n : Int) := by omega
      have h2 : (0 : Int) ≤ (m : Int) := by omega
      obtain ⟨t1, t2⟩ := vT_le Hda.out m (by omega)
      obtain ⟨t3, t4⟩ := vT_le Hda.out (m + 1) (by omega)
      have t5 := vT_step (gi l) (n := n) (i := m) (by omega)
      rw [Hx.out] at t5
      rw [Hval.out] at t2 t4
      obtain ⟨i1, i2, i3⟩ := HI.out
      have hzz := Hz.out
      obtain ⟨p, hp⟩ : ∃ p, p = s * x := ⟨_, rfl⟩
      have hN : ((s = 1 → rv * 1048576 + p = vT (gi l) n m) ∧ (s = -1 → rv * 1048576 + p = -vT (gi l) n m) ∧ (n = 0 → rv * 1048576 + p = 0)) := by
        refine ⟨fun e => ?_, fun e => ?_, fun e => by omega⟩
        · have := i1 e; rw [hp, e]; omega
        · have := i2 e; rw [hp, e]; omega
      have hbd : (-9223372036854775808 ≤ rv * 1048576 ∧ rv * 1048576 ≤ 9223372036854775807) ∧ (-9223372036854775808 ≤ p ∧ p ≤ 9223372036854775807) ∧ (-9223372036854775808 ≤ rv * 1048576 + p ∧ rv * 1048576 + p ≤ 9223372036854775807) := by
        rcases Hsg.out with ⟨e1, e2⟩ | ⟨e1, e2⟩ | ⟨e1, e2⟩
        · omega
        · have j1 := i1 e1; have j2 := hN.1 e1; rw [e1] at hp; omega
        · have j1 := i2 e1; have j2 := hN.2.1 e1; rw [e1] at hp; omega
      have hw1 : IntKind.i64.wrap (rv * 1048576) = rv * 1048576 := IntWalk.i64_in _ hbd.1
      have hw2 : IntKind.i64.wrap (s * x) = p := by rw [← hp]; exact IntWalk.i64_in _ hbd.2.1
      have hw3 : IntKind.i64.wrap (rv * 1048576 + p) = rv * 1048576 + p := IntWalk.i64_in _ hbd.2.2
      have HN := Lib.hid hN
      obtain ⟨q, hq⟩ : ∃ q, q = rv * 1048576 + p := ⟨_, rfl⟩
      rw [← hq] at HN
      rw [← hq] at hw3
      have hw3 : IntKind.i64.wrap (rv * 1048576 + p) = q := by rw [← hq]; exact hw3
      clear hN hbd hp hzz i1 i2 i3 t1 t2 t3 t4 t5 hxd Hx hx HI hq
      go_wp2_with fail
      go_quiet (fail)
      go_wp2
      go_roundg m
      case rel => exact ⟨m, q, by omega, rfl, rfl, by go_num, HN, K.drewN _⟩
      case measure => omega
end Go.Proofs.Ytinfcngkbdiddaa
