
/- Walks over of and zeros of the law of layer 27. Conditions stand in each theorem. -/
import Derived.Test.YtinfcngkbdiddaaCx
import Derived.Test.YtinfcngkbdiddaaCo
namespace Go.Proofs.Ytinfcngkbdiddaa
open Go.RowKit
set_option linter.unusedVariables false
set_option linter.unusedSimpArgs false

set_option maxRecDepth 100000 in
set_option maxHeartbeats 1000000 in
theorem wof_any (p q : Int) (w : World) (hp : -9223372036854775808 ≤ p ∧ p ≤ 9223372036854775807) (hq : -9223372036854775808 ≤ q ∧ q ≤ 9223372036854775807) (h0 : q ≠ 0) :
    Calls Try.prog 16 #[.int .i64 p, .int .i64 q] w (FrV w (Rat.divInt p q)) := by
  have K := St.start w
  have r := K.raw
  have HO := Lib.hid (fun W => rOf_any p q W hp hq h0)
  clear hp hq h0
  generalize Rat.divInt p q = z at *
  go_enter Try.func16, Try.ntmps16
  go_wp2_with (first | ((first | (apply K.alloc; rfl; rfl; (first | with_reducible exact big_zero | with_reducible exact frac_zero)) | (apply K.box; rfl; rfl; rfl)); clear K r; (first | ((fail_if_success revert b0); intro W b0 K) | ((fail_if_success revert b1); intro W b1 K) | ((fail_if_success revert b2); intro W b2 K) | ((fail_if_success revert b3); intro W b3 K) | ((fail_if_success revert b4); intro W b4 K) | ((fail_if_success revert b5); intro W b5 K) | ((fail_if_success revert b6); intro W b6 K) | ((fail_if_success revert b7); intro W b7 K)); have r := K.rawS) | (apply K.storeA; rfl; rfl; rfl; rfl; rfl; (repeat (first | with_reducible exact Upd.head _ | with_reducible apply Upd.tail)); (first | with_reducible exact big_size | with_reducible exact frac_size); rfl; rfl; rfl; clear K r; intro W K; have r := K.rawS))
  refine (HO.out _).mono ?_
  rintro e W' ⟨s7, A7, n7, c7, l7, t7, B7, m7, d7, k7, rfl, ⟨hra, hrb⟩, ho, ⟨hfa, hfb⟩, hb⟩
  have hf7 := Lib.hid (hfa.mono K.1.size)
  have hg7 := Lib.hid (hfb.mono K.1.size)
  replace K := K.retF hb hra hrb hfa hfb
  clear r
  have r := K.rawS
  clear hra hrb hfa hfb hb
  go_wp2_with (first | ((first | (apply K.alloc; rfl; rfl; (first | with_reducible exact big_zero | with_reducible exact frac_zero)) | (apply K.box; rfl; rfl; rfl)); clear K r; (first | ((fail_if_success revert b0); intro W b0 K) | ((fail_if_success revert b1); intro W b1 K) | ((fail_if_success revert b2); intro W b2 K) | ((fail_if_success revert b3); intro W b3 K) | ((fail_if_success revert b4); intro W b4 K) | ((fail_if_success revert b5); intro W b5 K) | ((fail_if_success revert b6); intro W b6 K) | ((fail_if_success revert b7); intro W b7 K)); have r := K.rawS) | (apply K.storeA; rfl; rfl; rfl; rfl; rfl; (repeat (first | with_reducible exact Upd.head _ | with_reducible apply Upd.tail)); (first | with_reducible exact big_size | with_reducible exact frac_size); rfl; rfl; rfl; clear K r; intro W K; have r := K.rawS))
  have HE := Lib.hid (⟨s7, A7, n7, c7, l7, t7, B7, m7, d7, k7, rfl, ⟨(by first | exact Rd.nil | exact K.rda), (by first | exact Rd.nil | exact K.rda)⟩, ho, ⟨hf7.out, hg7.out⟩, K.1⟩ : FrV w z (.returned (.agg #[.int .i64 s7, .slice A7 n7 c7, .int .i64 t7, .slice B7 m7 d7])) W)
  clear ho
  exact bodyPost_ret (v := .agg #[.int .i64 s7, .slice A7 n7 c7, .int .i64 t7, .slice B7 m7 d7]) (by simp [results, Try.results16, go_sem, r]) rfl HE.out
set_option maxRecDepth 100000 in
set_option maxHeartbeats 2000000 in
theorem wzeros_any (n : Nat) (w : World) (hn : n ≤ 1000) :
    Calls Try.prog 21 #[.int .i64 n] w fun e w' => ∃ A cap, e = .returned (.slice A n cap) ∧ RdF w' w'.heap.size A n cap (List.replicate n (fvQ 0)) ∧ Below w.heap.size w w' := by
  have K := St.start w
  have HO := Lib.hid (fun W => (show Calls Try.prog 16 #[.int .i64 0, .int .i64 1] W (FrV W 0) from by
    have h := wof_any 0 1 W (by decide) (by decide) (by decide)
    rw [show Rat.divInt 0 1 = 0 from rfl] at h
    exact h))
  go_enter Try.func21, Try.ntmps21
  go_wp2
  go_loopg [3, 4] n (fun gk v i wr => ∃ (k : Nat) (u : Nat → Rw) (X : List Blk), k ≤ n ∧ gk = n - k ∧ i = .int .i64 k ∧ Hid (∀ j, j < k → (u j).fv = fvQ 0) ∧ OwL 4 Rw.cs 35 v (ofF k u) X ∧ St w (X ++ []) [⟨rwP k u, rwS k u⟩] wr)
  case atStart => exact ⟨0, fun _ => Rw.zero, [], Nat.zero_le _, rfl, rfl, Lib.hid (fun j h => absurd h (by omega)), OwL.nil, (K.rwNew 0)⟩
  case round =>
    clear K
    obtain ⟨k, u, X, hk, rfl, rfl, HV, ho, K⟩ := hrel
    by_cases hlt : k < n
    · go_wp2_with fail
      refine (HO.out _).mono ?_
      rintro e W' ⟨s7, A7, n7, c7, l7, t7, B7, m7, d7, k7, rfl, ⟨hra, hrb⟩, hs7, ⟨hfa, hfb⟩, hb⟩
      replace K := K.retF hb hra hrb hfa hfb
      clear hra hrb hfa hfb hb
      have HV2 := Lib.hid (show ∀ j, j < k + 1 → (putF u k ⟨s7, A7, n7, c7, l7, t7, B7, m7, d7, k7⟩ j).fv = fvQ 0 from fun j hj => by
        by_cases e : j = k
        · subst e; rw [putF_same]; exact hs7.fv
        · rw [putF_other e]; exact HV.out j (by omega))
      clear hs7 HV
      go_wp2_with (at_builtin; refine K.app1 ho rw_sized rfl _ _ 22 rfl _ 64 Try.underlying22 frac_made rfl rfl (⟨s7, A7, n7, c7, l7, t7, B7, m7, d7, k7⟩ : Rw) _ rfl _ rfl rfl (by rw [ofF_len]; omega) (by omega) ?_; intro v4 X4 W4 ho4 K4)
      go_roundg (n - (k + 1))
      case rel =>
        refine ⟨k + 1, putF u k ⟨s7, A7, n7, c7, l7, t7, B7, m7, d7, k7⟩, X4, hlt, rfl, by go_num, HV2, ?_, ?_⟩
        · rw [← ofF_put]; exact ho4
        · exact (K4.rwAdd ⟨s7, A7, n7, c7, l7, t7, B7, m7, d7, k7⟩ (by repeat (first | with_reducible exact List.mem_cons_self | with_reducible apply List.mem_cons_of_mem)) (by repeat (first | with_reducible exact List.mem_cons_self | with_reducible apply List.mem_cons_of_mem)) (by repeat (first | with_reducible exact List.mem_cons_self | with_reducible apply List.mem_cons_of_mem))).less (by simp only [List.mem_cons, List.not_mem_nil, or_false, forall_eq_or_imp, forall_eq, true_or, or_true, and_self])
      case measure => omega
    · have e : n = k := by omega
      subst e
      obtain ⟨A, cap, rfl, hr⟩ := ho.rdF K (by repeat (first | with_reducible exact List.mem_cons_self | with_reducible apply List.mem_cons_of_mem)) (by omega)
      have HR := Lib.hid (show ∃ A' cap', Ending.returned (.slice A n cap) = .returned (.slice A' n cap') ∧ RdF wr wr.heap.size A' n cap' (List.replicate n (fvQ 0)) ∧ Below w.heap.size w wr from ⟨A, cap, rfl, by rw [ofF_rep, ← ofF_congr (fun i hi => HV.out i hi)]; exact hr, K.1⟩)
      clear hr HV ho K hlt
      go_wp2
      go_ret
      exact HR.out
end Go.Proofs.Ytinfcngkbdiddaa
