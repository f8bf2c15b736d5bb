
/- Walks over Of of the reference of layer 27, and over of of its law. Conditions stand in each theorem. -/
import Derived.Test.YtinfcngkbdiddaaCn
import Derived.Test.YtinfcngkbdiddaaK
namespace Go.Proofs.Ytinfcngkbdiddaa
open Go.RowKit
set_option linter.unusedVariables false
set_option linter.unusedSimpArgs false

set_option maxRecDepth 100000 in
set_option maxHeartbeats 1000000 in
theorem rOf_any (p q : Int) (w : World) (hp : -9223372036854775808 ≤ p ∧ p ≤ 9223372036854775807) (hq : -9223372036854775808 ≤ q ∧ q ≤ 9223372036854775807) (h0 : q ≠ 0) :
    Calls Try.prog 36 #[.int .i64 p, .int .i64 q] w (FrV w (Rat.divInt p q)) := by
  have K := St.start w
  have r := K.raw
  have HO := Lib.hid (show ∀ W, Calls Try.prog 63 #[.int .i64 p, .int .i64 q] W (FrE W (some (Rat.divInt p q)) 0) from fun W => by
    have h := gOf_any p q W hp hq
    rw [newO_yes h0, newE_yes h0] at h
    exact h)
  clear hp hq h0
  generalize Rat.divInt p q = z at *
  go_enter Try.func36, Try.ntmps36
  go_wp2_with (first | ((first | (apply K.alloc; rfl; rfl; (first | with_reducible exact big_zero | with_reducible exact frac_zero)) | (apply K.box; rfl; rfl; rfl)); clear K r; (first | ((fail_if_success revert b0); intro W b0 K) | ((fail_if_success revert b1); intro W b1 K) | ((fail_if_success revert b2); intro W b2 K) | ((fail_if_success revert b3); intro W b3 K) | ((fail_if_success revert b4); intro W b4 K) | ((fail_if_success revert b5); intro W b5 K) | ((fail_if_success revert b6); intro W b6 K) | ((fail_if_success revert b7); intro W b7 K)); have r := K.rawS) | (apply K.storeA; rfl; rfl; rfl; rfl; rfl; (repeat (first | with_reducible exact Upd.head _ | with_reducible apply Upd.tail)); (first | with_reducible exact big_size | with_reducible exact frac_size); rfl; rfl; rfl; clear K r; intro W K; have r := K.rawS))
  refine (HO.out _).mono ?_
  rintro e W' ⟨s7, A7, n7, c7, l7, t7, B7, m7, d7, k7, rfl, ⟨hra, hrb⟩, ho, ⟨hfa, hfb⟩, hb⟩
  have hf7 := Lib.hid (hfa.mono K.1.size)
  have hg7 := Lib.hid (hfb.mono K.1.size)
  replace K := K.retF hb hra hrb hfa hfb
  clear r
  have r := K.rawS
  clear hra hrb hfa hfb hb
  go_wp2_with (first | ((first | (apply K.alloc; rfl; rfl; (first | with_reducible exact big_zero | with_reducible exact frac_zero)) | (apply K.box; rfl; rfl; rfl)); clear K r; (first | ((fail_if_success revert b0); intro W b0 K) | ((fail_if_success revert b1); intro W b1 K) | ((fail_if_success revert b2); intro W b2 K) | ((fail_if_success revert b3); intro W b3 K) | ((fail_if_success revert b4); intro W b4 K) | ((fail_if_success revert b5); intro W b5 K) | ((fail_if_success revert b6); intro W b6 K) | ((fail_if_success revert b7); intro W b7 K)); have r := K.rawS) | (apply K.storeA; rfl; rfl; rfl; rfl; rfl; (repeat (first | with_reducible exact Upd.head _ | with_reducible apply Upd.tail)); (first | with_reducible exact big_size | with_reducible exact frac_size); rfl; rfl; rfl; clear K r; intro W K; have r := K.rawS))
  have HE := Lib.hid (⟨s7, A7, n7, c7, l7, t7, B7, m7, d7, k7, rfl, ⟨(by first | exact Rd.nil | exact K.rda), (by first | exact Rd.nil | exact K.rda)⟩, ho, ⟨hf7.out, hg7.out⟩, K.1⟩ : FrV w z (.returned (.agg #[.int .i64 s7, .slice A7 n7 c7, .int .i64 t7, .slice B7 m7 d7])) W)
  clear ho
  exact bodyPost_ret (v := .agg #[.int .i64 s7, .slice A7 n7 c7, .int .i64 t7, .slice B7 m7 d7]) (by simp [results, Try.results36, go_sem, r]) rfl HE.out
end Go.Proofs.Ytinfcngkbdiddaa
