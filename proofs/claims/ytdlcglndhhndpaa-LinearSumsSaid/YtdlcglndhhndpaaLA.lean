
/- Walk over note of package linear, in whatever memory of the caller; zero at numbers. Conditions stand in each theorem. -/
import Derived.Test.YtdlcglndhhndpaaMf
import Derived.Test.YtdlcglndhhndpaaLRk
namespace Go.Proofs.Ytdlcglndhhndpaa
open Go.RowKit
set_option linter.unusedVariables false
set_option linter.unusedSimpArgs false

theorem bool_size : (Try.prog.info? 4).map (·.size) = some 1 := by kernel_rfl
theorem slf_size : (Try.prog.info? 23).map (·.size) = some 1 := by kernel_rfl
set_option maxRecDepth 100000 in
set_option maxHeartbeats 1000000 in
theorem lnote_any (w0 W : World) (L L' : List Blk) (D : List Hl) (mb : Nat) (A : Option Addr) (nn cc : Nat) (n : Int) (b b' : Bool) (er : Int) (s t : Int) (A1 B1 : Option Addr) (n1 c1 m1 d1 : Nat) (K : St w0 L D W) (hb : b' = (b || er != 0)) (hU : Upd mb #[.slice A nn cc, .int .i64 n, .bool b] 81 #[.slice A nn cc, .int .i64 n, .bool b'] L L') :
    Calls Try.prog 119 #[.pointer (some ⟨mb, 0, none⟩), .agg #[.int .i64 s, .slice A1 n1 c1, .int .i64 t, .slice B1 m1 d1], .int .i64 er] W fun e W' => e = .returned (.agg #[.int .i64 s, .slice A1 n1 c1, .int .i64 t, .slice B1 m1 d1]) ∧ St w0 L' D W' := by
  have HM := Lib.hid hU.mem
  have HU := Lib.hid hU
  have c2 := (K.blk HM.out).cell (j := 2) (u := .bool b) rfl
  have r := K.raw
  clear hU
  subst hb
  cases b
  · rw [Bool.false_or] at HU
    go_enter Try.func119, Try.ntmps119
    go_wp2_with (first | ((first | (apply K.alloc; rfl; rfl; exact frac_zero) | (apply K.box; rfl; rfl; rfl)); clear K r c2; (first | ((fail_if_success revert b0); intro W b0 K) | ((fail_if_success revert b1); intro W b1 K) | ((fail_if_success revert b2); intro W b2 K) | ((fail_if_success revert b3); intro W b3 K) | ((fail_if_success revert b4); intro W b4 K) | ((fail_if_success revert b5); intro W b5 K) | ((fail_if_success revert b6); intro W b6 K) | ((fail_if_success revert b7); intro W b7 K)); have r := K.rawS; (try (have c2 := (K.blk (by repeat (first | exact HM.out | with_reducible apply List.mem_cons_of_mem))).cell (j := 2) (u := .bool _) rfl))) | (apply K.storeA; rfl; rfl; rfl; rfl; rfl; (repeat (first | with_reducible exact Upd.head _ | with_reducible apply Upd.tail)); exact frac_size; rfl; rfl; rfl; clear K r; intro W K; have r := K.rawS) | (apply K.storeB; rfl; rfl; rfl; rfl; rfl; (repeat (with_reducible apply Upd.tail)); exact HU.out; rfl; exact bool_size; (show 2 < 3; omega); clear K r c2; intro W K; have r := K.rawS))
    exact bodyPost_ret (v := .agg #[.int .i64 s, .slice A1 n1 c1, .int .i64 t, .slice B1 m1 d1]) (by simp [results, Try.results119, go_sem, r]) rfl ⟨rfl, K.part (List.sublist_append_right [_, _] L')⟩
  · rw [Bool.true_or] at HU
    go_enter Try.func119, Try.ntmps119
    go_wp2_with (first | ((first | (apply K.alloc; rfl; rfl; exact frac_zero) | (apply K.box; rfl; rfl; rfl)); clear K r c2; (first | ((fail_if_success revert b0); intro W b0 K) | ((fail_if_success revert b1); intro W b1 K) | ((fail_if_success revert b2); intro W b2 K) | ((fail_if_success revert b3); intro W b3 K) | ((fail_if_success revert b4); intro W b4 K) | ((fail_if_success revert b5); intro W b5 K) | ((fail_if_success revert b6); intro W b6 K) | ((fail_if_success revert b7); intro W b7 K)); have r := K.rawS; (try (have c2 := (K.blk (by repeat (first | exact HM.out | with_reducible apply List.mem_cons_of_mem))).cell (j := 2) (u := .bool _) rfl))) | (apply K.storeA; rfl; rfl; rfl; rfl; rfl; (repeat (first | with_reducible exact Upd.head _ | with_reducible apply Upd.tail)); exact frac_size; rfl; rfl; rfl; clear K r; intro W K; have r := K.rawS) | (apply K.storeB; rfl; rfl; rfl; rfl; rfl; (repeat (with_reducible apply Upd.tail)); exact HU.out; rfl; exact bool_size; (show 2 < 3; omega); clear K r c2; intro W K; have r := K.rawS))
    exact bodyPost_ret (v := .agg #[.int .i64 s, .slice A1 n1 c1, .int .i64 t, .slice B1 m1 d1]) (by simp [results, Try.results119, go_sem, r]) rfl ⟨rfl, K.part (List.sublist_append_right [_, _] L')⟩
end Go.Proofs.Ytdlcglndhhndpaa
