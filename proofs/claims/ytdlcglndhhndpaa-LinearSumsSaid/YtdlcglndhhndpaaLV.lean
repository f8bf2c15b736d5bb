
/- Walks over Check$1 of package linear, and over IndexFunc and ContainsFunc with it. Conditions stand in each theorem. -/
import Derived.Test.YtdlcglndhhndpaaLU
namespace Go.Proofs.Ytdlcglndhhndpaa
open Go.RowKit
set_option linter.unusedVariables false
set_option linter.unusedSimpArgs false

set_option maxRecDepth 100000 in
set_option maxHeartbeats 1000000 in
theorem lwrongC_any (s t : Int) (A A' : Option Addr) (n cap n' cap' : Nat) (l m : List Int) (w : World) (hl : RdI w w.heap.size A n cap l) (hm : RdI w w.heap.size A' n' cap' m) :
    Calls Try.prog 51 #[.agg #[.int .i64 s, .slice A n cap, .int .i64 t, .slice A' n' cap']] w fun e w' => e = .returned (.bool (!rightF s l t m)) ∧ Below w.heap.size w w' := by
  have K := ((St.start w).oldRd hl).oldRd hm
  have r := K.raw
  have HR := Lib.hid (fun W h g => fRight_any s t A A' n cap n' cap' l m W h g)
  clear hl hm
  generalize rightF s l t m = R at *
  go_enter Try.func51, Try.ntmps51
  go_wp2_with (first | ((first | (apply K.alloc; rfl; rfl; (first | with_reducible exact big_zero | with_reducible exact frac_zero)) | (apply K.box; rfl; rfl; rfl)); clear K r; (first | ((fail_if_success revert b0); intro W b0 K) | ((fail_if_success revert b1); intro W b1 K) | ((fail_if_success revert b2); intro W b2 K) | ((fail_if_success revert b3); intro W b3 K) | ((fail_if_success revert b4); intro W b4 K) | ((fail_if_success revert b5); intro W b5 K) | ((fail_if_success revert b6); intro W b6 K) | ((fail_if_success revert b7); intro W b7 K)); have r := K.rawS) | (apply K.storeA; rfl; rfl; rfl; rfl; rfl; (repeat (first | with_reducible exact Upd.head _ | with_reducible apply Upd.tail)); (first | with_reducible exact big_size | with_reducible exact frac_size); rfl; rfl; rfl; clear K r; intro W K; have r := K.rawS))
  refine (HR.out _ (by first | exact Rd.nil | exact K.rda) (by first | exact Rd.nil | exact K.rda)).mono ?_
  rintro e W' ⟨rfl, hb⟩
  replace K := K.keep hb
  clear r
  have r := K.rawS
  clear hb
  go_wp2
  go_ret
  exact ⟨rfl, K.1⟩
set_option maxRecDepth 100000 in
set_option maxHeartbeats 1000000 in
theorem idxFC_any (A : Option Addr) (n cap : Nat) (l : List Fv) (w : World) (hl : RdF w w.heap.size A n cap l) :
    Calls Try.prog 84 #[.slice A n cap, .func (.func 51) #[] #[]] w (IdxF w (l.all Fv.ok)) := by
  have hcaps := hl.caps
  have hlen := hl.len
  have eg := enters_of Try.func51 (by kernel_rfl) rfl
  have Hlen := Lib.hid hlen; clear hlen
  have HL := Lib.hid (fun W (h : Below w.heap.size w W) => hl.up fE_lasts h)
  go_enter Try.func84, Try.ntmps84
  go_wp2
  go_loopg [8] n (fun gk i wr => ∃ k : Nat, k ≤ n ∧ gk = n - k ∧ i = .int .i64 k ∧ (∀ j x, j < k → l[j]? = some x → x.ok = true) ∧ Below w.heap.size w wr)
  case atStart => exact ⟨0, Nat.zero_le _, rfl, rfl, (fun j x h => absurd h (by omega)), Below.refl _ _⟩
  case round =>
    obtain ⟨k, hk, rfl, rfl, hall, hb⟩ := hrel
    have Hall := Lib.hid hall; clear hall
    have HB := Lib.hid hb
    by_cases hlt : k < n
    · obtain ⟨b, off, A1, n1, c1, A2, n2, c2, x, rfl, hbB, hx, ⟨d0, d1, d2, d3⟩, r1, r2⟩ := (HL.out wr hb).atF hlt
      have hki : (k : Int) < (n : Int) := by omega
      have hk0 : (0 : Int) ≤ (k : Int) := by omega
      have Hx := Lib.hid hx; clear hx
      have HW := Lib.hid (lwrongC_any x.s x.t A1 A2 n1 c1 n2 c2 x.l x.m wr r1 r2)
      have hcap1 := r1.caps
      have hcap2 := r2.caps
      have hok : rightF x.s x.l x.t x.m = x.ok := rfl
      rw [hok] at HW
      clear hok r1 r2 hb hl
      cases hin : x.ok
      · rw [hin] at HW
        have Hno := Lib.hid (show l.all Fv.ok = false by
          rw [List.all_eq_false]; exact ⟨x, List.mem_of_getElem? Hx.out, by simp [hin]⟩)
        clear hin
        go_wp2_with (go_at_call 51; refine HW.out.mono ?_; rintro e w1 ⟨rfl, hb1⟩)
        go_ret
        exact ⟨(k : Int), rfl, by omega, by omega, by rw [Hno.out]; simp, HB.out.trans (hb1.mono HB.out.size)⟩
      · rw [hin] at HW
        have Hin := Lib.hid hin
        clear hin
        go_wp2_with (go_at_call 51; refine HW.out.mono ?_; rintro e w1 ⟨rfl, hb1⟩)
        go_roundg (n - (k + 1))
        case rel => exact ⟨k + 1, by omega, rfl, by go_num, (fun j y hj hy => by
          by_cases e : j = k
          · subst e; rw [Hx.out] at hy; cases hy; exact Hin.out
          · exact Hall.out j y (by omega) hy), HB.out.trans (hb1.mono HB.out.size)⟩
        case measure => omega
    · have e : k = n := by omega
      subst e
      have Hyes := Lib.hid (show l.all Fv.ok = true by
        rw [List.all_eq_true]
        intro x hx
        obtain ⟨j, hj, rfl⟩ := List.mem_iff_getElem.1 hx
        exact Hall.out j _ (by rw [Hlen.out] at hj; exact hj) (List.getElem?_eq_getElem hj))
      clear hb hl
      go_wp2
      go_ret
      exact ⟨-1, rfl, by omega, by omega, by rw [Hyes.out]; rfl, HB.out⟩
set_option maxRecDepth 100000 in
set_option maxHeartbeats 1000000 in
theorem conFC_any (A : Option Addr) (n cap : Nat) (l : List Fv) (w : World) (hl : RdF w w.heap.size A n cap l) :
    Calls Try.prog 46 #[.slice A n cap, .func (.func 51) #[] #[]] w fun e w' => e = .returned (.bool (!l.all Fv.ok)) ∧ Below w.heap.size w w' := by
  have Hidx := Lib.hid (idxFC_any A n cap l w hl)
  clear hl
  generalize l.all Fv.ok = b at *
  go_enter Try.func46, Try.ntmps46
  go_wp2_with (go_at_call 84; refine Hidx.out.mono ?_; rintro e w1 ⟨i, rfl, hi1, hi2, hi3, hb⟩)
  go_ret
  exact ⟨rfl, hb⟩
end Go.Proofs.Ytdlcglndhhndpaa
