
/- Walks over Same of package big, and over slices.Equal at ints. Conditions stand in each theorem. -/
import Derived.Test.YtkeajohkpmabcaaDoorSm
namespace Go.Proofs.YtkeajohkpmabcaaDoor
open Go.RowKit
set_option linter.unusedVariables false
set_option linter.unusedSimpArgs false

set_option maxRecDepth 100000 in
set_option maxHeartbeats 1000000 in
theorem equal_any (A A2 : Option Addr) (n cap n2 cap2 : Nat) (a b : List Int) (w : World) (ha : RdI w w.heap.size A n cap a) (hb : RdI w w.heap.size A2 n2 cap2 b) :
    Calls Tryd.prog 30 #[.slice A n cap, .slice A2 n2 cap2] w fun e w' => e = .returned (.bool (decide (a = b))) ∧ Below w.heap.size w w' := by
  have hla := ha.len
  have hlb := hb.len
  have hca := ha.caps
  have hcb := hb.caps
  by_cases hnn : n = n2
  case neg =>
    have hd2 : ((n : Int) != (n2 : Int)) = true := by simp; omega
    have hR : decide (a = b) = false := decide_eq_false fun h => hnn (by rw [← hla, ← hlb, h])
    rw [hR]
    clear hR hnn hla hlb
    go_enter Tryd.func30, Tryd.ntmps30
    go_wp2
    go_ret
    exact ⟨rfl, Below.refl _ _⟩
  subst hnn
  have hd2 : ((n : Int) != (n : Int)) = false := by simp
  have HEq := Lib.hid (show (∀ j, j < n → gi a j = gi b j) → decide (a = b) = true from fun h => decide_eq_true (gi_list (by omega) (by rw [hla]; exact h)))
  have HNe := Lib.hid (show ∀ j, j < n → gi a j ≠ gi b j → decide (a = b) = false from fun j _ h => decide_eq_false fun h1 => h (by rw [h1]))
  generalize decide (a = b) = R at *
  clear hla hlb
  go_enter Tryd.func30, Tryd.ntmps30
  go_wp2_with fail
  go_loopg [13] n (fun gk i wr => ∃ k : Nat, k ≤ n ∧ gk = n - k ∧ i = .int .i64 k ∧ (∀ j, j < k → gi a j = gi b j) ∧ Below w.heap.size w wr)
  case atStart => exact ⟨0, Nat.zero_le _, rfl, rfl, (fun j hj => absurd hj (by omega)), Below.refl _ _⟩
  case round =>
    obtain ⟨k, hk, rfl, rfl, hall, hbel⟩ := hrel
    have Hall := Lib.hid hall
    clear hall
    by_cases hlt : k < n
    · obtain ⟨c1, o1, x, rfl, hc1, hx, d0⟩ := ha.atI hlt
      obtain ⟨c2, o2, y, rfl, hc2, hy, d1⟩ := hb.atI hlt
      have Hx := Lib.hid (gi_eq hx); have Hy := Lib.hid (gi_eq hy)
      have d0' := (hbel.cell (p := ⟨c1, o1 + k, none⟩) hc1).trans d0
      have d1' := (hbel.cell (p := ⟨c2, o2 + k, none⟩) hc2).trans d1
      have hki : (k : Int) < (n : Int) := by omega
      have hk0 : (0 : Int) ≤ (k : Int) := by omega
      clear hx hy d0 d1
      by_cases hxy : x = y
      · have hdd : (x != y) = false := by simp [hxy]
        have Hn := Lib.hid (show ∀ j, j < k + 1 → gi a j = gi b j from fun j hj => by
          by_cases e : j = k
          · subst e; rw [Hx.out, Hy.out]; exact hxy
          · exact Hall.out j (by omega))
        clear hxy
        go_wp2_with fail
        go_quiet (fail)
        go_wp2
        go_roundg (n - (k + 1))
        case rel => exact ⟨k + 1, by omega, rfl, by go_num, Hn.out, below_drewN hbel _⟩
        case measure => omega
      · have hdd : (x != y) = true := by simp [hxy]
        have Hf := Lib.hid (HNe.out k hlt (by rw [Hx.out, Hy.out]; exact hxy))
        clear hxy
        go_wp2_with fail
        go_quiet (fail)
        go_wp2
        go_ret
        exact ⟨by rw [Hf.out]; rfl, below_drewN hbel _⟩
    · have ee : k = n := by omega
      subst ee
      have hd0 : decide (k < k) = false := by simp
      have Hf := Lib.hid (HEq.out Hall.out)
      clear hlt
      go_wp2
      go_ret
      exact ⟨by rw [Hf.out]; rfl, hbel⟩
set_option maxRecDepth 100000 in
set_option maxHeartbeats 1000000 in
theorem bsame_any (s t : Int) (A A2 : Option Addr) (n cap n2 cap2 : Nat) (a b : List Int) (w : World) (ha : RdI w w.heap.size A n cap a) (hb : RdI w w.heap.size A2 n2 cap2 b) :
    Calls Tryd.prog 14 #[.agg #[.int .i64 s, .slice A n cap], .agg #[.int .i64 t, .slice A2 n2 cap2]] w fun e w' => e = .returned (.bool (sameB s a t b)) ∧ Below w.heap.size w w' := by
  have K := ((St.start w).oldRd ha).oldRd hb
  have r := K.raw
  have HQ := Lib.hid (fun W hl hm => equal_any A A2 n cap n2 cap2 a b W hl hm)
  clear ha hb
  by_cases hst : s = t
  case neg =>
    have hd : (s == t) = false := by simp [hst]
    have hR : sameB s a t b = false := by unfold sameB; exact decide_eq_false fun h => hst h.1
    rw [hR]
    clear hR hst
    go_enter Tryd.func14, Tryd.ntmps14
    go_wp2_with (first | (apply K.alloc; rfl; rfl; (first | with_reducible exact big_zero | with_reducible exact frac_zero); clear K r; (first | ((fail_if_success revert b0); intro W b0 K) | ((fail_if_success revert b1); intro W b1 K) | ((fail_if_success revert b2); intro W b2 K) | ((fail_if_success revert b3); intro W b3 K) | ((fail_if_success revert b4); intro W b4 K) | ((fail_if_success revert b5); intro W b5 K) | ((fail_if_success revert b6); intro W b6 K) | ((fail_if_success revert b7); intro W b7 K) | ((fail_if_success revert b8); intro W b8 K) | ((fail_if_success revert b9); intro W b9 K) | ((fail_if_success revert b10); intro W b10 K) | ((fail_if_success revert b11); intro W b11 K) | ((fail_if_success revert b12); intro W b12 K) | ((fail_if_success revert b13); intro W b13 K) | ((fail_if_success revert b14); intro W b14 K) | ((fail_if_success revert b15); intro W b15 K) | ((fail_if_success revert b16); intro W b16 K) | ((fail_if_success revert b17); intro W b17 K) | ((fail_if_success revert b18); intro W b18 K) | ((fail_if_success revert b19); intro W b19 K) | ((fail_if_success revert b20); intro W b20 K) | ((fail_if_success revert b21); intro W b21 K)); have r := K.raw; simp only [Raw, RawC, and_true, true_and, Nat.zero_add, Nat.reduceAdd] at r) | (apply K.box; rfl; rfl; rfl; clear K r; (first | ((fail_if_success revert b0); intro W b0 K) | ((fail_if_success revert b1); intro W b1 K) | ((fail_if_success revert b2); intro W b2 K) | ((fail_if_success revert b3); intro W b3 K) | ((fail_if_success revert b4); intro W b4 K) | ((fail_if_success revert b5); intro W b5 K) | ((fail_if_success revert b6); intro W b6 K) | ((fail_if_success revert b7); intro W b7 K) | ((fail_if_success revert b8); intro W b8 K) | ((fail_if_success revert b9); intro W b9 K) | ((fail_if_success revert b10); intro W b10 K) | ((fail_if_success revert b11); intro W b11 K) | ((fail_if_success revert b12); intro W b12 K) | ((fail_if_success revert b13); intro W b13 K) | ((fail_if_success revert b14); intro W b14 K) | ((fail_if_success revert b15); intro W b15 K) | ((fail_if_success revert b16); intro W b16 K) | ((fail_if_success revert b17); intro W b17 K) | ((fail_if_success revert b18); intro W b18 K) | ((fail_if_success revert b19); intro W b19 K) | ((fail_if_success revert b20); intro W b20 K) | ((fail_if_success revert b21); intro W b21 K)); have r := K.raw; simp only [Raw, RawC, and_true, true_and, Nat.zero_add, Nat.reduceAdd] at r) | (apply K.storeA; rfl; rfl; rfl; rfl; rfl; (repeat (first | with_reducible exact Upd.head _ | with_reducible apply Upd.tail)); (first | with_reducible exact big_size | with_reducible exact frac_size); rfl; rfl; rfl; clear K r; intro W K; have r := K.raw; simp only [Raw, RawC, and_true, true_and, Nat.zero_add, Nat.reduceAdd] at r))
    go_ret
    exact ⟨rfl, K.1⟩
  subst hst
  have hd : (s == s) = true := by simp
  have hR : sameB s a s b = decide (a = b) := by unfold sameB; simp
  rw [hR]
  generalize decide (a = b) = R at *
  clear hR
  go_enter Tryd.func14, Tryd.ntmps14
  go_wp2_with (first | (apply K.alloc; rfl; rfl; (first | with_reducible exact big_zero | with_reducible exact frac_zero); clear K r; (first | ((fail_if_success revert b0); intro W b0 K) | ((fail_if_success revert b1); intro W b1 K) | ((fail_if_success revert b2); intro W b2 K) | ((fail_if_success revert b3); intro W b3 K) | ((fail_if_success revert b4); intro W b4 K) | ((fail_if_success revert b5); intro W b5 K) | ((fail_if_success revert b6); intro W b6 K) | ((fail_if_success revert b7); intro W b7 K) | ((fail_if_success revert b8); intro W b8 K) | ((fail_if_success revert b9); intro W b9 K) | ((fail_if_success revert b10); intro W b10 K) | ((fail_if_success revert b11); intro W b11 K) | ((fail_if_success revert b12); intro W b12 K) | ((fail_if_success revert b13); intro W b13 K) | ((fail_if_success revert b14); intro W b14 K) | ((fail_if_success revert b15); intro W b15 K) | ((fail_if_success revert b16); intro W b16 K) | ((fail_if_success revert b17); intro W b17 K) | ((fail_if_success revert b18); intro W b18 K) | ((fail_if_success revert b19); intro W b19 K) | ((fail_if_success revert b20); intro W b20 K) | ((fail_if_success revert b21); intro W b21 K)); have r := K.raw; simp only [Raw, RawC, and_true, true_and, Nat.zero_add, Nat.reduceAdd] at r) | (apply K.box; rfl; rfl; rfl; clear K r; (first | ((fail_if_success revert b0); intro W b0 K) | ((fail_if_success revert b1); intro W b1 K) | ((fail_if_success revert b2); intro W b2 K) | ((fail_if_success revert b3); intro W b3 K) | ((fail_if_success revert b4); intro W b4 K) | ((fail_if_success revert b5); intro W b5 K) | ((fail_if_success revert b6); intro W b6 K) | ((fail_if_success revert b7); intro W b7 K) | ((fail_if_success revert b8); intro W b8 K) | ((fail_if_success revert b9); intro W b9 K) | ((fail_if_success revert b10); intro W b10 K) | ((fail_if_success revert b11); intro W b11 K) | ((fail_if_success revert b12); intro W b12 K) | ((fail_if_success revert b13); intro W b13 K) | ((fail_if_success revert b14); intro W b14 K) | ((fail_if_success revert b15); intro W b15 K) | ((fail_if_success revert b16); intro W b16 K) | ((fail_if_success revert b17); intro W b17 K) | ((fail_if_success revert b18); intro W b18 K) | ((fail_if_success revert b19); intro W b19 K) | ((fail_if_success revert b20); intro W b20 K) | ((fail_if_success revert b21); intro W b21 K)); have r := K.raw; simp only [Raw, RawC, and_true, true_and, Nat.zero_add, Nat.reduceAdd] at r) | (apply K.storeA; rfl; rfl; rfl; rfl; rfl; (repeat (first | with_reducible exact Upd.head _ | with_reducible apply Upd.tail)); (first | with_reducible exact big_size | with_reducible exact frac_size); rfl; rfl; rfl; clear K r; intro W K; have r := K.raw; simp only [Raw, RawC, and_true, true_and, Nat.zero_add, Nat.reduceAdd] at r))
  refine (HQ.out _ (by first | exact Rd.nil | exact K.rd (by repeat (first | with_reducible exact List.mem_cons_self | with_reducible apply List.mem_cons_of_mem))) (by first | exact Rd.nil | exact K.rd (by repeat (first | with_reducible exact List.mem_cons_self | with_reducible apply List.mem_cons_of_mem)))).mono ?_
  rintro e W' ⟨rfl, hb⟩
  replace K := K.keep hb
  clear r
  have r := K.raw
  simp only [Raw, RawC, and_true, true_and, Nat.zero_add, Nat.reduceAdd, List.toList_toArray] at r
  clear hb
  go_wp2
  go_ret
  exact ⟨rfl, K.1⟩
/-- .. at numbers -/
theorem sameB_std {s t : Int} {a b : List Int} {x y : Int} (h1 : Std s a x) (h2 : Std t b y) : sameB s a t b = decide (x = y) := by
  unfold sameB
  by_cases h : x = y
  · subst h
    rw [decide_eq_true rfl, decide_eq_true ⟨h1.1.trans h2.1.symm, h1.2.trans h2.2.symm⟩]
  · rw [decide_eq_false h]
    exact decide_eq_false fun ⟨e1, e2⟩ => h (by rw [← h1.val, ← h2.val, e1, e2])
section
variable (x y : Int) (s : Int) (A : Option Addr) (n cap : Nat) (l : List Int) (t : Int) (A' : Option Addr) (n' cap' : Nat) (m : List Int) (W : World)
variable (hl : RdI W W.heap.size A n cap l) (hm : RdI W W.heap.size A' n' cap' m) (h1 : Std s l x) (h2 : Std t m y)
include hl hm h1 h2
theorem vSame : Calls Tryd.prog 14 #[.agg #[.int .i64 s, .slice A n cap], .agg #[.int .i64 t, .slice A' n' cap']] W fun e w' => e = .returned (.bool (decide (x = y))) ∧ Below W.heap.size W w' := by
  have h := bsame_any s t A A' n cap n' cap' l m W hl hm
  rw [sameB_std h1 h2] at h
  exact h
theorem uSame : Calls Tryd.prog 21 #[.agg #[.int .i64 s, .slice A n cap], .agg #[.int .i64 t, .slice A' n' cap']] W fun e w' => e = .returned (.bool (decide (x = y))) ∧ Below W.heap.size W w' := by
  have h := esame_any s t A A' n cap n' cap' l m W hl hm
  rw [sameB_std h1 h2] at h
  exact h
end
end Go.Proofs.YtkeajohkpmabcaaDoor
