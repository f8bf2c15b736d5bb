
/- Walk over Same of the reference of layer 4. Conditions stand in the theorem. -/
import Derived.Test.YtkeajohkpmabcaaDoorSt
namespace Go.Proofs.YtkeajohkpmabcaaDoor
open Go.RowKit
set_option linter.unusedVariables false
set_option linter.unusedSimpArgs false

theorem gi_list {a b : List Int} (hl : a.length = b.length) (h : ∀ j, j < a.length → gi a j = gi b j) : a = b := by
  apply List.ext_getElem hl
  intro i h1 h2
  have := h i h1
  rw [gi_eq (List.getElem?_eq_getElem h1), gi_eq (List.getElem?_eq_getElem h2)] at this
  exact this
/-- whether two big integers are the same -/
def sameB (s : Int) (a : List Int) (t : Int) (b : List Int) : Bool := decide (s = t ∧ a = b)
set_option maxRecDepth 100000 in
set_option maxHeartbeats 1000000 in
theorem esame_any (s t : Int) (A A2 : Option Addr) (n cap n2 cap2 : Nat) (a b : List Int) (w : World) (ha : RdI w w.heap.size A n cap a) (hb : RdI w w.heap.size A2 n2 cap2 b) :
    Calls Tryd.prog 21 #[.agg #[.int .i64 s, .slice A n cap], .agg #[.int .i64 t, .slice A2 n2 cap2]] w fun e w' => e = .returned (.bool (sameB s a t b)) ∧ Below w.heap.size w w' := by
  have K := ((St.start w).oldRd ha).oldRd hb
  have r := K.raw
  have hla := ha.len
  have hlb := hb.len
  have hca := ha.caps
  have hcb := hb.caps
  clear ha hb
  by_cases hst : s = t
  case neg =>
    have hd : (s != t) = true := by simp [hst]
    have hR : sameB s a t b = false := by unfold sameB; exact decide_eq_false fun h => hst h.1
    rw [hR]
    clear hR hst hla hlb
    go_enter Tryd.func21, Tryd.ntmps21
    go_wp2_with (first | (apply K.alloc; rfl; rfl; (first | with_reducible exact big_zero | with_reducible exact frac_zero); clear K r; (first | ((fail_if_success revert b0); intro W b0 K) | ((fail_if_success revert b1); intro W b1 K) | ((fail_if_success revert b2); intro W b2 K) | ((fail_if_success revert b3); intro W b3 K) | ((fail_if_success revert b4); intro W b4 K) | ((fail_if_success revert b5); intro W b5 K) | ((fail_if_success revert b6); intro W b6 K) | ((fail_if_success revert b7); intro W b7 K) | ((fail_if_success revert b8); intro W b8 K) | ((fail_if_success revert b9); intro W b9 K) | ((fail_if_success revert b10); intro W b10 K) | ((fail_if_success revert b11); intro W b11 K) | ((fail_if_success revert b12); intro W b12 K) | ((fail_if_success revert b13); intro W b13 K) | ((fail_if_success revert b14); intro W b14 K) | ((fail_if_success revert b15); intro W b15 K) | ((fail_if_success revert b16); intro W b16 K) | ((fail_if_success revert b17); intro W b17 K) | ((fail_if_success revert b18); intro W b18 K) | ((fail_if_success revert b19); intro W b19 K) | ((fail_if_success revert b20); intro W b20 K) | ((fail_if_success revert b21); intro W b21 K)); have r := K.raw; simp only [Raw, RawC, and_true, true_and, Nat.zero_add, Nat.reduceAdd] at r) | (apply K.box; rfl; rfl; rfl; clear K r; (first | ((fail_if_success revert b0); intro W b0 K) | ((fail_if_success revert b1); intro W b1 K) | ((fail_if_success revert b2); intro W b2 K) | ((fail_if_success revert b3); intro W b3 K) | ((fail_if_success revert b4); intro W b4 K) | ((fail_if_success revert b5); intro W b5 K) | ((fail_if_success revert b6); intro W b6 K) | ((fail_if_success revert b7); intro W b7 K) | ((fail_if_success revert b8); intro W b8 K) | ((fail_if_success revert b9); intro W b9 K) | ((fail_if_success revert b10); intro W b10 K) | ((fail_if_success revert b11); intro W b11 K) | ((fail_if_success revert b12); intro W b12 K) | ((fail_if_success revert b13); intro W b13 K) | ((fail_if_success revert b14); intro W b14 K) | ((fail_if_success revert b15); intro W b15 K) | ((fail_if_success revert b16); intro W b16 K) | ((fail_if_success revert b17); intro W b17 K) | ((fail_if_success revert b18); intro W b18 K) | ((fail_if_success revert b19); intro W b19 K) | ((fail_if_success revert b20); intro W b20 K) | ((fail_if_success revert b21); intro W b21 K)); have r := K.raw; simp only [Raw, RawC, and_true, true_and, Nat.zero_add, Nat.reduceAdd] at r) | (apply K.storeA; rfl; rfl; rfl; rfl; rfl; (repeat (first | with_reducible exact Upd.head _ | with_reducible apply Upd.tail)); (first | with_reducible exact big_size | with_reducible exact frac_size); rfl; rfl; rfl; clear K r; intro W K; have r := K.raw; simp only [Raw, RawC, and_true, true_and, Nat.zero_add, Nat.reduceAdd] at r))
    go_ret
    exact ⟨rfl, K.1⟩
  subst hst
  have hd : (s != s) = false := by simp
  by_cases hnn : n = n2
  case neg =>
    have hd2 : ((n : Int) != (n2 : Int)) = true := by simp; omega
    have hR : sameB s a s b = false := by unfold sameB; exact decide_eq_false fun h => hnn (by rw [← hla, ← hlb, h.2])
    rw [hR]
    clear hR hnn hla hlb
    go_enter Tryd.func21, Tryd.ntmps21
    go_wp2_with (first | (apply K.alloc; rfl; rfl; (first | with_reducible exact big_zero | with_reducible exact frac_zero); clear K r; (first | ((fail_if_success revert b0); intro W b0 K) | ((fail_if_success revert b1); intro W b1 K) | ((fail_if_success revert b2); intro W b2 K) | ((fail_if_success revert b3); intro W b3 K) | ((fail_if_success revert b4); intro W b4 K) | ((fail_if_success revert b5); intro W b5 K) | ((fail_if_success revert b6); intro W b6 K) | ((fail_if_success revert b7); intro W b7 K) | ((fail_if_success revert b8); intro W b8 K) | ((fail_if_success revert b9); intro W b9 K) | ((fail_if_success revert b10); intro W b10 K) | ((fail_if_success revert b11); intro W b11 K) | ((fail_if_success revert b12); intro W b12 K) | ((fail_if_success revert b13); intro W b13 K) | ((fail_if_success revert b14); intro W b14 K) | ((fail_if_success revert b15); intro W b15 K) | ((fail_if_success revert b16); intro W b16 K) | ((fail_if_success revert b17); intro W b17 K) | ((fail_if_success revert b18); intro W b18 K) | ((fail_if_success revert b19); intro W b19 K) | ((fail_if_success revert b20); intro W b20 K) | ((fail_if_success revert b21); intro W b21 K)); have r := K.raw; simp only [Raw, RawC, and_true, true_and, Nat.zero_add, Nat.reduceAdd] at r) | (apply K.box; rfl; rfl; rfl; clear K r; (first | ((fail_if_success revert b0); intro W b0 K) | ((fail_if_success revert b1); intro W b1 K) | ((fail_if_success revert b2); intro W b2 K) | ((fail_if_success revert b3); intro W b3 K) | ((fail_if_success revert b4); intro W b4 K) | ((fail_if_success revert b5); intro W b5 K) | ((fail_if_success revert b6); intro W b6 K) | ((fail_if_success revert b7); intro W b7 K) | ((fail_if_success revert b8); intro W b8 K) | ((fail_if_success revert b9); intro W b9 K) | ((fail_if_success revert b10); intro W b10 K) | ((fail_if_success revert b11); intro W b11 K) | ((fail_if_success revert b12); intro W b12 K) | ((fail_if_success revert b13); intro W b13 K) | ((fail_if_success revert b14); intro W b14 K) | ((fail_if_success revert b15); intro W b15 K) | ((fail_if_success revert b16); intro W b16 K) | ((fail_if_success revert b17); intro W b17 K) | ((fail_if_success revert b18); intro W b18 K) | ((fail_if_success revert b19); intro W b19 K) | ((fail_if_success revert b20); intro W b20 K) | ((fail_if_success revert b21); intro W b21 K)); have r := K.raw; simp only [Raw, RawC, and_true, true_and, Nat.zero_add, Nat.reduceAdd] at r) | (apply K.storeA; rfl; rfl; rfl; rfl; rfl; (repeat (first | with_reducible exact Upd.head _ | with_reducible apply Upd.tail)); (first | with_reducible exact big_size | with_reducible exact frac_size); rfl; rfl; rfl; clear K r; intro W K; have r := K.raw; simp only [Raw, RawC, and_true, true_and, Nat.zero_add, Nat.reduceAdd] at r))
    go_ret
    exact ⟨rfl, K.1⟩
  subst hnn
  have hd2 : ((n : Int) != (n : Int)) = false := by simp
  have HEq := Lib.hid (show (∀ j, j < n → gi a j = gi b j) → sameB s a s b = true from fun h => by unfold sameB; exact decide_eq_true ⟨rfl, gi_list (by omega) (by rw [hla]; exact h)⟩)
  have HNe := Lib.hid (show ∀ j, j < n → gi a j ≠ gi b j → sameB s a s b = false from fun j _ h => by unfold sameB; exact decide_eq_false fun h1 => h (by rw [h1.2]))
  generalize sameB s a s b = R at *
  clear hla hlb
  go_enter Tryd.func21, Tryd.ntmps21
  go_wp2_with (first | (apply K.alloc; rfl; rfl; (first | with_reducible exact big_zero | with_reducible exact frac_zero); clear K r; (first | ((fail_if_success revert b0); intro W b0 K) | ((fail_if_success revert b1); intro W b1 K) | ((fail_if_success revert b2); intro W b2 K) | ((fail_if_success revert b3); intro W b3 K) | ((fail_if_success revert b4); intro W b4 K) | ((fail_if_success revert b5); intro W b5 K) | ((fail_if_success revert b6); intro W b6 K) | ((fail_if_success revert b7); intro W b7 K) | ((fail_if_success revert b8); intro W b8 K) | ((fail_if_success revert b9); intro W b9 K) | ((fail_if_success revert b10); intro W b10 K) | ((fail_if_success revert b11); intro W b11 K) | ((fail_if_success revert b12); intro W b12 K) | ((fail_if_success revert b13); intro W b13 K) | ((fail_if_success revert b14); intro W b14 K) | ((fail_if_success revert b15); intro W b15 K) | ((fail_if_success revert b16); intro W b16 K) | ((fail_if_success revert b17); intro W b17 K) | ((fail_if_success revert b18); intro W b18 K) | ((fail_if_success revert b19); intro W b19 K) | ((fail_if_success revert b20); intro W b20 K) | ((fail_if_success revert b21); intro W b21 K)); have r := K.raw; simp only [Raw, RawC, and_true, true_and, Nat.zero_add, Nat.reduceAdd] at r) | (apply K.box; rfl; rfl; rfl; clear K r; (first | ((fail_if_success revert b0); intro W b0 K) | ((fail_if_success revert b1); intro W b1 K) | ((fail_if_success revert b2); intro W b2 K) | ((fail_if_success revert b3); intro W b3 K) | ((fail_if_success revert b4); intro W b4 K) | ((fail_if_success revert b5); intro W b5 K) | ((fail_if_success revert b6); intro W b6 K) | ((fail_if_success revert b7); intro W b7 K) | ((fail_if_success revert b8); intro W b8 K) | ((fail_if_success revert b9); intro W b9 K) | ((fail_if_success revert b10); intro W b10 K) | ((fail_if_success revert b11); intro W b11 K) | ((fail_if_success revert b12); intro W b12 K) | ((fail_if_success revert b13); intro W b13 K) | ((fail_if_success revert b14); intro W b14 K) | ((fail_if_success revert b15); intro W b15 K) | ((fail_if_success revert b16); intro W b16 K) | ((fail_if_success revert b17); intro W b17 K) | ((fail_if_success revert b18); intro W b18 K) | ((fail_if_success revert b19); intro W b19 K) | ((fail_if_success revert b20); intro W b20 K) | ((fail_if_success revert b21); intro W b21 K)); have r := K.raw; simp only [Raw, RawC, and_true, true_and, Nat.zero_add, Nat.reduceAdd] at r) | (apply K.storeA; rfl; rfl; rfl; rfl; rfl; (repeat (first | with_reducible exact Upd.head _ | with_reducible apply Upd.tail)); (first | with_reducible exact big_size | with_reducible exact frac_size); rfl; rfl; rfl; clear K r; intro W K; have r := K.raw; simp only [Raw, RawC, and_true, true_and, Nat.zero_add, Nat.reduceAdd] at r))
  go_loopg [5] n (fun gk i wr => ∃ k : Nat, k ≤ n ∧ gk = n - k ∧ i = .int .i64 k ∧ (∀ j, j < k → gi a j = gi b j) ∧ St w [(b1, #[.int .i64 s, .slice A2 n cap2], 24), (b0, #[.int .i64 s, .slice A n cap], 24)] [⟨rdP A2 n cap2 b, oldS w⟩, ⟨rdP A n cap a, oldS w⟩] wr)
  case atStart => exact ⟨0, Nat.zero_le _, rfl, rfl, (fun j hj => absurd hj (by omega)), K⟩
  case round =>
    clear K r
    obtain ⟨k, hk, rfl, rfl, hall, K⟩ := hrel
    have Hall := Lib.hid hall
    clear hall
    by_cases hlt : k < n
    · obtain ⟨c1, o1, x, rfl, hc1, hx, d0⟩ := (show RdI wr wr.heap.size A n cap a from K.rd (by repeat (first | with_reducible exact List.mem_cons_self | with_reducible apply List.mem_cons_of_mem))).atI hlt
      obtain ⟨c2, o2, y, rfl, hc2, hy, d1⟩ := (show RdI wr wr.heap.size A2 n cap2 b from K.rd (by repeat (first | with_reducible exact List.mem_cons_self | with_reducible apply List.mem_cons_of_mem))).atI hlt
      have Hx := Lib.hid (gi_eq hx); have Hy := Lib.hid (gi_eq hy)
      have hki : (k : Int) < (n : Int) := by omega
      have hk0 : (0 : Int) ≤ (k : Int) := by omega
      clear hx hy
      have r := K.raw
      simp only [Raw, RawC, and_true, true_and, Nat.zero_add, Nat.reduceAdd, List.toList_toArray] at r
      by_cases hxy : x = y
      · have hdd : (x != y) = false := by simp [hxy]
        have Hn := Lib.hid (show ∀ j, j < k + 1 → gi a j = gi b j from fun j hj => by
          by_cases e : j = k
          · subst e; rw [Hx.out, Hy.out]; exact hxy
          · exact Hall.out j (by omega))
        clear hxy
        go_wp2_with fail
        go_quiet (fail)
        go_wp2
        go_roundg (n - (k + 1))
        case rel => exact ⟨k + 1, by omega, rfl, by go_num, Hn.out, K.drewN _⟩
        case measure => omega
      · have hdd : (x != y) = true := by simp [hxy]
        have Hf := Lib.hid (HNe.out k hlt (by rw [Hx.out, Hy.out]; exact hxy))
        clear hxy
        go_wp2_with fail
        go_quiet (fail)
        go_wp2
        go_ret
        exact ⟨by rw [Hf.out]; rfl, (K.drewN _).1⟩
    · have ee : k = n := by omega
      subst ee
      have hd0 : decide (k < k) = false := by simp
      have Hf := Lib.hid (HEq.out Hall.out)
      clear hlt
      have r := K.raw
      simp only [Raw, RawC, and_true, true_and, Nat.zero_add, Nat.reduceAdd, List.toList_toArray] at r
      go_wp2
      go_ret
      exact ⟨by rw [Hf.out]; rfl, K.1⟩
end Go.Proofs.YtkeajohkpmabcaaDoor
