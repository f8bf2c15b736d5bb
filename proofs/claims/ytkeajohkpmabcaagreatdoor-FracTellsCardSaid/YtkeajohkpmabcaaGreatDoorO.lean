/- Texts laid together: each begins with what it shows, and the conditions stand in its theorems. -/
import Derived.Test.YtkeajohkpmabcaaGreatDoorC
import Derived.Test.YtkeajohkpmabcaaGreatDoorM
import Derived.Test.YtkeajohkpmabcaaGreatDoorSh
import Derived.Lib.AppendIntMem
import Derived.Shelf.Slices.Cells
import Derived.Lib.ConvBytes
import Derived.Lib.AtoiErrMem
import Derived.Test.YtkeajohkpmabcaaGreatDoorD
import Derived.Test.YtkeajohkpmabcaaGreatDoorB

/- Walks over Same of package big, and over slices.Equal at ints. Conditions stand in each theorem. -/
namespace Go.Proofs.YtkeajohkpmabcaaGreatDoor
open Go.RowKit
set_option linter.unusedVariables false
set_option linter.unusedSimpArgs false

set_option maxRecDepth 100000 in
set_option maxHeartbeats 1000000 in
theorem equal_any (A A2 : Option Addr) (n cap n2 cap2 : Nat) (a b : List Int) (w : World) (ha : RdI w w.heap.size A n cap a) (hb : RdI w w.heap.size A2 n2 cap2 b) :
    Calls Tryz.prog 87 #[.slice A n cap, .slice A2 n2 cap2] w fun e w' => e = .returned (.bool (decide (a = b))) ∧ Below w.heap.size w w' := by
  have hla := ha.len
  have hlb := hb.len
  have hca := ha.caps
  have hcb := hb.caps
  by_cases hnn : n = n2
  case neg =>
    have hd2 : ((n : Int) != (n2 : Int)) = true := by simp; omega
    have hR : decide (a = b) = false := decide_eq_false fun h => hnn (by rw [← hla, ← hlb, h])
    rw [hR]
    clear hR hnn hla hlb
    go_enter Tryz.func87, Tryz.ntmps87
    go_wp2
    go_ret
    exact ⟨rfl, Below.refl _ _⟩
  subst hnn
  have hd2 : ((n : Int) != (n : Int)) = false := by simp
  have HEq := Lib.hid (show (∀ j, j < n → gi a j = gi b j) → decide (a = b) = true from fun h => decide_eq_true (gi_list (by omega) (by rw [hla]; exact h)))
  have HNe := Lib.hid (show ∀ j, j < n → gi a j ≠ gi b j → decide (a = b) = false from fun j _ h => decide_eq_false fun h1 => h (by rw [h1]))
  generalize decide (a = b) = R at *
  clear hla hlb
  go_enter Tryz.func87, Tryz.ntmps87
  go_wp2_with fail
  go_loopg [13] n (fun gk i wr => ∃ k : Nat, k ≤ n ∧ gk = n - k ∧ i = .int .i64 k ∧ (∀ j, j < k → gi a j = gi b j) ∧ Below w.heap.size w wr)
  case atStart => exact ⟨0, Nat.zero_le _, rfl, rfl, (fun j hj => absurd hj (by omega)), Below.refl _ _⟩
  case round =>
    obtain ⟨k, hk, rfl, rfl, hall, hbel⟩ := hrel
    have Hall := Lib.hid hall
    clear hall
    by_cases hlt : k < n
    · obtain ⟨c1, o1, x, rfl, hc1, hx, d0⟩ := ha.atI hlt
      obtain ⟨c2, o2, y, rfl, hc2, hy, d1⟩ := hb.atI hlt
      have Hx := Lib.hid (gi_eq hx); have Hy := Lib.hid (gi_eq hy)
      have d0' := (hbel.cell (p := ⟨c1, o1 + k, none⟩) hc1).trans d0
      have d1' := (hbel.cell (p := ⟨c2, o2 + k, none⟩) hc2).trans d1
      have hki : (k : Int) < (n : Int) := by omega
      have hk0 : (0 : Int) ≤ (k : Int) := by omega
      clear hx hy d0 d1
      by_cases hxy : x = y
      · have hdd : (x != y) = false := by simp [hxy]
        have Hn := Lib.hid (show ∀ j, j < k + 1 → gi a j = gi b j from fun j hj => by
          by_cases e : j = k
          · subst e; rw [Hx.out, Hy.out]; exact hxy
          · exact Hall.out j (by omega))
        clear hxy
        go_wp2_with fail
        go_quiet (fail)
        go_wp2
        go_roundg (n - (k + 1))
        case rel => exact ⟨k + 1, by omega, rfl, by go_num, Hn.out, below_drewN hbel _⟩
        case measure => omega
      · have hdd : (x != y) = true := by simp [hxy]
        have Hf := Lib.hid (HNe.out k hlt (by rw [Hx.out, Hy.out]; exact hxy))
        clear hxy
        go_wp2_with fail
        go_quiet (fail)
        go_wp2
        go_ret
        exact ⟨by rw [Hf.out]; rfl, below_drewN hbel _⟩
    · have ee : k = n := by omega
      subst ee
      have hd0 : decide (k < k) = false := by simp
      have Hf := Lib.hid (HEq.out Hall.out)
      clear hlt
      go_wp2
      go_ret
      exact ⟨by rw [Hf.out]; rfl, hbel⟩
set_option maxRecDepth 100000 in
set_option maxHeartbeats 1000000 in
theorem bsame_any (s t : Int) (A A2 : Option Addr) (n cap n2 cap2 : Nat) (a b : List Int) (w : World) (ha : RdI w w.heap.size A n cap a) (hb : RdI w w.heap.size A2 n2 cap2 b) :
    Calls Tryz.prog 30 #[.agg #[.int .i64 s, .slice A n cap], .agg #[.int .i64 t, .slice A2 n2 cap2]] w fun e w' => e = .returned (.bool (sameB s a t b)) ∧ Below w.heap.size w w' := by
  have K := ((St.start w).oldRd ha).oldRd hb
  have r := K.raw
  have HQ := Lib.hid (fun W hl hm => equal_any A A2 n cap n2 cap2 a b W hl hm)
  clear ha hb
  by_cases hst : s = t
  case neg =>
    have hd : (s == t) = false := by simp [hst]
    have hR : sameB s a t b = false := by unfold sameB; exact decide_eq_false fun h => hst h.1
    rw [hR]
    clear hR hst
    go_enter Tryz.func30, Tryz.ntmps30
    go_wp2_with (first | ((first | (apply K.alloc; rfl; rfl; (first | with_reducible exact big_zero | with_reducible exact frac_zero)) | (apply K.box; rfl; rfl; rfl)); clear K r; (first | ((fail_if_success revert b0); intro W b0 K) | ((fail_if_success revert b1); intro W b1 K) | ((fail_if_success revert b2); intro W b2 K) | ((fail_if_success revert b3); intro W b3 K) | ((fail_if_success revert b4); intro W b4 K) | ((fail_if_success revert b5); intro W b5 K) | ((fail_if_success revert b6); intro W b6 K) | ((fail_if_success revert b7); intro W b7 K)); have r := K.rawS) | (apply K.storeA; rfl; rfl; rfl; rfl; rfl; (repeat (first | with_reducible exact Upd.head _ | with_reducible apply Upd.tail)); (first | with_reducible exact big_size | with_reducible exact frac_size); rfl; rfl; rfl; clear K r; intro W K; have r := K.rawS))
    go_ret
    exact ⟨rfl, K.1⟩
  subst hst
  have hd : (s == s) = true := by simp
  have hR : sameB s a s b = decide (a = b) := by unfold sameB; simp
  rw [hR]
  generalize decide (a = b) = R at *
  clear hR
  go_enter Tryz.func30, Tryz.ntmps30
  go_wp2_with (first | ((first | (apply K.alloc; rfl; rfl; (first | with_reducible exact big_zero | with_reducible exact frac_zero)) | (apply K.box; rfl; rfl; rfl)); clear K r; (first | ((fail_if_success revert b0); intro W b0 K) | ((fail_if_success revert b1); intro W b1 K) | ((fail_if_success revert b2); intro W b2 K) | ((fail_if_success revert b3); intro W b3 K) | ((fail_if_success revert b4); intro W b4 K) | ((fail_if_success revert b5); intro W b5 K) | ((fail_if_success revert b6); intro W b6 K) | ((fail_if_success revert b7); intro W b7 K)); have r := K.rawS) | (apply K.storeA; rfl; rfl; rfl; rfl; rfl; (repeat (first | with_reducible exact Upd.head _ | with_reducible apply Upd.tail)); (first | with_reducible exact big_size | with_reducible exact frac_size); rfl; rfl; rfl; clear K r; intro W K; have r := K.rawS))
  refine (HQ.out _ (by first | exact Rd.nil | exact K.rda) (by first | exact Rd.nil | exact K.rda)).mono ?_
  rintro e W' ⟨rfl, hb⟩
  replace K := K.keep hb
  clear r
  have r := K.rawS
  clear hb
  go_wp2
  go_ret
  exact ⟨rfl, K.1⟩
/-- .. at numbers -/
theorem sameB_std {s t : Int} {a b : List Int} {x y : Int} (h1 : Std s a x) (h2 : Std t b y) : sameB s a t b = decide (x = y) := by
  unfold sameB
  by_cases h : x = y
  · subst h
    rw [decide_eq_true rfl, decide_eq_true ⟨h1.1.trans h2.1.symm, h1.2.trans h2.2.symm⟩]
  · rw [decide_eq_false h]
    exact decide_eq_false fun ⟨e1, e2⟩ => h (by rw [← h1.val, ← h2.val, e1, e2])
section
variable (x y : Int) (s : Int) (A : Option Addr) (n cap : Nat) (l : List Int) (t : Int) (A' : Option Addr) (n' cap' : Nat) (m : List Int) (W : World)
variable (hl : RdI W W.heap.size A n cap l) (hm : RdI W W.heap.size A' n' cap' m) (h1 : Std s l x) (h2 : Std t m y)
include hl hm h1 h2
theorem vSame : Calls Tryz.prog 30 #[.agg #[.int .i64 s, .slice A n cap], .agg #[.int .i64 t, .slice A' n' cap']] W fun e w' => e = .returned (.bool (decide (x = y))) ∧ Below W.heap.size W w' := by
  have h := bsame_any s t A A' n cap n' cap' l m W hl hm
  rw [sameB_std h1 h2] at h
  exact h
theorem uSame : Calls Tryz.prog 17 #[.agg #[.int .i64 s, .slice A n cap], .agg #[.int .i64 t, .slice A' n' cap']] W fun e w' => e = .returned (.bool (decide (x = y))) ∧ Below W.heap.size W w' := by
  have h := esame_any s t A A' n cap n' cap' l m W hl hm
  rw [sameB_std h1 h2] at h
  exact h
end
end Go.Proofs.YtkeajohkpmabcaaGreatDoor

/- Walk over Sub of package big. Conditions stand in the theorem. -/
namespace Go.Proofs.YtkeajohkpmabcaaGreatDoor
open Go.RowKit
set_option linter.unusedVariables false
set_option linter.unusedSimpArgs false

theorem fits_neg2 {z : Int} (h : fits z = true) : fits (-z) = true := by
  rw [fits_iff] at h ⊢
  rw [Int.natAbs_neg]; exact h
set_option maxRecDepth 100000 in
set_option maxHeartbeats 2000000 in
theorem bSub_any (s t : Int) (A A2 : Option Addr) (n cap n2 cap2 : Nat) (a b : List Int) (w : World) (ha : RdI w w.heap.size A n cap a) (hb : RdI w w.heap.size A2 n2 cap2 b) :
    Calls Tryz.prog 13 #[.agg #[.int .i64 s, .slice A n cap], .agg #[.int .i64 t, .slice A2 n2 cap2]] w (BigE w (resZ (rightB s a && rightB t b) (bval s a - bval t b)) (errZ (rightB s a && rightB t b) (bval s a - bval t b))) := by
  have K := ((St.start w).oldRd ha).oldRd hb
  have r := K.raw
  have HR2 := Lib.hid (fun W hl => bright_any t A2 n2 cap2 b W hl)
  cases h2 : rightB t b
  · rw [h2] at HR2
    rw [Bool.and_false, resZ_false, errZ_false]
    clear h2
    have HC := Lib.hid (fun W => checkedD false 0 none 0 0 [] 0 W Rd.nil Std.zero)
    rw [resZ_false, errZ_false] at HC
    go_enter Tryz.func13, Tryz.ntmps13
    go_wp2_with (first | ((first | (apply K.alloc; rfl; rfl; (first | with_reducible exact big_zero | with_reducible exact frac_zero)) | (apply K.box; rfl; rfl; rfl)); clear K r; (first | ((fail_if_success revert b0); intro W b0 K) | ((fail_if_success revert b1); intro W b1 K) | ((fail_if_success revert b2); intro W b2 K) | ((fail_if_success revert b3); intro W b3 K) | ((fail_if_success revert b4); intro W b4 K) | ((fail_if_success revert b5); intro W b5 K) | ((fail_if_success revert b6); intro W b6 K) | ((fail_if_success revert b7); intro W b7 K)); have r := K.rawS) | (apply K.storeA; rfl; rfl; rfl; rfl; rfl; (repeat (first | with_reducible exact Upd.head _ | with_reducible apply Upd.tail)); (first | with_reducible exact big_size | with_reducible exact frac_size); rfl; rfl; rfl; clear K r; intro W K; have r := K.rawS))
    refine (HR2.out _ (by first | exact Rd.nil | exact K.rda)).mono ?_
    rintro e W' ⟨rfl, hb⟩
    replace K := K.keep hb
    clear r
    have r := K.rawS
    clear hb
    go_wp2_with (first | ((first | (apply K.alloc; rfl; rfl; (first | with_reducible exact big_zero | with_reducible exact frac_zero)) | (apply K.box; rfl; rfl; rfl)); clear K r; (first | ((fail_if_success revert b0); intro W b0 K) | ((fail_if_success revert b1); intro W b1 K) | ((fail_if_success revert b2); intro W b2 K) | ((fail_if_success revert b3); intro W b3 K) | ((fail_if_success revert b4); intro W b4 K) | ((fail_if_success revert b5); intro W b5 K) | ((fail_if_success revert b6); intro W b6 K) | ((fail_if_success revert b7); intro W b7 K)); have r := K.rawS) | (apply K.storeA; rfl; rfl; rfl; rfl; rfl; (repeat (first | with_reducible exact Upd.head _ | with_reducible apply Upd.tail)); (first | with_reducible exact big_size | with_reducible exact frac_size); rfl; rfl; rfl; clear K r; intro W K; have r := K.rawS))
    refine (HC.out _).mono ?_
    rintro e W' ⟨s7, A7, n7, c7, l7, rfl, hr, hs7, hf, hb⟩
    have hf7 := Lib.hid (hf w.heap.size FrA.none)
    replace K := K.ret hb hr (hf _ FrA.none)
    clear r
    have r := K.rawS
    clear hr hf hb
    go_wp2_with (first | ((first | (apply K.alloc; rfl; rfl; (first | with_reducible exact big_zero | with_reducible exact frac_zero)) | (apply K.box; rfl; rfl; rfl)); clear K r; (first | ((fail_if_success revert b0); intro W b0 K) | ((fail_if_success revert b1); intro W b1 K) | ((fail_if_success revert b2); intro W b2 K) | ((fail_if_success revert b3); intro W b3 K) | ((fail_if_success revert b4); intro W b4 K) | ((fail_if_success revert b5); intro W b5 K) | ((fail_if_success revert b6); intro W b6 K) | ((fail_if_success revert b7); intro W b7 K)); have r := K.rawS) | (apply K.storeA; rfl; rfl; rfl; rfl; rfl; (repeat (first | with_reducible exact Upd.head _ | with_reducible apply Upd.tail)); (first | with_reducible exact big_size | with_reducible exact frac_size); rfl; rfl; rfl; clear K r; intro W K; have r := K.rawS))
    have HE := Lib.hid (⟨s7, A7, n7, c7, l7, rfl, (by first | exact Rd.nil | exact K.rda), hs7, hf7.out, K.1⟩ : BigE w 0 1 (.returned (.tuple #[.agg #[.int .i64 s7, .slice A7 n7 c7], .int .i64 1])) W)
    clear hs7
    exact bodyPost_ret (v := .tuple #[.agg #[.int .i64 s7, .slice A7 n7 c7], .int .i64 1]) (by simp [results, Tryz.results13, go_sem, r]) rfl HE.out
  rw [h2] at HR2
  have F2 := fits_of_right h2
  have S2 := Std.of_right h2
  rw [Bool.and_true, Int.sub_eq_add_neg]
  have HN0 := Lib.hid (fun W hl => bneg_any t A2 n2 cap2 b W hl)
  have en : negZ t b = -(bval t b) := if_pos h2
  rw [en] at HN0
  have HA0 := Lib.hid (fun s5 A5 n5 c5 l5 W hl hm (h : Std s5 l5 (-(bval t b))) => (show Calls Tryz.prog 11 #[.agg #[.int .i64 s, .slice A n cap], .agg #[.int .i64 s5, .slice A5 n5 c5]] W (BigE W (resZ (rightB s a) (bval s a + -(bval t b))) (errZ (rightB s a) (bval s a + -(bval t b)))) from by
    have h0 := bAdd_any s s5 A A5 n cap n5 c5 a l5 W hl hm
    rw [h.right (fits_neg2 F2), h.val, Bool.and_true] at h0
    exact h0))
  generalize resZ (rightB s a) (bval s a + -(bval t b)) = O at *
  generalize errZ (rightB s a) (bval s a + -(bval t b)) = E at *
  generalize -(bval t b) = yn at *
  clear S2 F2 h2 en
  go_enter Tryz.func13, Tryz.ntmps13
  go_wp2_with (first | ((first | (apply K.alloc; rfl; rfl; (first | with_reducible exact big_zero | with_reducible exact frac_zero)) | (apply K.box; rfl; rfl; rfl)); clear K r; (first | ((fail_if_success revert b0); intro W b0 K) | ((fail_if_success revert b1); intro W b1 K) | ((fail_if_success revert b2); intro W b2 K) | ((fail_if_success revert b3); intro W b3 K) | ((fail_if_success revert b4); intro W b4 K) | ((fail_if_success revert b5); intro W b5 K) | ((fail_if_success revert b6); intro W b6 K) | ((fail_if_success revert b7); intro W b7 K)); have r := K.rawS) | (apply K.storeA; rfl; rfl; rfl; rfl; rfl; (repeat (first | with_reducible exact Upd.head _ | with_reducible apply Upd.tail)); (first | with_reducible exact big_size | with_reducible exact frac_size); rfl; rfl; rfl; clear K r; intro W K; have r := K.rawS))
  refine (HR2.out _ (by first | exact Rd.nil | exact K.rda)).mono ?_
  rintro e W' ⟨rfl, hb⟩
  replace K := K.keep hb
  clear r
  have r := K.rawS
  clear hb
  go_wp2_with (first | ((first | (apply K.alloc; rfl; rfl; (first | with_reducible exact big_zero | with_reducible exact frac_zero)) | (apply K.box; rfl; rfl; rfl)); clear K r; (first | ((fail_if_success revert b0); intro W b0 K) | ((fail_if_success revert b1); intro W b1 K) | ((fail_if_success revert b2); intro W b2 K) | ((fail_if_success revert b3); intro W b3 K) | ((fail_if_success revert b4); intro W b4 K) | ((fail_if_success revert b5); intro W b5 K) | ((fail_if_success revert b6); intro W b6 K) | ((fail_if_success revert b7); intro W b7 K)); have r := K.rawS) | (apply K.storeA; rfl; rfl; rfl; rfl; rfl; (repeat (first | with_reducible exact Upd.head _ | with_reducible apply Upd.tail)); (first | with_reducible exact big_size | with_reducible exact frac_size); rfl; rfl; rfl; clear K r; intro W K; have r := K.rawS))
  have X0 : Sx w b2 24 2 [(b1, #[.int .i64 t, .slice A2 n2 cap2], 24), (b0, #[.int .i64 s, .slice A n cap], 24)] [⟨rdP A2 n2 cap2 b, oldS w⟩, ⟨rdP A n cap a, oldS w⟩] W' := Sx.of K rfl
  have HSx := Lib.hid (fun W (h : Sx w b2 24 2 [(b1, #[.int .i64 t, .slice A2 n2 cap2], 24), (b0, #[.int .i64 s, .slice A n cap], 24)] [⟨rdP A2 n2 cap2 b, oldS w⟩, ⟨rdP A n cap a, oldS w⟩] W) => (show (Sx w b2 24 2 [(b1, #[.int .i64 t, .slice A2 n2 cap2], 24), (b0, #[.int .i64 s, .slice A n cap], 24)] [⟨rdP A2 n2 cap2 b, oldS w⟩, ⟨rdP A n cap a, oldS w⟩] W ∧ ((W.cell? ⟨b1, 0, none⟩ = some (.int .i64 t) ∧ W.cell? ⟨b1, 1, none⟩ = some (.slice A2 n2 cap2)) ∧ W.cell? ⟨b0, 0, none⟩ = some (.int .i64 s) ∧ W.cell? ⟨b0, 1, none⟩ = some (.slice A n cap)) ∧ (W.cell? ⟨b2, 0, none⟩ = some (cellD W ⟨b2, 0, none⟩) ∧ W.cell? ⟨b2, 1, none⟩ = some (cellD W ⟨b2, 1, none⟩)) ∧ ∀ j, W.frozen? ⟨b2, j, none⟩ = false) from by
    have r := h.raw
    simp only [Raw, RawC, and_true, Nat.zero_add, Nat.reduceAdd] at r
    exact ⟨h, r, ⟨h.cell (by omega), h.cell (by omega)⟩, h.thaw⟩))
  have HN := Lib.hid (fun W (h : Sx w b2 24 2 [(b1, #[.int .i64 t, .slice A2 n2 cap2], 24), (b0, #[.int .i64 s, .slice A n cap], 24)] [⟨rdP A2 n2 cap2 b, oldS w⟩, ⟨rdP A n cap a, oldS w⟩] W) => (HN0.out W (h.rd (by repeat (first | with_reducible exact List.mem_cons_self | with_reducible apply List.mem_cons_of_mem)))).mono fun e W' ⟨s5, A5, n5, c5, l5, he, hr, hs, hf, hb⟩ => (⟨s5, A5, n5, c5, l5, he, hr, hs, h.keep hb, hb⟩ : ∃ s5 A5 n5 c5 l5, e = Ending.returned (.agg #[.int .i64 s5, .slice A5 n5 c5]) ∧ RdI W' W'.heap.size A5 n5 c5 l5 ∧ Std s5 l5 yn ∧ Sx w b2 24 2 [(b1, #[.int .i64 t, .slice A2 n2 cap2], 24), (b0, #[.int .i64 s, .slice A n cap], 24)] [⟨rdP A2 n2 cap2 b, oldS w⟩, ⟨rdP A n cap a, oldS w⟩] W' ∧ Below W.heap.size W W'))
  have HA := Lib.hid (fun s5 A5 n5 c5 l5 W (hl : RdI W W.heap.size A5 n5 c5 l5) (hs : Std s5 l5 yn) (h : Sx w b2 24 2 [(b1, #[.int .i64 t, .slice A2 n2 cap2], 24), (b0, #[.int .i64 s, .slice A n cap], 24)] [⟨rdP A2 n2 cap2 b, oldS w⟩, ⟨rdP A n cap a, oldS w⟩] W) => (HA0.out s5 A5 n5 c5 l5 W (h.rd (by repeat (first | with_reducible exact List.mem_cons_self | with_reducible apply List.mem_cons_of_mem))) hl hs).mono fun e W' ⟨s7, A7, n7, c7, l7, he, hr, ho, hf, hb⟩ => (⟨s7, A7, n7, c7, l7, he, hr, ho, hf.mono h.lt, h.keep hb⟩ : ∃ s7 A7 n7 c7 l7, e = Ending.returned (.tuple #[.agg #[.int .i64 s7, .slice A7 n7 c7], .int .i64 E]) ∧ RdI W' W'.heap.size A7 n7 c7 l7 ∧ Std s7 l7 O ∧ FrA (b2 + 1) A7 ∧ Sx w b2 24 2 [(b1, #[.int .i64 t, .slice A2 n2 cap2], 24), (b0, #[.int .i64 s, .slice A n cap], 24)] [⟨rdP A2 n2 cap2 b, oldS w⟩, ⟨rdP A n cap a, oldS w⟩] W'))
  clear r K HN0 HA0
  go_region_held3 (fun W => (Sx w b2 24 2 [(b1, #[.int .i64 t, .slice A2 n2 cap2], 24), (b0, #[.int .i64 s, .slice A n cap], 24)] [⟨rdP A2 n2 cap2 b, oldS w⟩, ⟨rdP A n cap a, oldS w⟩] W ∧ ((W.cell? ⟨b1, 0, none⟩ = some (.int .i64 t) ∧ W.cell? ⟨b1, 1, none⟩ = some (.slice A2 n2 cap2)) ∧ W.cell? ⟨b0, 0, none⟩ = some (.int .i64 s) ∧ W.cell? ⟨b0, 1, none⟩ = some (.slice A n cap)) ∧ (W.cell? ⟨b2, 0, none⟩ = some (cellD W ⟨b2, 0, none⟩) ∧ W.cell? ⟨b2, 1, none⟩ = some (cellD W ⟨b2, 1, none⟩)) ∧ ∀ j, W.frozen? ⟨b2, j, none⟩ = false))
    ((refine HSx.out _ ?_; first | assumption | exact X0.drew | exact (Sx.set2 (by assumption)).1 | exact And.left (by assumption)))
    (first
      | (go_at_call 33; refine (HN.out _ (And.left (by assumption))).mono ?_; rintro e w5 ⟨s5, A5, n5, c5, l5, rfl, hr5, hs5, x5, b5⟩)
      | (go_at_call 11; refine (HA.out _ _ _ _ _ _ (by assumption) (by assumption) (And.left (by assumption))).mono ?_; rintro e w7 ⟨s7, A7, n7, c7, l7, rfl, hr7, ho, hf7, x7⟩))
  all_goals
    obtain ⟨y1, y2⟩ := x7.set2 (u0 := .int .i64 s7) (u1 := .slice A7 n7 c7)
    have HE := Lib.hid (⟨s7, A7, n7, c7, l7, rfl, (hr7.setX hf7).setX hf7, ho, hf7.mono (Nat.le_succ_of_le x7.ge), y1.below⟩ : BigE w O E (.returned (.tuple #[.agg #[.int .i64 s7, .slice A7 n7 c7], .int .i64 E])) ((w7.setCell ⟨b2, 0, none⟩ (.int .i64 s7)).setCell ⟨b2, 1, none⟩ (.slice A7 n7 c7)))
    clear hr7 hf7 x7 y1 ho hr5 hs5 x5 b5 X0
    go_wp2
    exact bodyPost_ret (v := .tuple #[.agg #[.int .i64 s7, .slice A7 n7 c7], .int .i64 E]) (by simp [results, Tryz.results13, go_sem, y2]) rfl HE.out
end Go.Proofs.YtkeajohkpmabcaaGreatDoor
/- Walk over Text of package big. Conditions stand in the theorem. -/
namespace Go.Proofs.YtkeajohkpmabcaaGreatDoor
open Go.RowKit
set_option linter.unusedVariables false
set_option linter.unusedSimpArgs false

/-- the library's table of powers of ten, for whatever comes after this world -/
def Tab (w : World) : Prop := Lib.TabBelow Tryz.prog w.heap.size w "internal/strconv.uint64pow10" .u64 Lib.pow10Tab
theorem Tab.at {w W : World} (h : Tab w) (hb : Below w.heap.size w W) : Lib.TabIs Tryz.prog W "internal/strconv.uint64pow10" .u64 Lib.pow10Tab := h W hb
theorem Tab.on {w W : World} (h : Tab w) (hb : Below w.heap.size w W) : Tab W := fun W' hb' => h W' (hb.trans (hb'.mono hb.size))
def sEnc : ByteArray → List Value := fun x => [.string x]
theorem sSized : Sized 1 sEnc := ⟨by omega, fun x => ⟨rfl, by intro u hu; simp [sEnc] at hu; subst hu; rfl⟩⟩
theorem string_info : (Tryz.prog.info? 9).map (fun i => (i.zero, i.size, i.bytes)) = some (some (.string ⟨#[]⟩), 1, 16) := by kernel_rfl
/-- the text of a big integer -/
def textB (s : Int) (l : List Int) : ByteArray := if rightB s l = true then ⟨(Lib.itoa (bval s l)).toArray⟩ else ⟨#[]⟩
theorem repeat_zero (k : Nat) : Lib.repeatL [48] k = List.replicate k 48 := by
  have := Lib.repeatL_replicate 48 1 k
  rw [Nat.mul_one] at this
  exact this
theorem below_sc {B b : Nat} {a : World} (hb : B ≤ b) : ∀ (vs : List Value) (o : Nat) (w : World), Below B a w → Below B a (w.setCells b o vs)
  | [], _, _, h => h
  | v :: r, o, w, h => below_sc hb r (o + 1) _ (h.setCell (by exact hb) v)
theorem size_sc (b : Nat) : ∀ (vs : List Value) (o : Nat) (w : World), (w.setCells b o vs).heap.size = w.heap.size
  | [], _, _ => rfl
  | v :: r, o, w => by rw [World.setCells, size_sc b r]; simp [World.setCell]
theorem strs_at (ps : List ByteArray) (j : Nat) (h : j < ps.length) : (Lib.strsOf (fun i => ps.getD i ⟨#[]⟩) ps.length)[j]? = some ps[j].data.toList := by
  unfold Lib.strsOf
  rw [List.getElem?_map, List.getElem?_range h, Option.map_some]
  show some (ps.getD j ⟨#[]⟩).data.toList = _
  rw [List.getD_eq_getElem?_getD, List.getElem?_eq_getElem h]
  rfl
/-- the parts turned around -/
theorem rev_any {w : World} {base : Nat} {v : Value} {ps : List ByteArray} (h : Own 1 sEnc w base 9 v ps) (hb : base ≤ w.heap.size) (hn : ps.length ≤ 1000000) :
    Calls Tryz.prog 91 #[v] w fun e w' => e = .returned (.tuple #[]) ∧ Below base w w' ∧ ∃ A cap, v = .slice A ps.length cap ∧ (0 < ps.length → ∃ g, A = some ⟨g, 0, none⟩ ∧ base ≤ g ∧ g < w'.heap.size ∧ ps.length ≤ cap ∧ ∀ (j : Nat) x, ps.reverse[j]? = some x → w'.cell? ⟨g, 0 + j, none⟩ = some (.string x)) := by
  rcases Nat.eq_zero_or_pos ps.length with h0 | h0
  · obtain ⟨A, cap, rfl, -⟩ := h.rd sSized (by omega)
    rw [h0]
    refine (Tryz.slices_Reverse_string_empty A cap w).mono fun e w' ⟨he, hw⟩ => ?_
    subst hw
    exact ⟨he, Below.refl _ _, A, cap, rfl, fun h => absurd h (by omega)⟩
  · obtain ⟨g, cap, rfl, hg, hgs, hc1, hc2, hf, -⟩ := h.form h0
    have hcell : ∀ i, i < ps.length → w.cell? ⟨g, 0 + i, none⟩ = some (.string (ps.getD i ⟨#[]⟩)) := by
      intro i hi
      obtain ⟨A, c, e, hr⟩ := h.rd sSized (by omega)
      injection e with e1 e2 e3
      subst e1 e3
      obtain ⟨b', off, e, hlt, hk⟩ := hr.2.2.2 h0
      injection e with e
      injection e with e1 e2
      subst e1 e2
      obtain ⟨cs, hrc, hlen, hj⟩ := hk i hi
      have := hj 0 (.string (ps.getD i ⟨#[]⟩)) (by
        have : cs = sEnc _ := hrc
        rw [this, List.getD_eq_getElem?_getD, List.getElem?_eq_getElem hi]; rfl)
      simpa using this
    refine (Tryz.slices_Reverse_string_cells g 0 ps.length cap (fun i => ps.getD i ⟨#[]⟩) w (by omega) hcell (fun j _ => by rw [Nat.zero_add]; exact hf j)).mono ?_
    rintro e w' ⟨he, q, rfl⟩
    have hl := Lib.strsOf_length (fun i => ps.getD i ⟨#[]⟩) ps.length
    refine ⟨he, below_sc hg _ _ _ (below_drewN (Below.refl _ _) q), _, cap, rfl, fun _ => ⟨g, rfl, hg, ?_, hc1, fun j x hx => ?_⟩⟩
    · rw [size_sc]; exact hgs
    · have hj : j < ps.length := by
        have := (List.getElem?_eq_some_iff.1 hx).1
        simpa using this
      have hl2 : ((Lib.strsOf (fun i => ps.getD i ⟨#[]⟩) ps.length).reverse.map encStr).length = ps.length := by rw [List.length_map, List.length_reverse, hl]
      rw [World.cell?_setCells_in g _ 0 _ (fun i hi => by
        have := hcell i (by rw [hl2] at hi; exact hi)
        show (w.cell? ⟨g, 0 + i, none⟩).isSome = true
        rw [this]; rfl) j (by rw [hl2]; exact hj)]
      rw [List.getElem?_reverse hj] at hx
      have hx3 : ((Lib.strsOf (fun i => ps.getD i ⟨#[]⟩) ps.length).reverse.map encStr)[j]? = some (.string x) := by
        rw [List.getElem?_map, List.getElem?_reverse (by rw [hl]; exact hj), hl, strs_at ps _ (by omega)]
        have hx4 := hx
        rw [List.getElem?_eq_getElem (by omega)] at hx4
        injection hx4 with hx4
        rw [hx4]
        simp [encStr, Lib.mk_data]
      rw [List.getElem?_eq_getElem (by rw [hl2]; exact hj)] at hx3
      exact hx3
theorem digs_len_mono {m n : Nat} (h : m ≤ n) : (digs m).length ≤ (digs n).length :=
  digs_len.2 (by have := (digs_len (n := n)).1 (Nat.le_refl _); omega)
/-- short, as a fresh slice -/
theorem shortD (A : Option Addr) (n cap : Nat) (u : Nat) (w : World) (ha : RdI w w.heap.size A n cap (digs u)) (hn : n ≤ 10000) :
    Calls Tryz.prog 88 #[.slice A n cap, .int .i64 100000] w fun e w' => ∃ A' n' c', e = .returned (.tuple #[.slice A' n' c', .int .i64 ((u : Int) % 100000)]) ∧ RdI w' w'.heap.size A' n' c' (digs (u / 100000)) ∧ FrA w.heap.size A' ∧ Below w.heap.size w w' :=
  (bshort_any A n cap (digs u) 100000 w ha (digs_cn u).1 hn (by omega)).mono fun e w' ⟨⟨v, he, ho⟩, hb⟩ => by
    rw [digs_val] at he ho
    have e1 : ((u : Int) / 100000).toNat = u / 100000 := by omega
    rw [e1] at ho
    have hlen : (digs (u / 100000)).length ≤ 140737488351232 := by
      have h1 := digs_len_mono (show u / 100000 ≤ u by omega)
      have := ha.len
      omega
    obtain ⟨A', c', rfl, hr⟩ := ho.rd iSized hlen
    exact ⟨A', _, c', he, hr, ho.fr rfl, hb⟩
theorem itoaD (n : Int) (h0 : 0 ≤ n) (h1 : n < 100000) (w w1 : World) (ht : Tab w) (hb : Below w.heap.size w w1) :
    Calls Tryz.prog 89 #[.int .i64 n] w1 fun e w' => ∃ P : ByteArray, e = .returned (.string P) ∧ P.data.toList = Lib.itoa n ∧ P.size = (Lib.itoa n).length ∧ Below w1.heap.size w1 w' :=
  (Tryz.strconv_Itoa n (by omega) (by omega) w1 (ht.at hb)).mono fun e w' ⟨he, k, os, hw⟩ => ⟨_, he, rfl, by rw [Lib.size_eq], by subst hw; exact Lib.below_grow _ _ (Nat.le_refl _) k os⟩
theorem repD (k : Nat) (hk : k ≤ 5) (w : World) :
    Calls Tryz.prog 90 #[.string ⟨#[48]⟩, .int .i64 (k : Int)] w fun e w' => ∃ P : ByteArray, e = .returned (.string P) ∧ P.data.toList = List.replicate k 48 ∧ P.size = k ∧ Below w.heap.size w w' :=
  (Tryz.strings_Repeat ⟨#[48]⟩ k w (by omega) (by show 1 * k ≤ _; omega)).mono fun e w' ⟨he, hb⟩ => by
    have e1 : Lib.repeatL (⟨#[48]⟩ : ByteArray).data.toList k = List.replicate k 48 := repeat_zero k
    rw [e1] at he
    exact ⟨_, he, rfl, by rw [Lib.size_eq]; simp, hb⟩
end Go.Proofs.YtkeajohkpmabcaaGreatDoor

/- Walk over Text of package big. Conditions stand in the theorem. -/
namespace Go.Proofs.YtkeajohkpmabcaaGreatDoor
open Go.RowKit
set_option linter.unusedVariables false
set_option linter.unusedSimpArgs false

theorem ba_append (a b : List UInt8) : ((⟨a.toArray⟩ : ByteArray) ++ (⟨b.toArray⟩ : ByteArray)) = ⟨(a ++ b).toArray⟩ := by
  apply ByteArray.ext
  rw [ByteArray.data_append]
  simp
theorem part_rd {w w' : World} {v : Value} {A : Option Addr} {n cap : Nat} {l : List Int} (hr : RdI w w.heap.size A n cap l) (hk : Kept (fun b => v.ownBlock = some b) w w') (hap : ∀ g, v.ownBlock = some g → 0 < n → ∀ a, A = some a → a.block ≠ g) : RdI w' w'.heap.size A n cap l :=
  hr.keptS hk (Nat.le_refl _) hk.size (fun hn b off e h => hap b h hn _ e rfl)
theorem part_ap {w : World} {v v' : Value} {A : Option Addr} {n cap : Nat} {l : List Int} (hr : RdI w w.heap.size A n cap l) (hap : ∀ g, v.ownBlock = some g → 0 < n → ∀ a, A = some a → a.block ≠ g) (hv : ∀ g, v'.ownBlock = some g → v.ownBlock = some g ∨ w.heap.size ≤ g) : ∀ g, v'.ownBlock = some g → 0 < n → ∀ a, A = some a → a.block ≠ g := by
  intro g hg hn a ha
  rcases hv g hg with h | h
  · exact hap g h hn a ha
  · obtain ⟨b', off, e, hlt, -⟩ := hr.2.2.2 hn
    rw [e] at ha
    injection ha with ha
    subst ha
    show b' ≠ g
    omega
theorem join_own {ps : List ByteArray} (A : Option Addr) (cap : Nat) (w : World) (hn : ps.length ≤ 362) (hc : 0 < ps.length → ∃ g, A = some ⟨g, 0, none⟩ ∧ g < w.heap.size ∧ ps.length ≤ cap ∧ ∀ (j : Nat) x, ps.reverse[j]? = some x → w.cell? ⟨g, 0 + j, none⟩ = some (.string x)) (hlen : (catS ps).length ≤ 140737488355328) :
    Calls Tryz.prog 92 #[.slice A ps.length cap, .string ⟨#[]⟩] w fun e w' => e = .returned (.string ⟨(catS ps).toArray⟩) ∧ Below w.heap.size w w' := by
  rcases Nat.eq_zero_or_pos ps.length with h0 | h0
  · have e : ps = [] := List.length_eq_zero_iff.1 h0
    subst e
    exact (Tryz.strings_Join_none A cap ⟨#[]⟩ w).mono fun e w' ⟨he, hw⟩ => ⟨he, by subst hw; exact Below.refl _ _⟩
  · obtain ⟨g, rfl, h1, h2, h3⟩ := hc h0
    have h := Tryz.strings_Join g 0 cap ps.reverse ⟨#[]⟩ w h3 h1 (by simp; omega) (by simpa using h2) (by
      show (Lib.join (ps.reverse.map (·.data.toList)) []).length ≤ _
      rw [join_parts]; exact hlen)
    rw [List.length_reverse] at h
    have e : (Lib.join (ps.reverse.map (·.data.toList)) ((⟨#[]⟩ : ByteArray).data.toList)) = catS ps := join_parts ps
    rw [e] at h
    exact h
set_option maxRecDepth 100000 in
set_option maxHeartbeats 2000000 in
theorem btext_any (s : Int) (A : Option Addr) (n cap : Nat) (l : List Int) (w : World) (hl : RdI w w.heap.size A n cap l) (htab : Tab w) :
    Calls Tryz.prog 31 #[.agg #[.int .i64 s, .slice A n cap]] w fun e w' => e = .returned (.string (textB s l)) ∧ Below w.heap.size w w' := by
  have K := (St.start w).oldRd hl
  have r := K.raw
  have HR := Lib.hid (fun W hl => bright_any s A n cap l W hl)
  have HT := Lib.hid htab
  clear htab
  cases h1 : rightB s l
  · rw [h1] at HR
    have e0 : textB s l = ⟨#[]⟩ := by unfold textB; rw [if_neg (by rw [h1]; simp)]
    rw [e0]
    clear e0 h1
    go_enter Tryz.func31, Tryz.ntmps31
    go_wp2_with (first | ((first | (apply K.alloc; rfl; rfl; (first | with_reducible exact big_zero | with_reducible exact frac_zero)) | (apply K.box; rfl; rfl; rfl)); clear K r; (first | ((fail_if_success revert b0); intro W b0 K) | ((fail_if_success revert b1); intro W b1 K) | ((fail_if_success revert b2); intro W b2 K) | ((fail_if_success revert b3); intro W b3 K) | ((fail_if_success revert b4); intro W b4 K) | ((fail_if_success revert b5); intro W b5 K) | ((fail_if_success revert b6); intro W b6 K) | ((fail_if_success revert b7); intro W b7 K) | ((fail_if_success revert b8); intro W b8 K) | ((fail_if_success revert b9); intro W b9 K) | ((fail_if_success revert b10); intro W b10 K) | ((fail_if_success revert b11); intro W b11 K) | ((fail_if_success revert b12); intro W b12 K) | ((fail_if_success revert b13); intro W b13 K) | ((fail_if_success revert b14); intro W b14 K) | ((fail_if_success revert b15); intro W b15 K)); have r := K.rawS) | (apply K.storeA; rfl; rfl; rfl; rfl; rfl; (repeat (first | with_reducible exact Upd.head _ | with_reducible apply Upd.tail)); (first | with_reducible exact big_size | with_reducible exact frac_size); rfl; rfl; rfl; clear K r; intro W K; have r := K.rawS))
    refine (HR.out _ (by first | exact Rd.nil | exact K.rda)).mono ?_
    rintro e W' ⟨rfl, hb⟩
    replace K := K.keep hb
    clear r
    have r := K.rawS
    clear hb
    go_wp2
    go_ret
    exact ⟨rfl, K.1⟩
  rw [h1] at HR
  obtain ⟨i0, hi0, hz0, hz1, hz2⟩ := info_parts string_info
  have hst := Std.of_right h1
  have hsg := hst.signs
  have hfit := fits_of_right h1
  have e0 : textB s l = ⟨(Lib.itoa (bval s l)).toArray⟩ := by unfold textB; rw [if_pos h1]
  rw [e0]
  have hls : l = digs (bval s l).natAbs := hst.2
  generalize bval s l = z at *
  have hV : ∃ V, V = z.natAbs := ⟨_, rfl⟩
  obtain ⟨V, hV⟩ := hV
  rw [← hV] at hls
  have hl60 : (digs V).length ≤ 60 := digs_len.2 (by have := fits_iff.1 hfit; rw [hV]; exact this)
  have hdl : (Lib.decDigits V).length ≤ 362 := by rw [hV]; exact dec_fits hfit
  have Hdl := Lib.hid hdl
  have HV := Lib.hid hV
  have Hsg := Lib.hid hsg
  have H60 := Lib.hid hl60
  clear e0 h1 hst hfit hsg hV hdl hl60
  subst hls
  go_enter Tryz.func31, Tryz.ntmps31
  go_wp2_with (first | ((first | (apply K.alloc; rfl; rfl; (first | with_reducible exact big_zero | with_reducible exact frac_zero)) | (apply K.box; rfl; rfl; rfl)); clear K r; (first | ((fail_if_success revert b0); intro W b0 K) | ((fail_if_success revert b1); intro W b1 K) | ((fail_if_success revert b2); intro W b2 K) | ((fail_if_success revert b3); intro W b3 K) | ((fail_if_success revert b4); intro W b4 K) | ((fail_if_success revert b5); intro W b5 K) | ((fail_if_success revert b6); intro W b6 K) | ((fail_if_success revert b7); intro W b7 K) | ((fail_if_success revert b8); intro W b8 K) | ((fail_if_success revert b9); intro W b9 K) | ((fail_if_success revert b10); intro W b10 K) | ((fail_if_success revert b11); intro W b11 K) | ((fail_if_success revert b12); intro W b12 K) | ((fail_if_success revert b13); intro W b13 K) | ((fail_if_success revert b14); intro W b14 K) | ((fail_if_success revert b15); intro W b15 K)); have r := K.rawS) | (apply K.storeA; rfl; rfl; rfl; rfl; rfl; (repeat (first | with_reducible exact Upd.head _ | with_reducible apply Upd.tail)); (first | with_reducible exact big_size | with_reducible exact frac_size); rfl; rfl; rfl; clear K r; intro W K; have r := K.rawS))
  refine (HR.out _ (by first | exact Rd.nil | exact K.rda)).mono ?_
  rintro e w1 ⟨rfl, hb⟩
  replace K := K.keep hb
  clear r
  have r := K.rawS
  clear hb
  have hr1 : RdI w1 w1.heap.size A n cap (digs V) := (by first | exact Rd.nil | exact K.rda)
  have Hb0 := Lib.hid (K.blk (b := b0) (cs := #[.int .i64 s, .slice A n cap]) (t := 24) (by repeat (first | with_reducible exact List.mem_cons_self | with_reducible apply List.mem_cons_of_mem)))
  have hbw := K.1
  have hbg := (K.2.1 _ List.mem_cons_self).1
  clear HR
  go_wp2_with fail
  go_loopg [3, 4] V (fun gk s3 s4 wr => ∃ (u : Nat) (v : Value) (ps : List ByteArray) (A' : Option Addr) (n' c' : Nat), u = gk ∧ u ≤ V ∧ s3 = v ∧ s4 = .slice A' n' c' ∧ Hid (TextI V u ps ∧ (V = 0 → ps = [])) ∧ Own 1 sEnc wr w1.heap.size 9 v ps ∧ RdI wr wr.heap.size A' n' c' (digs u) ∧ Hid (∀ g, v.ownBlock = some g → 0 < n' → ∀ a, A' = some a → a.block ≠ g) ∧ Below w1.heap.size w1 wr)
  case atStart => exact ⟨V, _, [], A, n, cap, rfl, Nat.le_refl _, rfl, rfl, Lib.hid ⟨TextI.start V, fun _ => rfl⟩, Own.nil, hr1, Lib.hid (fun g h => by cases h), Below.refl _ _⟩
  case round =>
    clear r K hr1
    obtain ⟨u, v, ps, A', n', c', rfl, huV, rfl, rfl, HI, ho, hr, Hap, hbel⟩ := hrel
    have hlen := hr.len
    have hcap := hr.caps
    have hm60 : (digs u).length ≤ 60 := Nat.le_trans (digs_len_mono huV) H60.out
    by_cases hu : u = 0
    · subst hu
      rw [digs_zero, List.length_nil] at hlen
      subst hlen
      have hd : decide (0 < 0) = false := by decide
      have hpl : ps.length ≤ 362 := by
        by_cases h : V = 0
        · rw [HI.out.2 h]; simp
        · exact Nat.le_trans (HI.out.1.few h) Hdl.out
      have hSl : (catS ps).length ≤ 362 := by
        by_cases h : V = 0
        · rw [HI.out.2 h]; simp [catS]
        · rw [← HI.out.1.2.1 rfl h]; exact Hdl.out
      have Hcat := Lib.hid (show V ≠ 0 → catS ps = Lib.decDigits V from fun h => (HI.out.1.2.1 rfl h).symm)
      go_wp2_with fail
      refine (rev_any ho hbel.size (by omega)).mono ?_
      rintro e w2 ⟨rfl, hb2, A9, cap9, rfl, hcells⟩
      have hb12 := hbel.trans hb2
      have HJ := Lib.hid (join_own A9 cap9 w2 hpl (fun h => by obtain ⟨g, e1, e2, e3⟩ := hcells h; exact ⟨g, e1, e3⟩) (by omega))
      generalize catS ps = S at *
      have hno : ¬ (9223372036854775807 < 1 + S.length) := by omega
      clear hcells HI ho Hap hr hcap hm60
      go_wp2_with fail
      refine HJ.out.mono ?_
      rintro e w3 ⟨rfl, hb3⟩
      have hb13 : Below w1.heap.size w1 w3 := hb12.trans (hb3.mono hb12.size)
      have c0 : w3.cell? ⟨b0, 0, none⟩ = some (.int .i64 s) := (Hb0.out.of (hb13.block _ Hb0.out.lt)).cell rfl
      have hbF : Below w.heap.size w w3 := hbw.trans (hb13.mono hbw.size)
      clear HJ hb2 hb3 hb12 hbel
      have hsg := Hsg.out
      have hVz := HV.out
      rcases hsg with ⟨-, rfl, rfl⟩ | ⟨-, rfl, hz⟩ | ⟨-, rfl, hz⟩
      · clear hVz Hsg
        go_wp2
        go_ret
        exact ⟨by rw [itoa_zero]; rfl, hbF⟩
      · have hS := Hcat.out (by omega)
        have hT : Lib.itoa z = S := by
          rw [hS, hVz, show z = ((z.natAbs : Nat) : Int) by omega, Lib.itoa_nonneg]; rfl
        have HH := Lib.hid hT
        clear hVz Hsg hS hT hz
        go_wp2
        go_ret
        exact ⟨by rw [HH.out]; rfl, hbF⟩
      · have hS := Hcat.out (by omega)
        have hT : Lib.itoa z = 45 :: S := by
          rw [hS, hVz, show z = -((z.natAbs : Nat) : Int) by omega, Lib.itoa_neg _ (by omega), Int.natAbs_neg]; rfl
        have HH := Lib.hid hT
        clear hVz Hsg hS hT hz
        go_wp2
        go_ret
        exact ⟨by rw [HH.out]; exact congrArg Ending.returned (congrArg Value.string (ba_append [45] S)), hbF⟩
    · have hn0 : 0 < n' := by
        have h1 : digs u ≠ [] := fun e => hu (digs_nil.1 e)
        have := List.length_pos_iff.2 h1
        omega
      have hd : decide (0 < n') = true := decide_eq_true hn0
      have hpl : ps.length ≤ 362 := Nat.le_trans (HI.out.1.few (by omega)) Hdl.out
      have Hst := Lib.hid (show ∀ p : ByteArray, p.data.toList = partL u → TextI V (u / 100000) (ps ++ [p]) ∧ (V = 0 → ps ++ [p] = []) from fun p hp => ⟨HI.out.1.step hu hp, fun h => by omega⟩)
      obtain ⟨hi1, hi2, hi3⟩ := itoa_part u
      have Hlt := Lib.hid (show u / 100000 < u ∧ u / 100000 ≤ V from by omega)
      have hlim : (u : Int) % 100000 < 100000 ∧ (0 : Int) ≤ (u : Int) % 100000 := by omega
      go_wp2_with fail
      refine (shortD A' n' c' u wr hr (by omega)).mono ?_
      rintro e w2 ⟨A2, n2, c2, rfl, hr2, hf2, hb2⟩
      have hap2 := Lib.hid (show ∀ g, u3.ownBlock = some g → 0 < n2 → ∀ a, A2 = some a → a.block ≠ g from by
        intro g hg _ a ha
        have h1 := (ho.lt g hg).2
        have h2 := hf2 a ha
        omega)
      have hb12 := hbel.trans (hb2.mono hbel.size)
      have ho2 := ho.below hb2
      clear Hap ho hr hb2 hbel hf2 HI
      go_wp2_with fail
      refine (itoaD ((u : Int) % 100000) hlim.2 hlim.1 w w2 HT.out (hbw.trans (hb12.mono hbw.size))).mono ?_
      rintro e w3 ⟨P, rfl, hP, hPs, hb3⟩
      have hr3 := hr2.up (flat_lasts _) hb3
      have ho3 := ho2.below hb3
      have hb13 := hb12.trans (hb3.mono hb12.size)
      have hlen2 := hr3.len
      have hcap2 := hr3.caps
      by_cases hq : u / 100000 = 0
      · have HPp := Lib.hid (Hst.out P (by unfold partL; rw [if_pos hq]; exact hP))
        rw [hq, digs_zero, List.length_nil] at hlen2
        subst hlen2
        have hd2 : decide (0 < 0) = false := by decide
        have hsz := hb13.size
        clear hP hPs hi1 hi2 hi3 Hst hr2 ho2 hb3 hb12 hlim
        go_wp2_with (at_builtin; refine wpList_app1 sSized rfl _ _ 78 rfl w1.heap.size 9 i0 _ 16 Tryz.underlying78 hi0 hz0 hz1 hz2 rfl _ ps rfl ho3 P _ rfl w3.heap.size rfl rfl (by omega) (by omega) hsz ?_
                     intro v4 w5 ho4 hk4 hv4 hbl4)
        go_roundg (u / 100000)
        case rel => exact ⟨u / 100000, _, _, A2, 0, c2, rfl, Hlt.out.2, rfl, rfl, HPp, ho4, part_rd hr3 hk4 hap2.out, Lib.hid (part_ap hr3 hap2.out hv4), hbl4 _ _ (Nat.le_refl _) hb13⟩
        case measure => exact Hlt.out.1
      · obtain ⟨k, hk⟩ : ∃ k, k = 5 - (Lib.itoa ((u : Int) % 100000)).length := ⟨_, rfl⟩
        have Hst2 := Lib.hid (show ∀ R : ByteArray, R.data.toList = List.replicate k 48 → TextI V (u / 100000) (ps ++ [R ++ P]) ∧ (V = 0 → ps ++ [R ++ P] = []) from fun R hR => Hst.out (R ++ P) (by
          unfold partL
          rw [if_neg hq, ByteArray.data_append, Array.toList_append, hP, hR, hk]))
        have hn2 : 0 < n2 := by
          have h1 : digs (u / 100000) ≠ [] := fun e => hq (digs_nil.1 e)
          have := List.length_pos_iff.2 h1
          omega
        have hd2 : decide (0 < n2) = true := decide_eq_true hn2
        obtain ⟨m, hm⟩ : ∃ m, m = P.size := ⟨_, rfl⟩
        have hmk : m ≤ 5 ∧ k + m = 5 := by omega
        have hw5 : IntKind.i64.wrap (5 - (m : Int)) = (k : Int) := by rw [IntWalk.i64_in _ (by omega)]; omega
        have hPm : P.size = m := hm.symm
        clear hP hPs hi1 hi2 hi3 Hst hr2 ho2 hb3 hb12 hlim hk hq hm
        go_wp2_with fail
        refine (repD k (by omega) w3).mono ?_
        rintro e w4 ⟨R, rfl, hR, hRk, hb4⟩
        have HPp := Lib.hid (Hst2.out R hR)
        have hr4 := hr3.up (flat_lasts _) hb4
        have ho4 := ho3.below hb4
        have hb14 := hb13.trans (hb4.mono hb13.size)
        have hsz := hb14.size
        have hno : ¬ (9223372036854775807 < k + m) := by omega
        clear hR Hst2 hr3 ho3 hb4 hb13
        go_wp2_with (at_builtin; refine wpList_app1 sSized rfl _ _ 78 rfl w1.heap.size 9 i0 _ 16 Tryz.underlying78 hi0 hz0 hz1 hz2 rfl _ ps rfl ho4 (R ++ P) _ rfl w4.heap.size rfl rfl (by omega) (by omega) hsz ?_
                     intro v5 w5 ho5 hk5 hv5 hbl5)
        go_roundg (u / 100000)
        case rel => exact ⟨u / 100000, _, _, A2, n2, c2, rfl, Hlt.out.2, rfl, rfl, HPp, ho5, part_rd hr4 hk5 hap2.out, Lib.hid (part_ap hr4 hap2.out hv5), hbl5 _ _ (Nat.le_refl _) hb14⟩
        case measure => exact Hlt.out.1
end Go.Proofs.YtkeajohkpmabcaaGreatDoor

/- Walk over Read of package big. Conditions stand in the theorem. -/
namespace Go.Proofs.YtkeajohkpmabcaaGreatDoor
open Go.RowKit
set_option linter.unusedVariables false
set_option linter.unusedSimpArgs false

theorem cutD (s : ByteArray) (w : World) : Calls Tryz.prog 81 #[.string s, .string ⟨#[45]⟩] w fun e w' => ∃ T : ByteArray, e = .returned (.tuple #[.string T, .bool (negL s.data.toList)]) ∧ T.data.toList = restL s.data.toList ∧ w = w' :=
  (Tryz.strings_CutPrefix s ⟨#[45]⟩ w).mono fun e w' ⟨he, hw⟩ => by
    obtain ⟨h1, h2⟩ := cut_neg s.data.toList
    have e1 : (⟨#[45]⟩ : ByteArray).data.toList = [45] := rfl
    rw [e1, h1, h2] at he
    exact ⟨_, he, rfl, hw.symm⟩
theorem trimD (T : ByteArray) (w : World) (hs : T.size ≤ 1000) : Calls Tryz.prog 82 #[.string T, .string ⟨#[48, 49, 50, 51, 52, 53, 54, 55, 56, 57]⟩] w fun e w' => ∃ R : ByteArray, e = .returned (.string R) ∧ R.data.toList = Lib.trimS T.data.toList ten ∧ Below w.heap.size w w' :=
  (Tryz.strings_Trim T ⟨#[48, 49, 50, 51, 52, 53, 54, 55, 56, 57]⟩ w (by omega) (by decide) (ascii_of_all (by decide))).mono fun e w' ⟨he, hb⟩ => ⟨_, he, rfl, hb⟩
theorem u8_small {d : Nat} (h : d < 256) : IntKind.u8.wrap ((d : Nat) : Int) = (d : Int) := by
  simp [IntKind.wrap, IntKind.bits, IntKind.signed]
  omega
theorem digs_ten {u : Nat} (h : (digs u).length ≤ 60) : (digs (10 * u)).length ≤ 61 := by
  have h1 := digs_len.1 h
  refine digs_len.2 ?_
  have h2 : pw 61 = 1048576 * pw 60 := rfl
  omega
theorem digs_ten_lt {d : Nat} (h : d < 10) : (digs d).length ≤ 1 := by
  refine digs_len.2 ?_
  have h2 : pw 1 = 1048576 := rfl
  omega
theorem wpList_conv {P : Program} {ops : Array Oper} {rest : List Oper} {o : Oper} {a : Act} {Q : Exit → Act → World → Prop} {w W' : World} (hgd : o.guard = none) (src dst : TypeId) (x : Operand) (ho : o.op = .convert src dst x) (v u : Value) (hx : a.eval x = u) (hrun : (convert src dst u).run P w = .ok v W') (h : wpList P ops Q rest (a.put o.dst v) W') : wpList P ops Q (o :: rest) a w := by
  refine wpList_plain hgd fun _ hK => ?_
  unfold Oper.wp execOp
  simp only [ho, hx, Sem.run_bind, Sem.run_pure, Result.andThen_ok, hrun]
  exact hK _ _ h
set_option maxRecDepth 100000 in
set_option maxHeartbeats 2000000 in
theorem bread_any (s : ByteArray) (w : World) (hs : s.size ≤ 1000) :
    Calls Tryz.prog 22 #[.string s] w (BigE w (readZ s.data.toList) (readE s.data.toList)) := by
  have K := St.start w
  have r := K.raw
  have HC := Lib.hid (fun W => cutD s W)
  by_cases h48 : s.data.toList = [48]
  · have hs48 : (s.toList == [48]) = true := by rw [Lib.toList_data, h48]; rfl
    rw [h48, zero_read.1, zero_read.2]
    clear h48
    go_enter Tryz.func22, Tryz.ntmps22
    go_wp2_with (first | ((first | (apply K.alloc; rfl; rfl; (first | with_reducible exact big_zero | with_reducible exact frac_zero)) | (apply K.box; rfl; rfl; rfl)); clear K r; (first | ((fail_if_success revert b0); intro W b0 K) | ((fail_if_success revert b1); intro W b1 K) | ((fail_if_success revert b2); intro W b2 K) | ((fail_if_success revert b3); intro W b3 K) | ((fail_if_success revert b4); intro W b4 K) | ((fail_if_success revert b5); intro W b5 K) | ((fail_if_success revert b6); intro W b6 K) | ((fail_if_success revert b7); intro W b7 K) | ((fail_if_success revert b8); intro W b8 K) | ((fail_if_success revert b9); intro W b9 K) | ((fail_if_success revert b10); intro W b10 K) | ((fail_if_success revert b11); intro W b11 K) | ((fail_if_success revert b12); intro W b12 K) | ((fail_if_success revert b13); intro W b13 K) | ((fail_if_success revert b14); intro W b14 K) | ((fail_if_success revert b15); intro W b15 K)); have r := K.rawS) | (apply K.storeA; rfl; rfl; rfl; rfl; rfl; (repeat (first | with_reducible exact Upd.head _ | with_reducible apply Upd.tail)); (first | with_reducible exact big_size | with_reducible exact frac_size); rfl; rfl; rfl; clear K r; intro W K; have r := K.rawS))
    refine (HC.out _).mono ?_
    rintro e w1 ⟨T, rfl, hT, rfl⟩
    go_wp2_with (first | ((first | (apply K.alloc; rfl; rfl; (first | with_reducible exact big_zero | with_reducible exact frac_zero)) | (apply K.box; rfl; rfl; rfl)); clear K r; (first | ((fail_if_success revert b0); intro W b0 K) | ((fail_if_success revert b1); intro W b1 K) | ((fail_if_success revert b2); intro W b2 K) | ((fail_if_success revert b3); intro W b3 K) | ((fail_if_success revert b4); intro W b4 K) | ((fail_if_success revert b5); intro W b5 K) | ((fail_if_success revert b6); intro W b6 K) | ((fail_if_success revert b7); intro W b7 K) | ((fail_if_success revert b8); intro W b8 K) | ((fail_if_success revert b9); intro W b9 K) | ((fail_if_success revert b10); intro W b10 K) | ((fail_if_success revert b11); intro W b11 K) | ((fail_if_success revert b12); intro W b12 K) | ((fail_if_success revert b13); intro W b13 K) | ((fail_if_success revert b14); intro W b14 K) | ((fail_if_success revert b15); intro W b15 K)); have r := K.rawS) | (apply K.storeA; rfl; rfl; rfl; rfl; rfl; (repeat (first | with_reducible exact Upd.head _ | with_reducible apply Upd.tail)); (first | with_reducible exact big_size | with_reducible exact frac_size); rfl; rfl; rfl; clear K r; intro W K; have r := K.rawS))
    exact bodyPost_ret (v := .tuple #[.agg #[.int .i64 0, .slice none 0 0], .int .i64 0]) (by simp [results, Tryz.results22, go_sem, r]) rfl ⟨0, none, 0, 0, [], rfl, Rd.nil, Std.zero, FrA.none, K.1⟩
  have hs48 : (s.toList == [48]) = false := by rw [Lib.toList_data]; exact beq_eq_false_iff_ne.2 h48
  have hfg := form_good h48
  have hsl : s.data.toList.length ≤ 1000 := by rw [← Lib.size_eq]; exact hs
  cases hf : formL s.data.toList
  · obtain ⟨e1, e2⟩ := bad_read hf
    rw [e1, e2]
    clear e1 e2
    rw [hf] at hfg
    replace hfg := Lib.hid hfg.symm
    clear h48 hf
    go_enter Tryz.func22, Tryz.ntmps22
    go_wp2_with (first | ((first | (apply K.alloc; rfl; rfl; (first | with_reducible exact big_zero | with_reducible exact frac_zero)) | (apply K.box; rfl; rfl; rfl)); clear K r; (first | ((fail_if_success revert b0); intro W b0 K) | ((fail_if_success revert b1); intro W b1 K) | ((fail_if_success revert b2); intro W b2 K) | ((fail_if_success revert b3); intro W b3 K) | ((fail_if_success revert b4); intro W b4 K) | ((fail_if_success revert b5); intro W b5 K) | ((fail_if_success revert b6); intro W b6 K) | ((fail_if_success revert b7); intro W b7 K) | ((fail_if_success revert b8); intro W b8 K) | ((fail_if_success revert b9); intro W b9 K) | ((fail_if_success revert b10); intro W b10 K) | ((fail_if_success revert b11); intro W b11 K) | ((fail_if_success revert b12); intro W b12 K) | ((fail_if_success revert b13); intro W b13 K) | ((fail_if_success revert b14); intro W b14 K) | ((fail_if_success revert b15); intro W b15 K)); have r := K.rawS) | (apply K.storeA; rfl; rfl; rfl; rfl; rfl; (repeat (first | with_reducible exact Upd.head _ | with_reducible apply Upd.tail)); (first | with_reducible exact big_size | with_reducible exact frac_size); rfl; rfl; rfl; clear K r; intro W K; have r := K.rawS))
    refine (HC.out _).mono ?_
    rintro e w1 ⟨T, rfl, hT, rfl⟩
    generalize s.data.toList = l at *
    have hTs : T.size ≤ 1000 := by
      rw [Lib.size_eq, hT]
      refine Nat.le_trans ?_ hsl
      unfold restL
      cases l with
      | nil => exact Nat.le_refl _
      | cons b l => dsimp only; split <;> simp
    have hg := hfg.out
    rw [← hT] at hg
    cases hd : T.data.toList with
    | nil =>
      have h1 : T.toList = [] := by rw [Lib.toList_data, hd]
      clear hd hg hfg hT
      go_wp2_with (first | ((first | (apply K.alloc; rfl; rfl; (first | with_reducible exact big_zero | with_reducible exact frac_zero)) | (apply K.box; rfl; rfl; rfl)); clear K r; (first | ((fail_if_success revert b0); intro W b0 K) | ((fail_if_success revert b1); intro W b1 K) | ((fail_if_success revert b2); intro W b2 K) | ((fail_if_success revert b3); intro W b3 K) | ((fail_if_success revert b4); intro W b4 K) | ((fail_if_success revert b5); intro W b5 K) | ((fail_if_success revert b6); intro W b6 K) | ((fail_if_success revert b7); intro W b7 K) | ((fail_if_success revert b8); intro W b8 K) | ((fail_if_success revert b9); intro W b9 K) | ((fail_if_success revert b10); intro W b10 K) | ((fail_if_success revert b11); intro W b11 K) | ((fail_if_success revert b12); intro W b12 K) | ((fail_if_success revert b13); intro W b13 K) | ((fail_if_success revert b14); intro W b14 K) | ((fail_if_success revert b15); intro W b15 K)); have r := K.rawS) | (apply K.storeA; rfl; rfl; rfl; rfl; rfl; (repeat (first | with_reducible exact Upd.head _ | with_reducible apply Upd.tail)); (first | with_reducible exact big_size | with_reducible exact frac_size); rfl; rfl; rfl; clear K r; intro W K; have r := K.rawS))
      exact bodyPost_ret (v := .tuple #[.agg #[.int .i64 0, .slice none 0 0], .int .i64 2]) (by simp [results, Tryz.results22, go_sem, r]) rfl ⟨0, none, 0, 0, [], rfl, Rd.nil, Std.zero, FrA.none, K.1⟩
    | cons b t =>
      have h1 : ¬ T.toList = [] := by rw [Lib.toList_data, hd]; simp
      have h2 : 0 < T.size := by rw [Lib.size_eq, hd]; simp
      have h3 : T[0]'h2 = b := by
        have := List.getElem_of_eq hd (i := 0) (by rw [← Lib.size_eq]; exact h2)
        simp only [Array.getElem_toList, List.getElem_cons_zero] at this
        exact this
      have h3' : ((T[0]'h2).toNat : Int) = (b.toNat : Int) := by rw [h3]
      by_cases hb : b = 48
      · have h4 : ((T[0]'h2).toNat : Int) = 48 := by rw [h3', hb]; rfl
        clear h3 h3' hd hg hfg hT
        go_wp2_with (first | ((first | (apply K.alloc; rfl; rfl; (first | with_reducible exact big_zero | with_reducible exact frac_zero)) | (apply K.box; rfl; rfl; rfl)); clear K r; (first | ((fail_if_success revert b0); intro W b0 K) | ((fail_if_success revert b1); intro W b1 K) | ((fail_if_success revert b2); intro W b2 K) | ((fail_if_success revert b3); intro W b3 K) | ((fail_if_success revert b4); intro W b4 K) | ((fail_if_success revert b5); intro W b5 K) | ((fail_if_success revert b6); intro W b6 K) | ((fail_if_success revert b7); intro W b7 K) | ((fail_if_success revert b8); intro W b8 K) | ((fail_if_success revert b9); intro W b9 K) | ((fail_if_success revert b10); intro W b10 K) | ((fail_if_success revert b11); intro W b11 K) | ((fail_if_success revert b12); intro W b12 K) | ((fail_if_success revert b13); intro W b13 K) | ((fail_if_success revert b14); intro W b14 K) | ((fail_if_success revert b15); intro W b15 K)); have r := K.rawS) | (apply K.storeA; rfl; rfl; rfl; rfl; rfl; (repeat (first | with_reducible exact Upd.head _ | with_reducible apply Upd.tail)); (first | with_reducible exact big_size | with_reducible exact frac_size); rfl; rfl; rfl; clear K r; intro W K; have r := K.rawS))
        exact bodyPost_ret (v := .tuple #[.agg #[.int .i64 0, .slice none 0 0], .int .i64 2]) (by simp [results, Tryz.results22, go_sem, r]) rfl ⟨0, none, 0, 0, [], rfl, Rd.nil, Std.zero, FrA.none, K.1⟩
      · have h4 : ¬ ((T[0]'h2).toNat : Int) = 48 := by
          rw [h3']
          intro e
          apply hb
          have : b.toNat = (48 : UInt8).toNat := by have : (48 : UInt8).toNat = 48 := rfl; omega
          exact UInt8.toNat_inj.1 this
        have h5 : (((T[0]'h2).toNat : Int) == 48) = false := beq_eq_false_iff_ne.2 h4
        have h6 : T.toList.isEmpty = false := by cases h : T.toList with
          | nil => exact absurd h h1
          | cons x y => rfl
        have hna : ¬ T.data.toList.all isD = true := fun h => by
          rw [hd] at hg h
          have := (goodT_cons (b := b) (l := t)).2 ⟨hb, h⟩
          rw [hg] at this
          cases this
        have HTr := Lib.hid (fun W => trimD T W hTs)
        have Hna := Lib.hid (fun R : ByteArray => (show R.data.toList = Lib.trimS T.data.toList ten → ¬ R.toList = [] from fun h e => hna ((trim_ten _).1 (by rw [← h, ← Lib.toList_data]; exact e))))
        clear h3 h3' hd hg hfg hT hna
        go_wp2_with fail
        refine (HTr.out _).mono ?_
        rintro e w2 ⟨R, rfl, hR, hb⟩
        have hR0 := Hna.out R hR
        have hR1 : R.toList.isEmpty = false := by cases h : R.toList with
          | nil => exact absurd h hR0
          | cons x y => rfl
        clear hR Hna HTr
        replace K := K.keep hb
        clear r
        have r := K.rawS
        clear hb
        go_wp2_with (first | ((first | (apply K.alloc; rfl; rfl; (first | with_reducible exact big_zero | with_reducible exact frac_zero)) | (apply K.box; rfl; rfl; rfl)); clear K r; (first | ((fail_if_success revert b0); intro W b0 K) | ((fail_if_success revert b1); intro W b1 K) | ((fail_if_success revert b2); intro W b2 K) | ((fail_if_success revert b3); intro W b3 K) | ((fail_if_success revert b4); intro W b4 K) | ((fail_if_success revert b5); intro W b5 K) | ((fail_if_success revert b6); intro W b6 K) | ((fail_if_success revert b7); intro W b7 K) | ((fail_if_success revert b8); intro W b8 K) | ((fail_if_success revert b9); intro W b9 K) | ((fail_if_success revert b10); intro W b10 K) | ((fail_if_success revert b11); intro W b11 K) | ((fail_if_success revert b12); intro W b12 K) | ((fail_if_success revert b13); intro W b13 K) | ((fail_if_success revert b14); intro W b14 K) | ((fail_if_success revert b15); intro W b15 K)); have r := K.rawS) | (apply K.storeA; rfl; rfl; rfl; rfl; rfl; (repeat (first | with_reducible exact Upd.head _ | with_reducible apply Upd.tail)); (first | with_reducible exact big_size | with_reducible exact frac_size); rfl; rfl; rfl; clear K r; intro W K; have r := K.rawS))
        exact bodyPost_ret (v := .tuple #[.agg #[.int .i64 0, .slice none 0 0], .int .i64 2]) (by simp [results, Tryz.results22, go_sem, r]) rfl ⟨0, none, 0, 0, [], rfl, Rd.nil, Std.zero, FrA.none, K.1⟩
  · obtain ⟨G1, G2⟩ := good_read hf
    rw [hf] at hfg
    have HG1 := Lib.hid G1
    have HG2 := Lib.hid G2
    replace hfg := hfg.symm
    generalize readZ s.data.toList = Z at *
    generalize readE s.data.toList = E at *
    clear h48 hf G1 G2
    go_enter Tryz.func22, Tryz.ntmps22
    go_wp2_with (first | ((first | (apply K.alloc; rfl; rfl; (first | with_reducible exact big_zero | with_reducible exact frac_zero)) | (apply K.box; rfl; rfl; rfl)); clear K r; (first | ((fail_if_success revert b0); intro W b0 K) | ((fail_if_success revert b1); intro W b1 K) | ((fail_if_success revert b2); intro W b2 K) | ((fail_if_success revert b3); intro W b3 K) | ((fail_if_success revert b4); intro W b4 K) | ((fail_if_success revert b5); intro W b5 K) | ((fail_if_success revert b6); intro W b6 K) | ((fail_if_success revert b7); intro W b7 K) | ((fail_if_success revert b8); intro W b8 K) | ((fail_if_success revert b9); intro W b9 K) | ((fail_if_success revert b10); intro W b10 K) | ((fail_if_success revert b11); intro W b11 K) | ((fail_if_success revert b12); intro W b12 K) | ((fail_if_success revert b13); intro W b13 K) | ((fail_if_success revert b14); intro W b14 K) | ((fail_if_success revert b15); intro W b15 K)); have r := K.rawS) | (apply K.storeA; rfl; rfl; rfl; rfl; rfl; (repeat (first | with_reducible exact Upd.head _ | with_reducible apply Upd.tail)); (first | with_reducible exact big_size | with_reducible exact frac_size); rfl; rfl; rfl; clear K r; intro W K; have r := K.rawS))
    refine (HC.out _).mono ?_
    rintro e w1 ⟨T, rfl, hT, rfl⟩
    generalize s.data.toList = l at *
    have hTs : T.size ≤ 1000 := by
      rw [Lib.size_eq, hT]
      refine Nat.le_trans ?_ hsl
      unfold restL
      cases l with
      | nil => exact Nat.le_refl _
      | cons b l => dsimp only; split <;> simp
    rw [← hT] at hfg
    rw [← hT] at HG1 HG2
    have hall : T.data.toList.all isD = true := by
      cases hd : T.data.toList with
      | nil => rfl
      | cons b t => rw [hd] at hfg; exact (goodT_cons.1 hfg).2
    have h1 : ¬ T.toList = [] := by
      rw [Lib.toList_data]; intro h; rw [h] at hfg; cases hfg
    have h6 : T.toList.isEmpty = false := by cases h : T.toList with
      | nil => exact absurd h h1
      | cons x y => rfl
    have h2 : 0 < T.size := by
      rw [Lib.size_eq]; rw [Lib.toList_data] at h1; exact List.length_pos_iff.2 h1
    have h4 : ¬ ((T[0]'h2).toNat : Int) = 48 := by
      cases hd : T.data.toList with
      | nil => rw [Lib.toList_data, hd] at h1; exact absurd rfl h1
      | cons b t =>
        have h3 : T[0]'h2 = b := by
          have := List.getElem_of_eq hd (i := 0) (by rw [← Lib.size_eq]; exact h2)
          simp only [Array.getElem_toList, List.getElem_cons_zero] at this
          exact this
        rw [hd] at hfg
        intro e
        apply (goodT_cons.1 hfg).1
        rw [h3] at e
        have : b.toNat = (48 : UInt8).toNat := by have : (48 : UInt8).toNat = 48 := rfl; omega
        exact UInt8.toNat_inj.1 this
    have h5 : (((T[0]'h2).toNat : Int) == 48) = false := beq_eq_false_iff_ne.2 h4
    have HTr := Lib.hid (fun W => trimD T W hTs)
    have Hna := Lib.hid (fun R : ByteArray => (show R.data.toList = Lib.trimS T.data.toList ten → R = ⟨#[]⟩ from fun h => ByteArray.ext (Array.toList_inj.1 (h.trans ((trim_ten _).2 hall)))))
    have Hall := Lib.hid (show ∀ k c, T.data.toList[k]? = some c → isD c = true from fun k c h => List.all_eq_true.1 hall c (List.mem_of_getElem? h))
    clear hall hT hfg
    go_wp2_with fail
    refine (HTr.out _).mono ?_
    rintro e w2 ⟨R, rfl, hR, hb⟩
    have hR0 := Hna.out R hR
    subst hR0
    clear hR Hna HTr
    replace K := K.keep hb
    clear r
    have r := K.rawS
    clear hb
    have hcv := Lib.run_convert_string_bytes (P := Tryz.prog) w2 9 75 5 T (u := .string) Tryz.underlying9 Tryz.underlying75 Tryz.underlying5
    have hby := Lib.hid (fun j hj => Lib.bytesWorld_cell w2 5 T j hj)
    have hbb := Lib.bytesWorld_below w2 5 T
    have hbs := Lib.bytesWorld_size w2 5 T
    generalize Lib.bytesWorld w2 5 T = w3 at *
    generalize grownCap w2 T.size 0 5 = cp at *
    replace K := K.keep hbb
    clear r
    have r := K.rawS
    obtain ⟨g, hg⟩ : ∃ g, g = w2.heap.size := ⟨_, rfl⟩
    rw [← hg] at hby hcv hbs
    have hg3 : g < w3.heap.size := by omega
    clear hbb hbs hg
    have Hcv := Lib.hid hcv
    clear hcv
    go_wp2_with (apply wpList_conv; rfl; rfl; rfl; exact Hcv.out)
    have HL := Lib.hid (Lib.size_eq T)
    clear Hcv h1 h4 h5 h6 hs48 hsl
    go_loopg [6, 33] T.size (fun gk s6 s33 wr => ∃ (k : Nat) (A' : Option Addr) (n' c' : Nat), k ≤ T.size ∧ gk = T.size - k ∧ s6 = .slice A' n' c' ∧ s33 = .int .i64 k ∧ RdI wr wr.heap.size A' n' c' (digs (numF (T.data.toList.take k))) ∧ n' ≤ 60 ∧ Hid (FrA w3.heap.size A') ∧ Below w3.heap.size w3 wr)
    case atStart => exact ⟨0, none, 0, 0, Nat.zero_le _, rfl, rfl, rfl, by rw [List.take_zero]; exact (show RdI _ _ none 0 0 (digs 0) from by rw [digs_zero]; exact Rd.nil), by omega, Lib.hid FrA.none, Below.refl _ _⟩
    case round =>
      clear r
      obtain ⟨k, A', n', c', hk, rfl, rfl, rfl, hr, hn60, HF, hbel⟩ := hrel
      have hlen := hr.len
      have hcap := hr.caps
      by_cases hlt : k < T.size
      · obtain ⟨c, hc⟩ : ∃ c, T.data.toList[k]? = some c := ⟨_, List.getElem?_eq_getElem (by rw [← Lib.size_eq]; exact hlt)⟩
        have hD := Hall.out k c hc
        have hcell := (hbel.cell (p := ⟨g, k, none⟩) hg3).trans (hby.out k hlt)
        have hst := num_step hc
        rw [show T.data.toList.getD k 0 = c from by rw [List.getD_eq_getElem?_getD, hc]; rfl] at hcell
        obtain ⟨cn, hcn⟩ : ∃ cn, cn = c.toNat := ⟨_, rfl⟩
        rw [← hcn] at hcell hst
        have hcr : 48 ≤ cn ∧ cn ≤ 57 := by
          unfold isD at hD
          simp only [Bool.and_eq_true, decide_eq_true_eq] at hD
          omega
        obtain ⟨d, hd⟩ : ∃ d, d = cn - 48 := ⟨_, rfl⟩
        rw [← hd] at hst
        generalize numF (T.data.toList.take k) = u at *
        have Hst := Lib.hid hst
        have hw8 : IntKind.u8.wrap ((cn : Int) - 48) = (d : Int) := by
          rw [show (cn : Int) - 48 = ((d : Nat) : Int) by omega]
          exact u8_small (by omega)
        have hw64 : IntKind.i64.wrap (d : Int) = (d : Int) := IntWalk.i64_in _ (by omega)
        have hki : (k : Int) < (T.size : Int) := by omega
        have hk0 : (0 : Int) ≤ (k : Int) := by omega
        have hulen : (digs u).length ≤ 60 := by omega
        have h10 := digs_ten hulen
        have HM := Lib.hid (fun (W : World) (H : Nat) (hH : wr.heap.size = H) (hW : W = wr.alloc (.cells #[.int .i64 10] 3)) => (mulD A' (some ⟨H, 0, none⟩) n' c' 1 1 (digs u) [10] W (by rw [hW]; exact hr.up (flat_lasts _) ((Below.refl _ _).alloc (Nat.le_refl _) _)) (by rw [hW]; exact Rd.litG iSized (w := wr) 3 [10] #[.int .i64 10] 1 H hH rfl rfl (by omega)) (digs_cn u).1 (DgOk.cons.2 ⟨by omega, DgOk.nil⟩) (by omega) (by omega)).mono fun e W' hd => (show DigR W (digs (10 * u)) e W' from by
          rw [digs_val] at hd
          have e1 : ((u : Int) * val [10]).toNat = 10 * u := by simp [val]; omega
          rw [e1] at hd; exact hd))
        have HTr := Lib.hid (fun (w4 W : World) (H : Nat) (hH : w4.heap.size = H) (hW : W = w4.alloc (.cells #[.int .i64 (d : Int)] 3)) => (trim_any (some ⟨H, 0, none⟩) 1 1 [(d : Int)] W (by rw [hW]; exact Rd.litG iSized (w := w4) 3 [(d : Int)] #[.int .i64 (d : Int)] 1 H hH rfl rfl (by omega))))
        have HAd := Lib.hid (fun (A4 A5 : Option Addr) (n4 c4 n5 c5 : Nat) (W : World) (h1 : RdI W W.heap.size A4 n4 c4 (digs (10 * u))) (h2 : RdI W W.heap.size A5 n5 c5 (digs d)) => (addD A4 A5 n4 c4 n5 c5 (digs (10 * u)) (digs d) W h1 h2 (digs_cn _).1 (digs_cn _).1 (by have := h1.len; omega) (by have := h2.len; have := digs_ten_lt (show d < 10 by omega); omega)).mono fun e W' hd => (show DigR W (digs (numF (T.data.toList.take (k + 1)))) e W' from by
          rw [digs_val, digs_val] at hd
          rw [Hst.out]
          have e1 : (((10 * u : Nat) : Int) + (d : Int)).toNat = 10 * u + d := by omega
          rw [e1] at hd; exact hd))
        have Hd1 := Lib.hid (digs_one (d := d) (by omega))
        clear hst hc hD hcn hcr hd Hst
        go_wp2_with fail
        refine (HM.out _ _ rfl rfl).mono ?_
        rintro e w4 ⟨A4, n4, c4, rfl, hr4, hf4, hb4⟩
        have hba := hbel.alloc hbel.size (.cells #[.int .i64 10] 3)
        have hb34 := hba.trans (hb4.mono hba.size)
        clear HM hb4 hf4 hr
        go_wp2_with fail
        refine (HTr.out _ _ _ rfl rfl).mono ?_
        rintro e _ ⟨⟨j, hj, rfl, htl⟩, rfl⟩
        have hbb := hb34.alloc hb34.size (.cells #[.int .i64 (d : Int)] 3)
        have hrt : RdI (w4.alloc (.cells #[.int .i64 (d : Int)] 3)) (w4.alloc (.cells #[.int .i64 (d : Int)] 3)).heap.size (some ⟨w4.heap.size, 0, none⟩) j 1 (digs d) := by
          rw [← Hd1.out, htl]
          exact (Rd.litG iSized (w := w4) 3 [(d : Int)] #[.int .i64 (d : Int)] 1 _ rfl rfl rfl (by omega)).take hj
        have hr4' := hr4.up (w' := w4.alloc (.cells #[.int .i64 (d : Int)] 3)) (flat_lasts _) ((Below.refl _ _).alloc (Nat.le_refl _) _)
        clear HTr htl hr4
        go_wp2_with fail
        refine (HAd.out _ _ _ _ _ _ _ hr4' hrt).mono ?_
        rintro e w6 ⟨A6, n6, c6, rfl, hr6, hf6, hb6⟩
        have hF6 := Lib.hid (hf6.mono hbb.size)
        have hb36 := hbb.trans (hb6.mono hbb.size)
        have hn6 := hr6.len
        clear HAd hf6 hb6 hr4' hrt hba hbb hb34 hbel hcell
        by_cases h60 : n6 ≤ 60
        · have hd6 : decide ((60 : Int) < (n6 : Int)) = false := decide_eq_false (by omega)
          clear hn6
          go_wp2
          go_roundg (T.size - (k + 1))
          case rel => exact ⟨k + 1, A6, n6, c6, hlt, rfl, rfl, by go_num, hr6, h60, hF6, hb36⟩
          case measure => omega
        · have hd6 : decide ((60 : Int) < (n6 : Int)) = true := decide_eq_true (by omega)
          obtain ⟨rfl, rfl⟩ := HG2.out ⟨k + 1, by omega⟩
          replace K := K.keep hb36
          have r := K.raw
          simp only [Raw, RawC, and_true, true_and, Nat.zero_add, Nat.reduceAdd, List.toList_toArray] at r
          clear hn6
          go_wp2_with (first | ((first | (apply K.alloc; rfl; rfl; (first | with_reducible exact big_zero | with_reducible exact frac_zero)) | (apply K.box; rfl; rfl; rfl)); clear K r; (first | ((fail_if_success revert b0); intro W b0 K) | ((fail_if_success revert b1); intro W b1 K) | ((fail_if_success revert b2); intro W b2 K) | ((fail_if_success revert b3); intro W b3 K) | ((fail_if_success revert b4); intro W b4 K) | ((fail_if_success revert b5); intro W b5 K) | ((fail_if_success revert b6); intro W b6 K) | ((fail_if_success revert b7); intro W b7 K) | ((fail_if_success revert b8); intro W b8 K) | ((fail_if_success revert b9); intro W b9 K) | ((fail_if_success revert b10); intro W b10 K) | ((fail_if_success revert b11); intro W b11 K) | ((fail_if_success revert b12); intro W b12 K) | ((fail_if_success revert b13); intro W b13 K) | ((fail_if_success revert b14); intro W b14 K) | ((fail_if_success revert b15); intro W b15 K)); have r := K.rawS) | (apply K.storeA; rfl; rfl; rfl; rfl; rfl; (repeat (first | with_reducible exact Upd.head _ | with_reducible apply Upd.tail)); (first | with_reducible exact big_size | with_reducible exact frac_size); rfl; rfl; rfl; clear K r; intro W K; have r := K.rawS))
          exact bodyPost_ret (v := .tuple #[.agg #[.int .i64 0, .slice none 0 0], .int .i64 6]) (by simp [results, Tryz.results22, go_sem, r]) rfl ⟨0, none, 0, 0, [], rfl, Rd.nil, Std.zero, FrA.none, K.1⟩
      · have ee : k = T.size := by omega
        subst ee
        have hd0 : decide (T.size < T.size) = false := by simp
        have hfull : T.data.toList.take T.size = T.data.toList := List.take_of_length_le (by rw [← Lib.size_eq]; exact Nat.le_refl _)
        rw [hfull] at hr hlen
        have hfit : ∀ s0 : Int, s0 = 1 ∨ s0 = -1 → fits (s0 * (numF T.data.toList : Int)) = true := by
          intro s0 hs0
          have := digs_len.1 (show (digs (numF T.data.toList)).length ≤ 60 by omega)
          refine fits_iff.2 ?_
          rcases hs0 with rfl | rfl <;> simp <;> exact this
        generalize numF T.data.toList = u at *
        clear hfull Hall hby
        cases hneg : negL l
        · obtain ⟨rfl, rfl⟩ := HG1.out 1 (by rw [hneg]; rfl) (hfit 1 (Or.inl rfl))
          have HS := Lib.hid (fun W hl => signedD 1 A' n' c' (digs u) (1 * (u : Int)) W hl (digs_cn u) (Or.inl rfl) (by rw [digs_val]))
          clear HG1 HG2 hfit
          go_wp2_with fail
          refine (HS.out _ hr).mono ?_
          rintro e w7 ⟨s7, A7, n7, c7, l7, rfl, hr7, hs7, hf7, hb7⟩
          have hF7 := hf7 _ HF.out
          have hG7 := Lib.hid (hF7.mono K.1.size)
          replace K := K.ret (hbel.trans (hb7.mono hbel.size)) hr7 hF7
          have r := K.rawS
          clear hr7 hF7 hf7 hb7 hbel HF HS hr
          go_wp2_with (first | ((first | (apply K.alloc; rfl; rfl; (first | with_reducible exact big_zero | with_reducible exact frac_zero)) | (apply K.box; rfl; rfl; rfl)); clear K r; (first | ((fail_if_success revert b0); intro W b0 K) | ((fail_if_success revert b1); intro W b1 K) | ((fail_if_success revert b2); intro W b2 K) | ((fail_if_success revert b3); intro W b3 K) | ((fail_if_success revert b4); intro W b4 K) | ((fail_if_success revert b5); intro W b5 K) | ((fail_if_success revert b6); intro W b6 K) | ((fail_if_success revert b7); intro W b7 K) | ((fail_if_success revert b8); intro W b8 K) | ((fail_if_success revert b9); intro W b9 K) | ((fail_if_success revert b10); intro W b10 K) | ((fail_if_success revert b11); intro W b11 K) | ((fail_if_success revert b12); intro W b12 K) | ((fail_if_success revert b13); intro W b13 K) | ((fail_if_success revert b14); intro W b14 K) | ((fail_if_success revert b15); intro W b15 K)); have r := K.rawS) | (apply K.storeA; rfl; rfl; rfl; rfl; rfl; (repeat (first | with_reducible exact Upd.head _ | with_reducible apply Upd.tail)); (first | with_reducible exact big_size | with_reducible exact frac_size); rfl; rfl; rfl; clear K r; intro W K; have r := K.rawS))
          have HE := Lib.hid (⟨s7, A7, n7, c7, l7, rfl, (by first | exact Rd.nil | exact K.rda), hs7, hG7.out, K.1⟩ : BigE w _ 0 (.returned (.tuple #[.agg #[.int .i64 s7, .slice A7 n7 c7], .int .i64 0])) W)
          clear hs7
          exact bodyPost_ret (v := .tuple #[.agg #[.int .i64 s7, .slice A7 n7 c7], .int .i64 0]) (by simp [results, Tryz.results22, go_sem, r]) rfl HE.out
        · obtain ⟨rfl, rfl⟩ := HG1.out (-1) (by rw [hneg]; rfl) (hfit (-1) (Or.inr rfl))
          have HS := Lib.hid (fun W hl => signedD (-1) A' n' c' (digs u) (-1 * (u : Int)) W hl (digs_cn u) (Or.inr (Or.inl rfl)) (by rw [digs_val]))
          clear HG1 HG2 hfit
          go_wp2_with fail
          refine (HS.out _ hr).mono ?_
          rintro e w7 ⟨s7, A7, n7, c7, l7, rfl, hr7, hs7, hf7, hb7⟩
          have hF7 := hf7 _ HF.out
          have hG7 := Lib.hid (hF7.mono K.1.size)
          replace K := K.ret (hbel.trans (hb7.mono hbel.size)) hr7 hF7
          have r := K.rawS
          clear hr7 hF7 hf7 hb7 hbel HF HS hr
          go_wp2_with (first | ((first | (apply K.alloc; rfl; rfl; (first | with_reducible exact big_zero | with_reducible exact frac_zero)) | (apply K.box; rfl; rfl; rfl)); clear K r; (first | ((fail_if_success revert b0); intro W b0 K) | ((fail_if_success revert b1); intro W b1 K) | ((fail_if_success revert b2); intro W b2 K) | ((fail_if_success revert b3); intro W b3 K) | ((fail_if_success revert b4); intro W b4 K) | ((fail_if_success revert b5); intro W b5 K) | ((fail_if_success revert b6); intro W b6 K) | ((fail_if_success revert b7); intro W b7 K) | ((fail_if_success revert b8); intro W b8 K) | ((fail_if_success revert b9); intro W b9 K) | ((fail_if_success revert b10); intro W b10 K) | ((fail_if_success revert b11); intro W b11 K) | ((fail_if_success revert b12); intro W b12 K) | ((fail_if_success revert b13); intro W b13 K) | ((fail_if_success revert b14); intro W b14 K) | ((fail_if_success revert b15); intro W b15 K)); have r := K.rawS) | (apply K.storeA; rfl; rfl; rfl; rfl; rfl; (repeat (first | with_reducible exact Upd.head _ | with_reducible apply Upd.tail)); (first | with_reducible exact big_size | with_reducible exact frac_size); rfl; rfl; rfl; clear K r; intro W K; have r := K.rawS))
          have HE := Lib.hid (⟨s7, A7, n7, c7, l7, rfl, (by first | exact Rd.nil | exact K.rda), hs7, hG7.out, K.1⟩ : BigE w _ 0 (.returned (.tuple #[.agg #[.int .i64 s7, .slice A7 n7 c7], .int .i64 0])) W)
          clear hs7
          exact bodyPost_ret (v := .tuple #[.agg #[.int .i64 s7, .slice A7 n7 c7], .int .i64 0]) (by simp [results, Tryz.results22, go_sem, r]) rfl HE.out
end Go.Proofs.YtkeajohkpmabcaaGreatDoor
/- Contracts of package big at numbers, and a literal of ints as a step. Conditions stand in each theorem. -/
namespace Go.Proofs.YtkeajohkpmabcaaGreatDoor
open Go.RowKit
set_option linter.unusedVariables false
set_option linter.unusedSimpArgs false

theorem resT {z : Int} (h : fits z = true) : resZ true z = z := by unfold resZ; rw [if_pos ⟨rfl, h⟩]
theorem errT {z : Int} (h : fits z = true) : errZ true z = 0 := by unfold errZ; rw [if_neg (by simp), if_pos h]
section
variable (x y : Int) (s : Int) (A : Option Addr) (n cap : Nat) (l : List Int) (t : Int) (A' : Option Addr) (n' cap' : Nat) (m : List Int) (W : World)
variable (hl : RdI W W.heap.size A n cap l) (hm : RdI W W.heap.size A' n' cap' m) (h1 : Std s l x) (h2 : Std t m y) (f1 : fits x = true) (f2 : fits y = true)
include hl hm h1 h2 f1 f2
theorem nGcd : Calls Tryz.prog 24 #[.agg #[.int .i64 s, .slice A n cap], .agg #[.int .i64 t, .slice A' n' cap']] W (BigE W (Int.gcd x y : Int) 0) := by
  have h := bGcd_any s t A A' n cap n' cap' l m W hl hm
  rw [h1.right f1, h2.right f2, h1.val, h2.val] at h
  have e1 : gcdZ (true && true) x y = (Int.gcd x y : Int) := by unfold gcdZ; simp
  have e2 : okE (true && true) = 0 := rfl
  rw [e1, e2] at h
  exact h
theorem nDiv (hy : y ≠ 0) : Calls Tryz.prog 18 #[.agg #[.int .i64 s, .slice A n cap], .agg #[.int .i64 t, .slice A' n' cap']] W (BigE2 W (fq x y) (fr x y) 0) := by
  have h := bDiv_any s t A A' n cap n' cap' l m W hl hm
  have ht : t ≠ 0 := fun e => by
    rcases h2.signs with ⟨-, -, h⟩ | ⟨-, h, -⟩ | ⟨-, h, -⟩
    · exact hy h
    · omega
    · omega
  rw [h1.right f1, h2.right f2, h1.val, h2.val, if_neg (by simp), if_neg ht] at h
  exact h
theorem nDiv0 (hy : y = 0) : Calls Tryz.prog 18 #[.agg #[.int .i64 s, .slice A n cap], .agg #[.int .i64 t, .slice A' n' cap']] W (BigE2 W 0 0 15) := by
  have h := bDiv_any s t A A' n cap n' cap' l m W hl hm
  have ht : t = 0 := by
    rcases h2.signs with ⟨-, h, -⟩ | ⟨-, -, h⟩ | ⟨-, -, h⟩ <;> omega
  rw [h1.right f1, h2.right f2, h1.val, h2.val, if_neg (by simp), if_pos ht] at h
  exact h
theorem nMul : Calls Tryz.prog 15 #[.agg #[.int .i64 s, .slice A n cap], .agg #[.int .i64 t, .slice A' n' cap']] W (BigE W (resZ true (x * y)) (errZ true (x * y))) := by
  have h := bMul_any s t A A' n cap n' cap' l m W hl hm
  rw [h1.right f1, h2.right f2, h1.val, h2.val] at h
  exact h
theorem nMulT (hf : fits (x * y) = true) : Calls Tryz.prog 15 #[.agg #[.int .i64 s, .slice A n cap], .agg #[.int .i64 t, .slice A' n' cap']] W (BigE W (x * y) 0) := by
  have h := bMul_any s t A A' n cap n' cap' l m W hl hm
  rw [h1.right f1, h2.right f2, h1.val, h2.val, Bool.true_and, resT hf, errT hf] at h
  exact h
theorem nAdd : Calls Tryz.prog 11 #[.agg #[.int .i64 s, .slice A n cap], .agg #[.int .i64 t, .slice A' n' cap']] W (BigE W (resZ true (x + y)) (errZ true (x + y))) := by
  have h := bAdd_any s t A A' n cap n' cap' l m W hl hm
  rw [h1.right f1, h2.right f2, h1.val, h2.val] at h
  exact h
theorem nAddT (hf : fits (x + y) = true) : Calls Tryz.prog 11 #[.agg #[.int .i64 s, .slice A n cap], .agg #[.int .i64 t, .slice A' n' cap']] W (BigE W (x + y) 0) := by
  have h := bAdd_any s t A A' n cap n' cap' l m W hl hm
  rw [h1.right f1, h2.right f2, h1.val, h2.val, Bool.true_and, resT hf, errT hf] at h
  exact h
theorem nSubT (hf : fits (x - y) = true) : Calls Tryz.prog 13 #[.agg #[.int .i64 s, .slice A n cap], .agg #[.int .i64 t, .slice A' n' cap']] W (BigE W (x - y) 0) := by
  have h := bSub_any s t A A' n cap n' cap' l m W hl hm
  rw [h1.right f1, h2.right f2, h1.val, h2.val, Bool.true_and, resT hf, errT hf] at h
  exact h
theorem nCompare : Calls Tryz.prog 28 #[.agg #[.int .i64 s, .slice A n cap], .agg #[.int .i64 t, .slice A' n' cap']] W fun e w' => e = .returned (.int .i64 (cmpI x y)) ∧ Below W.heap.size W w' := by
  have h := bcompare_any s t A A' n cap n' cap' l m W hl hm
  have e : cmpB s l t m = cmpI x y := by
    unfold cmpB
    rw [if_pos ⟨h1.right f1, h2.right f2⟩, h1.val, h2.val]
  rw [e] at h
  exact h
end
section
variable (x : Int) (s : Int) (A : Option Addr) (n cap : Nat) (l : List Int) (W : World) (hl : RdI W W.heap.size A n cap l) (h1 : Std s l x) (f1 : fits x = true)
include hl h1 f1
theorem nNeg : Calls Tryz.prog 33 #[.agg #[.int .i64 s, .slice A n cap]] W (BigR W (-x)) := by
  have h := bneg_any s A n cap l W hl
  have e : negZ s l = -x := by
    unfold negZ
    rw [if_pos (h1.right f1), h1.val]
  rw [e] at h
  exact h
theorem nRight : Calls Tryz.prog 26 #[.agg #[.int .i64 s, .slice A n cap]] W fun e w' => e = .returned (.bool true) ∧ Below W.heap.size W w' := by
  have h := bright_any s A n cap l W hl
  rw [h1.right f1] at h
  exact h
theorem nText (ht : Tab W) : Calls Tryz.prog 31 #[.agg #[.int .i64 s, .slice A n cap]] W fun e w' => ∃ T : ByteArray, e = .returned (.string T) ∧ T.data.toList = Lib.itoa x ∧ Below W.heap.size W w' := by
  have h := btext_any s A n cap l W hl ht
  have e : textB s l = ⟨(Lib.itoa x).toArray⟩ := by
    unfold textB
    rw [if_pos (h1.right f1), h1.val]
  rw [e] at h
  exact h.mono fun e w' ⟨h1, h2⟩ => ⟨_, h1, rfl, h2⟩
theorem nIntT (hx : -9223372036854775808 ≤ x ∧ x ≤ 9223372036854775807) : Calls Tryz.prog 20 #[.agg #[.int .i64 s, .slice A n cap]] W fun e w' => e = .returned (.tuple #[.int .i64 x, .bool true]) ∧ Below W.heap.size W w' := by
  have h := bInt_any s A n cap l W hl
  have e1 : intC s l = true := by unfold intC; rw [h1.right f1, h1.val, decide_eq_true hx]; rfl
  have e2 : intV s l = x := by unfold intV; rw [if_pos e1, h1.val]
  rw [e1, e2] at h
  exact h
theorem nIntF (hx : ¬ (-9223372036854775808 ≤ x ∧ x ≤ 9223372036854775807)) : Calls Tryz.prog 20 #[.agg #[.int .i64 s, .slice A n cap]] W fun e w' => e = .returned (.tuple #[.int .i64 0, .bool false]) ∧ Below W.heap.size W w' := by
  have h := bInt_any s A n cap l W hl
  have e1 : intC s l = false := by unfold intC; rw [h1.right f1, h1.val, decide_eq_false hx]; rfl
  rw [e1, intC_false e1] at h
  exact h
end
/-- two results that a callee has made -/
theorem St.ret2 {w W W' : World} {L : List Blk} {D : List Hl} (h : St w L D W) (hb : Below W.heap.size W W') {A A' : Option Addr} {n cap n' cap' : Nat} {l m : List Int} (hl : RdI W' W'.heap.size A n cap l) (hm : RdI W' W'.heap.size A' n' cap' m) (hA : FrA W.heap.size A) (hA' : FrA W.heap.size A') :
    St w L (⟨rdP A' n' cap' m, rdS A' n'⟩ :: ⟨rdP A n cap l, rdS A n⟩ :: D) W' := by
  have h1 := h.ret hb hl hA
  have h2 := h.ret hb hm hA'
  exact h1.add (h2.2.2.2 _ List.mem_cons_self)
/-- a literal of ints -/
theorem run_lit2 (x y : Int) (W : World) : (Instr.buildSlice 22 2 #[(0, .int .i64 x), (1, .int .i64 y)]).run Tryz.prog W = .ok (.slice (some ⟨W.heap.size, 0, none⟩) 2 2) (W.alloc (.cells #[.int .i64 x, .int .i64 y] 3)) := by kernel_rfl
theorem run_lit4 (x y z u : Int) (W : World) : (Instr.buildSlice 22 4 #[(0, .int .i64 x), (1, .int .i64 y), (2, .int .i64 z), (3, .int .i64 u)]).run Tryz.prog W = .ok (.slice (some ⟨W.heap.size, 0, none⟩) 4 4) (W.alloc (.cells #[.int .i64 x, .int .i64 y, .int .i64 z, .int .i64 u] 3)) := by kernel_rfl
theorem run_lit1 (x : Int) (W : World) : (Instr.buildSlice 22 1 #[(0, .int .i64 x)]).run Tryz.prog W = .ok (.slice (some ⟨W.heap.size, 0, none⟩) 1 1) (W.alloc (.cells #[.int .i64 x] 3)) := by kernel_rfl
theorem St.lit {w W : World} {L : List Blk} {D : List Hl} {ops : Array Oper} {rest : List Oper} {o : Oper} {a : Act} {Q : Exit → Act → World → Prop} (K : St w L D W) (hgd : o.guard = none) (ty : TypeId) (n : Nat) (parts : Array (Nat × Operand)) (ho : o.op = .buildSlice ty n parts) (ps : Array (Nat × Value)) (hps : parts.map (fun p => (p.1, a.eval p.2)) = ps) (cs : Array Value) (hrun : (Instr.buildSlice ty n ps).run Tryz.prog W = .ok (.slice (some ⟨W.heap.size, 0, none⟩) n n) (W.alloc (.cells cs 3))) (l : List Int) (hcs : cs = (l.flatMap iEnc).toArray) (hl : l.length = n) (hn : n ≤ 1000)
    (h : ∀ W' A, FrA w.heap.size A → St w L (⟨rdP A n n l, rdS A n⟩ :: D) W' → wpList Tryz.prog ops Q rest (a.put o.dst (.slice A n n)) W') : wpList Tryz.prog ops Q (o :: rest) a W := by
  refine wpList_plain hgd fun _ hK => ?_
  unfold Oper.wp execOp
  simp only [ho, Sem.run_bind, Sem.run_pure, Result.andThen_ok]
  have hr : RdI (W.alloc (.cells cs 3)) (W.alloc (.cells cs 3)).heap.size (some ⟨W.heap.size, 0, none⟩) n n l := Rd.litG iSized (w := W) 3 l cs n _ rfl hcs hl (by omega)
  have hf : FrA W.heap.size (some (⟨W.heap.size, 0, none⟩ : Addr)) := fun a e => by injection e with e; subst e; exact Nat.le_refl _
  have h1 := h _ _ (hf.mono K.1.size) (K.ret ((Below.refl _ _).alloc (Nat.le_refl _) _) hr hf)
  rw [hps, hrun]
  exact hK _ _ h1
end Go.Proofs.YtkeajohkpmabcaaGreatDoor
