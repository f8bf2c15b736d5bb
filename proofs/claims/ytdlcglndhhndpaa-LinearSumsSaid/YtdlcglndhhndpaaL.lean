/- Texts laid together: each begins with what it shows, and the conditions stand in its theorems. -/
import Derived.Test.YtdlcglndhhndpaaK

/- Walks over SameBig, Same and Few of the reference of layer 5. Conditions stand in each theorem. -/
namespace Go.Proofs.Ytdlcglndhhndpaa
open Go.RowKit
set_option linter.unusedVariables false
set_option linter.unusedSimpArgs false

set_option maxRecDepth 100000 in
set_option maxHeartbeats 1000000 in
theorem gsamebig_any (s t : Int) (A A2 : Option Addr) (n cap n2 cap2 : Nat) (a b : List Int) (w : World) (ha : RdI w w.heap.size A n cap a) (hb : RdI w w.heap.size A2 n2 cap2 b) :
    Calls Try.prog 59 #[.agg #[.int .i64 s, .slice A n cap], .agg #[.int .i64 t, .slice A2 n2 cap2]] w fun e w' => e = .returned (.bool (sameB s a t b)) ∧ Below w.heap.size w w' := by
  have K := ((St.start w).oldRd ha).oldRd hb
  have r := K.raw
  have hla := ha.len
  have hlb := hb.len
  have hca := ha.caps
  have hcb := hb.caps
  clear ha hb
  by_cases hst : s = t
  case neg =>
    have hd : (s != t) = true := by simp [hst]
    have hR : sameB s a t b = false := by unfold sameB; exact decide_eq_false fun h => hst h.1
    rw [hR]
    clear hR hst hla hlb
    go_enter Try.func59, Try.ntmps59
    go_wp2_with (first | ((first | (apply K.alloc; rfl; rfl; (first | with_reducible exact big_zero | with_reducible exact frac_zero)) | (apply K.box; rfl; rfl; rfl)); clear K r; (first | (have := b6; clear this; intro W b7 K) | (have := b5; clear this; intro W b6 K) | (have := b4; clear this; intro W b5 K) | (have := b3; clear this; intro W b4 K) | (have := b2; clear this; intro W b3 K) | (have := b1; clear this; intro W b2 K) | (have := b0; clear this; intro W b1 K) | intro W b0 K); have r := K.rawS) | (apply K.storeA; rfl; rfl; rfl; rfl; rfl; (repeat (first | with_reducible exact Upd.head _ | with_reducible apply Upd.tail)); (first | with_reducible exact big_size | with_reducible exact frac_size); rfl; rfl; rfl; clear K r; intro W K; have r := K.rawS))
    go_ret
    exact ⟨rfl, K.1⟩
  subst hst
  have hd : (s != s) = false := by simp
  by_cases hnn : n = n2
  case neg =>
    have hd2 : ((n : Int) != (n2 : Int)) = true := by simp; omega
    have hR : sameB s a s b = false := by unfold sameB; exact decide_eq_false fun h => hnn (by rw [← hla, ← hlb, h.2])
    rw [hR]
    clear hR hnn hla hlb
    go_enter Try.func59, Try.ntmps59
    go_wp2_with (first | ((first | (apply K.alloc; rfl; rfl; (first | with_reducible exact big_zero | with_reducible exact frac_zero)) | (apply K.box; rfl; rfl; rfl)); clear K r; (first | (have := b6; clear this; intro W b7 K) | (have := b5; clear this; intro W b6 K) | (have := b4; clear this; intro W b5 K) | (have := b3; clear this; intro W b4 K) | (have := b2; clear this; intro W b3 K) | (have := b1; clear this; intro W b2 K) | (have := b0; clear this; intro W b1 K) | intro W b0 K); have r := K.rawS) | (apply K.storeA; rfl; rfl; rfl; rfl; rfl; (repeat (first | with_reducible exact Upd.head _ | with_reducible apply Upd.tail)); (first | with_reducible exact big_size | with_reducible exact frac_size); rfl; rfl; rfl; clear K r; intro W K; have r := K.rawS))
    go_ret
    exact ⟨rfl, K.1⟩
  subst hnn
  have hd2 : ((n : Int) != (n : Int)) = false := by simp
  have HEq := Lib.hid (show (∀ j, j < n → gi a j = gi b j) → sameB s a s b = true from fun h => by unfold sameB; exact decide_eq_true ⟨rfl, gi_list (by omega) (by rw [hla]; exact h)⟩)
  have HNe := Lib.hid (show ∀ j, j < n → gi a j ≠ gi b j → sameB s a s b = false from fun j _ h => by unfold sameB; exact decide_eq_false fun h1 => h (by rw [h1.2]))
  generalize sameB s a s b = R at *
  clear hla hlb
  go_enter Try.func59, Try.ntmps59
  go_wp2_with (first | ((first | (apply K.alloc; rfl; rfl; (first | with_reducible exact big_zero | with_reducible exact frac_zero)) | (apply K.box; rfl; rfl; rfl)); clear K r; (first | (have := b6; clear this; intro W b7 K) | (have := b5; clear this; intro W b6 K) | (have := b4; clear this; intro W b5 K) | (have := b3; clear this; intro W b4 K) | (have := b2; clear this; intro W b3 K) | (have := b1; clear this; intro W b2 K) | (have := b0; clear this; intro W b1 K) | intro W b0 K); have r := K.rawS) | (apply K.storeA; rfl; rfl; rfl; rfl; rfl; (repeat (first | with_reducible exact Upd.head _ | with_reducible apply Upd.tail)); (first | with_reducible exact big_size | with_reducible exact frac_size); rfl; rfl; rfl; clear K r; intro W K; have r := K.rawS))
  go_loopg [5] n (fun gk i wr => ∃ k : Nat, k ≤ n ∧ gk = n - k ∧ i = .int .i64 k ∧ (∀ j, j < k → gi a j = gi b j) ∧ St w [(b1, #[.int .i64 s, .slice A2 n cap2], 38), (b0, #[.int .i64 s, .slice A n cap], 38)] [⟨rdP A2 n cap2 b, oldS w⟩, ⟨rdP A n cap a, oldS w⟩] wr)
  case atStart => exact ⟨0, Nat.zero_le _, rfl, rfl, (fun j hj => absurd hj (by omega)), K⟩
  case round =>
    clear K r
    obtain ⟨k, hk, rfl, rfl, hall, K⟩ := hrel
    have Hall := Lib.hid hall
    clear hall
    by_cases hlt : k < n
    · obtain ⟨c1, o1, x, rfl, hc1, hx, d0⟩ := (show RdI wr wr.heap.size A n cap a from K.rd (by repeat (first | with_reducible exact List.mem_cons_self | with_reducible apply List.mem_cons_of_mem))).atI hlt
      obtain ⟨c2, o2, y, rfl, hc2, hy, d1⟩ := (show RdI wr wr.heap.size A2 n cap2 b from K.rd (by repeat (first | with_reducible exact List.mem_cons_self | with_reducible apply List.mem_cons_of_mem))).atI hlt
      have Hx := Lib.hid (gi_eq hx); have Hy := Lib.hid (gi_eq hy)
      have hki : (k : Int) < (n : Int) := by omega
      have hk0 : (0 : Int) ≤ (k : Int) := by omega
      clear hx hy
      have r := K.rawS
      by_cases hxy : x = y
      · have hdd : (x != y) = false := by simp [hxy]
        have Hn := Lib.hid (show ∀ j, j < k + 1 → gi a j = gi b j from fun j hj => by
          by_cases e : j = k
          · subst e; rw [Hx.out, Hy.out]; exact hxy
          · exact Hall.out j (by omega))
        clear hxy
        go_wp2_with fail
        go_quiet (fail)
        go_wp2
        go_roundg (n - (k + 1))
        case rel => exact ⟨k + 1, by omega, rfl, by go_num, Hn.out, K.drewN _⟩
        case measure => omega
      · have hdd : (x != y) = true := by simp [hxy]
        have Hf := Lib.hid (HNe.out k hlt (by rw [Hx.out, Hy.out]; exact hxy))
        clear hxy
        go_wp2_with fail
        go_quiet (fail)
        go_wp2
        go_ret
        exact ⟨by rw [Hf.out]; rfl, (K.drewN _).1⟩
    · have ee : k = n := by omega
      subst ee
      have hd0 : decide (k < k) = false := by simp
      have Hf := Lib.hid (HEq.out Hall.out)
      clear hlt
      have r := K.rawS
      go_wp2
      go_ret
      exact ⟨by rw [Hf.out]; rfl, K.1⟩
/-- whether two fractions are the same -/
def sameF (s1 : Int) (l1 : List Int) (t1 : Int) (k1 : List Int) (s2 : Int) (l2 : List Int) (t2 : Int) (k2 : List Int) : Bool := sameB s1 l1 s2 l2 && sameB t1 k1 t2 k2
set_option maxRecDepth 100000 in
set_option maxHeartbeats 1000000 in
theorem gsame_any (s1 t1 s2 t2 : Int) (A1 B1 A2 B2 : Option Addr) (n1 c1 m1 d1 n2 c2 m2 d2 : Nat) (l1 k1 l2 k2 : List Int) (w : World) (r1 : RdI w w.heap.size A1 n1 c1 l1) (q1 : RdI w w.heap.size B1 m1 d1 k1) (r2 : RdI w w.heap.size A2 n2 c2 l2) (q2 : RdI w w.heap.size B2 m2 d2 k2) :
    Calls Try.prog 25 #[.agg #[.int .i64 s1, .slice A1 n1 c1, .int .i64 t1, .slice B1 m1 d1], .agg #[.int .i64 s2, .slice A2 n2 c2, .int .i64 t2, .slice B2 m2 d2]] w fun e w' => e = .returned (.bool (sameF s1 l1 t1 k1 s2 l2 t2 k2)) ∧ Below w.heap.size w w' := by
  have K := ((((St.start w).oldRd r1).oldRd q1).oldRd r2).oldRd q2
  have r := K.raw
  have H1 := Lib.hid (fun W h g => gsamebig_any s1 s2 A1 A2 n1 c1 n2 c2 l1 l2 W h g)
  have H2 := Lib.hid (fun W h g => gsamebig_any t1 t2 B1 B2 m1 d1 m2 d2 k1 k2 W h g)
  unfold sameF
  clear r1 q1 r2 q2
  cases h1 : sameB s1 l1 s2 l2
  · rw [h1] at H1
    rw [Bool.false_and]
    clear h1
    go_enter Try.func25, Try.ntmps25
    go_wp2_with (first | ((first | (apply K.alloc; rfl; rfl; (first | with_reducible exact big_zero | with_reducible exact frac_zero)) | (apply K.box; rfl; rfl; rfl)); clear K r; (first | (have := b6; clear this; intro W b7 K) | (have := b5; clear this; intro W b6 K) | (have := b4; clear this; intro W b5 K) | (have := b3; clear this; intro W b4 K) | (have := b2; clear this; intro W b3 K) | (have := b1; clear this; intro W b2 K) | (have := b0; clear this; intro W b1 K) | intro W b0 K); have r := K.rawS) | (apply K.storeA; rfl; rfl; rfl; rfl; rfl; (repeat (first | with_reducible exact Upd.head _ | with_reducible apply Upd.tail)); (first | with_reducible exact big_size | with_reducible exact frac_size); rfl; rfl; rfl; clear K r; intro W K; have r := K.rawS))
    refine (H1.out _ (by first | exact Rd.nil | exact K.rda) (by first | exact Rd.nil | exact K.rda)).mono ?_
    rintro e W' ⟨rfl, hb⟩
    replace K := K.keep hb
    clear r
    have r := K.rawS
    clear hb
    go_wp2_with (first | ((first | (apply K.alloc; rfl; rfl; (first | with_reducible exact big_zero | with_reducible exact frac_zero)) | (apply K.box; rfl; rfl; rfl)); clear K r; (first | (have := b6; clear this; intro W b7 K) | (have := b5; clear this; intro W b6 K) | (have := b4; clear this; intro W b5 K) | (have := b3; clear this; intro W b4 K) | (have := b2; clear this; intro W b3 K) | (have := b1; clear this; intro W b2 K) | (have := b0; clear this; intro W b1 K) | intro W b0 K); have r := K.rawS) | (apply K.storeA; rfl; rfl; rfl; rfl; rfl; (repeat (first | with_reducible exact Upd.head _ | with_reducible apply Upd.tail)); (first | with_reducible exact big_size | with_reducible exact frac_size); rfl; rfl; rfl; clear K r; intro W K; have r := K.rawS))
    go_ret
    exact ⟨rfl, K.1⟩
  · rw [h1] at H1
    rw [Bool.true_and]
    clear h1
    generalize sameB t1 k1 t2 k2 = R at *
    go_enter Try.func25, Try.ntmps25
    go_wp2_with (first | ((first | (apply K.alloc; rfl; rfl; (first | with_reducible exact big_zero | with_reducible exact frac_zero)) | (apply K.box; rfl; rfl; rfl)); clear K r; (first | (have := b6; clear this; intro W b7 K) | (have := b5; clear this; intro W b6 K) | (have := b4; clear this; intro W b5 K) | (have := b3; clear this; intro W b4 K) | (have := b2; clear this; intro W b3 K) | (have := b1; clear this; intro W b2 K) | (have := b0; clear this; intro W b1 K) | intro W b0 K); have r := K.rawS) | (apply K.storeA; rfl; rfl; rfl; rfl; rfl; (repeat (first | with_reducible exact Upd.head _ | with_reducible apply Upd.tail)); (first | with_reducible exact big_size | with_reducible exact frac_size); rfl; rfl; rfl; clear K r; intro W K; have r := K.rawS))
    refine (H1.out _ (by first | exact Rd.nil | exact K.rda) (by first | exact Rd.nil | exact K.rda)).mono ?_
    rintro e W' ⟨rfl, hb⟩
    replace K := K.keep hb
    clear r
    have r := K.rawS
    clear hb
    go_wp2_with (first | ((first | (apply K.alloc; rfl; rfl; (first | with_reducible exact big_zero | with_reducible exact frac_zero)) | (apply K.box; rfl; rfl; rfl)); clear K r; (first | (have := b6; clear this; intro W b7 K) | (have := b5; clear this; intro W b6 K) | (have := b4; clear this; intro W b5 K) | (have := b3; clear this; intro W b4 K) | (have := b2; clear this; intro W b3 K) | (have := b1; clear this; intro W b2 K) | (have := b0; clear this; intro W b1 K) | intro W b0 K); have r := K.rawS) | (apply K.storeA; rfl; rfl; rfl; rfl; rfl; (repeat (first | with_reducible exact Upd.head _ | with_reducible apply Upd.tail)); (first | with_reducible exact big_size | with_reducible exact frac_size); rfl; rfl; rfl; clear K r; intro W K; have r := K.rawS))
    refine (H2.out _ (by first | exact Rd.nil | exact K.rda) (by first | exact Rd.nil | exact K.rda)).mono ?_
    rintro e W' ⟨rfl, hb⟩
    replace K := K.keep hb
    clear r
    have r := K.rawS
    clear hb
    go_wp2_with (first | ((first | (apply K.alloc; rfl; rfl; (first | with_reducible exact big_zero | with_reducible exact frac_zero)) | (apply K.box; rfl; rfl; rfl)); clear K r; (first | (have := b6; clear this; intro W b7 K) | (have := b5; clear this; intro W b6 K) | (have := b4; clear this; intro W b5 K) | (have := b3; clear this; intro W b4 K) | (have := b2; clear this; intro W b3 K) | (have := b1; clear this; intro W b2 K) | (have := b0; clear this; intro W b1 K) | intro W b0 K); have r := K.rawS) | (apply K.storeA; rfl; rfl; rfl; rfl; rfl; (repeat (first | with_reducible exact Upd.head _ | with_reducible apply Upd.tail)); (first | with_reducible exact big_size | with_reducible exact frac_size); rfl; rfl; rfl; clear K r; intro W K; have r := K.rawS))
    go_ret
    exact ⟨rfl, K.1⟩
/-- whether both parts have few digits -/
def fewF (n m : Nat) (N : Int) : Bool := decide ((n : Int) ≤ N) && decide ((m : Int) ≤ N)
set_option maxRecDepth 100000 in
set_option maxHeartbeats 1000000 in
theorem gfew_any (s t : Int) (A A' : Option Addr) (n cap n' cap' : Nat) (N : Int) (w : World) :
    Calls Try.prog 20 #[.agg #[.int .i64 s, .slice A n cap, .int .i64 t, .slice A' n' cap'], .int .i64 N] w fun e w' => e = .returned (.bool (fewF n n' N)) ∧ Below w.heap.size w w' := by
  have K := St.start w
  have r := K.raw
  unfold fewF
  cases h1 : decide ((n : Int) ≤ N)
  · rw [Bool.false_and]
    go_enter Try.func20, Try.ntmps20
    go_wp2_with (first | ((first | (apply K.alloc; rfl; rfl; (first | with_reducible exact big_zero | with_reducible exact frac_zero)) | (apply K.box; rfl; rfl; rfl)); clear K r; (first | (have := b6; clear this; intro W b7 K) | (have := b5; clear this; intro W b6 K) | (have := b4; clear this; intro W b5 K) | (have := b3; clear this; intro W b4 K) | (have := b2; clear this; intro W b3 K) | (have := b1; clear this; intro W b2 K) | (have := b0; clear this; intro W b1 K) | intro W b0 K); have r := K.rawS) | (apply K.storeA; rfl; rfl; rfl; rfl; rfl; (repeat (first | with_reducible exact Upd.head _ | with_reducible apply Upd.tail)); (first | with_reducible exact big_size | with_reducible exact frac_size); rfl; rfl; rfl; clear K r; intro W K; have r := K.rawS))
    go_ret
    exact ⟨rfl, K.1⟩
  · rw [Bool.true_and]
    cases h2 : decide ((n' : Int) ≤ N)
    all_goals
      go_enter Try.func20, Try.ntmps20
      go_wp2_with (first | ((first | (apply K.alloc; rfl; rfl; (first | with_reducible exact big_zero | with_reducible exact frac_zero)) | (apply K.box; rfl; rfl; rfl)); clear K r; (first | (have := b6; clear this; intro W b7 K) | (have := b5; clear this; intro W b6 K) | (have := b4; clear this; intro W b5 K) | (have := b3; clear this; intro W b4 K) | (have := b2; clear this; intro W b3 K) | (have := b1; clear this; intro W b2 K) | (have := b0; clear this; intro W b1 K) | intro W b0 K); have r := K.rawS) | (apply K.storeA; rfl; rfl; rfl; rfl; rfl; (repeat (first | with_reducible exact Upd.head _ | with_reducible apply Upd.tail)); (first | with_reducible exact big_size | with_reducible exact frac_size); rfl; rfl; rfl; clear K r; intro W K; have r := K.rawS))
      go_ret
      exact ⟨rfl, K.1⟩
end Go.Proofs.Ytdlcglndhhndpaa
