/- Texts laid together: each begins with what it shows, and the conditions stand in its theorems. -/
import Derived.Test.YtdlcglndhhndpaaJ
import Derived.Test.YtdlcglndhhndpaaE
import Derived.Test.YtdlcglndhhndpaaF

/- Walk over New of the reference of layer 5. Conditions stand in each theorem. -/
namespace Go.Proofs.Ytdlcglndhhndpaa
open Go.RowKit
set_option linter.unusedVariables false
set_option linter.unusedSimpArgs false

set_option maxRecDepth 100000 in
set_option maxHeartbeats 2000000 in
theorem gNew_any (s t : Int) (A A' : Option Addr) (n cap n' cap' : Nat) (l m : List Int) (w : World) (hl : RdI w w.heap.size A n cap l) (hm : RdI w w.heap.size A' n' cap' m) :
    Calls Try.prog 81 #[.agg #[.int .i64 s, .slice A n cap], .agg #[.int .i64 t, .slice A' n' cap']] w (FrE w (newO (rightB s l && rightB t m) (bval s l) (bval t m)) (newE (rightB s l && rightB t m) (bval t m))) := by
  have K := ((St.start w).oldRd hl).oldRd hm
  have r := K.raw
  have HR1 := Lib.hid (fun W h => eright_any s A n cap l W h)
  have HR2 := Lib.hid (fun W h => eright_any t A' n' cap' m W h)
  have Hno := Lib.hid (fun W (c : Int) (h : Below w.heap.size w W) => (⟨0, none, 0, 0, [], 0, none, 0, 0, [], rfl, ⟨Rd.nil, Rd.nil⟩, ⟨rfl, rfl, rfl, rfl⟩, ⟨FrA.none, FrA.none⟩, h⟩ : FrE w none c (.returned (.tuple #[.agg #[.int .i64 0, .slice none 0 0, .int .i64 0, .slice none 0 0], .int .i64 c])) W))
  cases h1 : rightB s l
  · rw [h1] at HR1
    rw [Bool.false_and, newO_no, newE_no]
    clear h1
    go_enter Try.func81, Try.ntmps81
    go_wp2_with (first | ((first | (apply K.alloc; rfl; rfl; (first | with_reducible exact big_zero | with_reducible exact frac_zero)) | (apply K.box; rfl; rfl; rfl)); clear K r; intro W b K; have r := K.rawS) | (apply K.storeA; rfl; rfl; rfl; rfl; rfl; (repeat (first | with_reducible exact Upd.head _ | with_reducible apply Upd.tail)); (first | with_reducible exact big_size | with_reducible exact frac_size); rfl; rfl; rfl; clear K r; intro W K; have r := K.rawS))
    refine (HR1.out _ (by first | exact Rd.nil | exact K.rda)).mono ?_
    rintro e W' ⟨rfl, hb⟩
    replace K := K.keep hb
    clear r
    have r := K.rawS
    clear hb
    go_wp2_with (first | ((first | (apply K.alloc; rfl; rfl; (first | with_reducible exact big_zero | with_reducible exact frac_zero)) | (apply K.box; rfl; rfl; rfl)); clear K r; intro W b K; have r := K.rawS) | (apply K.storeA; rfl; rfl; rfl; rfl; rfl; (repeat (first | with_reducible exact Upd.head _ | with_reducible apply Upd.tail)); (first | with_reducible exact big_size | with_reducible exact frac_size); rfl; rfl; rfl; clear K r; intro W K; have r := K.rawS))
    exact bodyPost_ret (v := .tuple #[.agg #[.int .i64 0, .slice none 0 0, .int .i64 0, .slice none 0 0], .int .i64 1]) (by simp [results, Try.results81, go_sem, r]) rfl (Hno.out _ _ K.1)
  cases h2 : rightB t m
  · rw [h1] at HR1
    rw [h2] at HR2
    rw [Bool.true_and, newO_no, newE_no]
    clear h1 h2
    go_enter Try.func81, Try.ntmps81
    go_wp2_with (first | ((first | (apply K.alloc; rfl; rfl; (first | with_reducible exact big_zero | with_reducible exact frac_zero)) | (apply K.box; rfl; rfl; rfl)); clear K r; intro W b K; have r := K.rawS) | (apply K.storeA; rfl; rfl; rfl; rfl; rfl; (repeat (first | with_reducible exact Upd.head _ | with_reducible apply Upd.tail)); (first | with_reducible exact big_size | with_reducible exact frac_size); rfl; rfl; rfl; clear K r; intro W K; have r := K.rawS))
    refine (HR1.out _ (by first | exact Rd.nil | exact K.rda)).mono ?_
    rintro e W' ⟨rfl, hb⟩
    replace K := K.keep hb
    clear r
    have r := K.rawS
    clear hb
    go_wp2_with (first | ((first | (apply K.alloc; rfl; rfl; (first | with_reducible exact big_zero | with_reducible exact frac_zero)) | (apply K.box; rfl; rfl; rfl)); clear K r; intro W b K; have r := K.rawS) | (apply K.storeA; rfl; rfl; rfl; rfl; rfl; (repeat (first | with_reducible exact Upd.head _ | with_reducible apply Upd.tail)); (first | with_reducible exact big_size | with_reducible exact frac_size); rfl; rfl; rfl; clear K r; intro W K; have r := K.rawS))
    refine (HR2.out _ (by first | exact Rd.nil | exact K.rda)).mono ?_
    rintro e W' ⟨rfl, hb⟩
    replace K := K.keep hb
    clear r
    have r := K.rawS
    clear hb
    go_wp2_with (first | ((first | (apply K.alloc; rfl; rfl; (first | with_reducible exact big_zero | with_reducible exact frac_zero)) | (apply K.box; rfl; rfl; rfl)); clear K r; intro W b K; have r := K.rawS) | (apply K.storeA; rfl; rfl; rfl; rfl; rfl; (repeat (first | with_reducible exact Upd.head _ | with_reducible apply Upd.tail)); (first | with_reducible exact big_size | with_reducible exact frac_size); rfl; rfl; rfl; clear K r; intro W K; have r := K.rawS))
    exact bodyPost_ret (v := .tuple #[.agg #[.int .i64 0, .slice none 0 0, .int .i64 0, .slice none 0 0], .int .i64 1]) (by simp [results, Try.results81, go_sem, r]) rfl (Hno.out _ _ K.1)
  rw [h1] at HR1
  rw [h2] at HR2
  rw [Bool.true_and]
  obtain ⟨x, hx⟩ : ∃ x, x = bval s l := ⟨_, rfl⟩
  obtain ⟨y, hy⟩ : ∃ y, y = bval t m := ⟨_, rfl⟩
  have S1 : Std s l x := by rw [hx]; exact Std.of_right h1
  have S2 : Std t m y := by rw [hy]; exact Std.of_right h2
  have F1 : fits x = true := by rw [hx]; exact fits_of_right h1
  have F2 : fits y = true := by rw [hy]; exact fits_of_right h2
  rw [← hx, ← hy]
  clear hx hy h1 h2
  rcases S2.signs with ⟨-, ht, hy0⟩ | ⟨-, ht, hy0⟩ | ⟨-, ht, hy0⟩
  · have hd : (t == 0) = true := by simp [ht]
    rw [hy0, newO_zero, newE_zero]
    clear S1 S2 F1 F2 ht hy0
    go_enter Try.func81, Try.ntmps81
    go_wp2_with (first | ((first | (apply K.alloc; rfl; rfl; (first | with_reducible exact big_zero | with_reducible exact frac_zero)) | (apply K.box; rfl; rfl; rfl)); clear K r; intro W b K; have r := K.rawS) | (apply K.storeA; rfl; rfl; rfl; rfl; rfl; (repeat (first | with_reducible exact Upd.head _ | with_reducible apply Upd.tail)); (first | with_reducible exact big_size | with_reducible exact frac_size); rfl; rfl; rfl; clear K r; intro W K; have r := K.rawS))
    refine (HR1.out _ (by first | exact Rd.nil | exact K.rda)).mono ?_
    rintro e W' ⟨rfl, hb⟩
    replace K := K.keep hb
    clear r
    have r := K.rawS
    clear hb
    go_wp2_with (first | ((first | (apply K.alloc; rfl; rfl; (first | with_reducible exact big_zero | with_reducible exact frac_zero)) | (apply K.box; rfl; rfl; rfl)); clear K r; intro W b K; have r := K.rawS) | (apply K.storeA; rfl; rfl; rfl; rfl; rfl; (repeat (first | with_reducible exact Upd.head _ | with_reducible apply Upd.tail)); (first | with_reducible exact big_size | with_reducible exact frac_size); rfl; rfl; rfl; clear K r; intro W K; have r := K.rawS))
    refine (HR2.out _ (by first | exact Rd.nil | exact K.rda)).mono ?_
    rintro e W' ⟨rfl, hb⟩
    replace K := K.keep hb
    clear r
    have r := K.rawS
    clear hb
    go_wp2_with (first | ((first | (apply K.alloc; rfl; rfl; (first | with_reducible exact big_zero | with_reducible exact frac_zero)) | (apply K.box; rfl; rfl; rfl)); clear K r; intro W b K; have r := K.rawS) | (apply K.storeA; rfl; rfl; rfl; rfl; rfl; (repeat (first | with_reducible exact Upd.head _ | with_reducible apply Upd.tail)); (first | with_reducible exact big_size | with_reducible exact frac_size); rfl; rfl; rfl; clear K r; intro W K; have r := K.rawS))
    exact bodyPost_ret (v := .tuple #[.agg #[.int .i64 0, .slice none 0 0, .int .i64 0, .slice none 0 0], .int .i64 15]) (by simp [results, Try.results81, go_sem, r]) rfl (Hno.out _ _ K.1)
  · have hd : (t == 0) = false := by simp [ht]
    have hd2 : decide (t < 0) = false := decide_eq_false (by omega)
    have hg : (0 : Int) < (Int.gcd x y : Int) := by have := Int.gcd_pos_of_ne_zero_right x (show y ≠ 0 by omega); omega
    have F3 := gcd_fits (x := x) (show y ≠ 0 by omega) F2
    obtain ⟨g1, g2⟩ := gcd_div (x := x) hy0
    have HGc := Lib.hid (fun s A n cap l t A' n' cap' m W hl hm h1 h2 => uGcd x y s A n cap l t A' n' cap' m W hl hm h1 h2 F1 F2)
    have HD1 := Lib.hid (fun s A n cap l t A' n' cap' m W hl hm h1 h2 => uDiv x (Int.gcd x y : Int) s A n cap l t A' n' cap' m W hl hm h1 h2 F1 F3 (by omega))
    have HD2 := Lib.hid (fun s A n cap l t A' n' cap' m W hl hm h1 h2 => uDiv y (Int.gcd x y : Int) s A n cap l t A' n' cap' m W hl hm h1 h2 F2 F3 (by omega))
    rw [newO_yes (by omega), newE_yes (by omega)]
    have HEnd := Lib.hid (fun s A n cap l t A' n' cap' m W (r1 : RdI W W.heap.size A n cap l) (r2 : RdI W W.heap.size A' n' cap' m) (e1 : Std s l (fq x (Int.gcd x y : Int))) (e2 : Std t m (fq y (Int.gcd x y : Int))) (a1 : FrA w.heap.size A) (a2 : FrA w.heap.size A') (hb : Below w.heap.size w W) => (⟨s, A, n, cap, l, t, A', n', cap', m, rfl, ⟨r1, r2⟩, ⟨by rw [← g1]; exact e1, by rw [← g2]; exact e2⟩, ⟨a1, a2⟩, hb⟩ : FrE w (some (Rat.divInt x y)) 0 (.returned (.tuple #[.agg #[.int .i64 s, .slice A n cap, .int .i64 t, .slice A' n' cap'], .int .i64 0])) W))
    have hs1 := S1; have hs2 := S2
    clear S1 S2 F1 F2 F3 ht hy0 hg g1 g2
    go_enter Try.func81, Try.ntmps81
    go_wp2_with (first | ((first | (apply K.alloc; rfl; rfl; (first | with_reducible exact big_zero | with_reducible exact frac_zero)) | (apply K.box; rfl; rfl; rfl)); clear K r; intro W b K; have r := K.rawS) | (apply K.storeA; rfl; rfl; rfl; rfl; rfl; (repeat (first | with_reducible exact Upd.head _ | with_reducible apply Upd.tail)); (first | with_reducible exact big_size | with_reducible exact frac_size); rfl; rfl; rfl; clear K r; intro W K; have r := K.rawS))
    refine (HR1.out _ (by first | exact Rd.nil | exact K.rda)).mono ?_
    rintro e W' ⟨rfl, hb⟩
    replace K := K.keep hb
    clear r
    have r := K.rawS
    clear hb
    go_wp2_with (first | ((first | (apply K.alloc; rfl; rfl; (first | with_reducible exact big_zero | with_reducible exact frac_zero)) | (apply K.box; rfl; rfl; rfl)); clear K r; intro W b K; have r := K.rawS) | (apply K.storeA; rfl; rfl; rfl; rfl; rfl; (repeat (first | with_reducible exact Upd.head _ | with_reducible apply Upd.tail)); (first | with_reducible exact big_size | with_reducible exact frac_size); rfl; rfl; rfl; clear K r; intro W K; have r := K.rawS))
    refine (HR2.out _ (by first | exact Rd.nil | exact K.rda)).mono ?_
    rintro e W' ⟨rfl, hb⟩
    replace K := K.keep hb
    clear r
    have r := K.rawS
    clear hb
    go_wp2_with (first | ((first | (apply K.alloc; rfl; rfl; (first | with_reducible exact big_zero | with_reducible exact frac_zero)) | (apply K.box; rfl; rfl; rfl)); clear K r; intro W b K; have r := K.rawS) | (apply K.storeA; rfl; rfl; rfl; rfl; rfl; (repeat (first | with_reducible exact Upd.head _ | with_reducible apply Upd.tail)); (first | with_reducible exact big_size | with_reducible exact frac_size); rfl; rfl; rfl; clear K r; intro W K; have r := K.rawS))
    refine (HGc.out _ _ _ _ _ _ _ _ _ _ _ (by first | exact Rd.nil | exact K.rda) (by first | exact Rd.nil | exact K.rda) hs1 hs2).mono ?_
    rintro e W' ⟨s3, A3, n3, c3, l3, rfl, hr, hs3, hf, hb⟩
    replace K := K.ret hb hr hf
    clear r
    have r := K.rawS
    clear hr hf hb
    go_wp2_with (first | ((first | (apply K.alloc; rfl; rfl; (first | with_reducible exact big_zero | with_reducible exact frac_zero)) | (apply K.box; rfl; rfl; rfl)); clear K r; intro W b K; have r := K.rawS) | (apply K.storeA; rfl; rfl; rfl; rfl; rfl; (repeat (first | with_reducible exact Upd.head _ | with_reducible apply Upd.tail)); (first | with_reducible exact big_size | with_reducible exact frac_size); rfl; rfl; rfl; clear K r; intro W K; have r := K.rawS))
    refine (HD1.out _ _ _ _ _ _ _ _ _ _ _ (by first | exact Rd.nil | exact K.rda) (by first | exact Rd.nil | exact K.rda) hs1 hs3).mono ?_
    rintro e W' ⟨s4, A4, n4, c4, l4, s5, A5, n5, c5, l5, rfl, ⟨hr, hs4, hf⟩, -, hb⟩
    have hf4 := Lib.hid (hf.mono K.1.size)
    replace K := K.ret hb hr hf
    clear r
    have r := K.rawS
    clear hr hf hb
    go_wp2_with (first | ((first | (apply K.alloc; rfl; rfl; (first | with_reducible exact big_zero | with_reducible exact frac_zero)) | (apply K.box; rfl; rfl; rfl)); clear K r; intro W b K; have r := K.rawS) | (apply K.storeA; rfl; rfl; rfl; rfl; rfl; (repeat (first | with_reducible exact Upd.head _ | with_reducible apply Upd.tail)); (first | with_reducible exact big_size | with_reducible exact frac_size); rfl; rfl; rfl; clear K r; intro W K; have r := K.rawS))
    refine (HD2.out _ _ _ _ _ _ _ _ _ _ _ (by first | exact Rd.nil | exact K.rda) (by first | exact Rd.nil | exact K.rda) hs2 hs3).mono ?_
    rintro e W' ⟨s6, A6, n6, c6, l6, s7, A7, n7, c7, l7, rfl, ⟨hr, hs6, hf⟩, -, hb⟩
    have hf6 := Lib.hid (hf.mono K.1.size)
    replace K := K.ret hb hr hf
    clear r
    have r := K.rawS
    clear hr hf hb
    go_wp2_with (first | ((first | (apply K.alloc; rfl; rfl; (first | with_reducible exact big_zero | with_reducible exact frac_zero)) | (apply K.box; rfl; rfl; rfl)); clear K r; intro W b K; have r := K.rawS) | (apply K.storeA; rfl; rfl; rfl; rfl; rfl; (repeat (first | with_reducible exact Upd.head _ | with_reducible apply Upd.tail)); (first | with_reducible exact big_size | with_reducible exact frac_size); rfl; rfl; rfl; clear K r; intro W K; have r := K.rawS))
    have HE := Lib.hid (HEnd.out _ _ _ _ _ _ _ _ _ _ _ (by first | exact Rd.nil | exact K.rda) (by first | exact Rd.nil | exact K.rda) hs4 hs6 hf4.out hf6.out K.1)
    clear hs1 hs2 hs3 hs4 hs6
    exact bodyPost_ret (v := .tuple #[.agg #[.int .i64 s4, .slice A4 n4 c4, .int .i64 s6, .slice A6 n6 c6], .int .i64 0]) (by simp [results, Try.results81, go_sem, r]) rfl HE.out
  · have hd : (t == 0) = false := by simp [ht]
    have hd2 : decide (t < 0) = true := decide_eq_true (by omega)
    have hy1 : 0 < -y := by omega
    have hg : (0 : Int) < (Int.gcd (-x) (-y) : Int) := by have := Int.gcd_pos_of_ne_zero_right (-x) (show -y ≠ 0 by omega); omega
    have F1' := fits_neg F1
    have F2' := fits_neg F2
    have F3 := gcd_fits (x := -x) (show -y ≠ 0 by omega) F2'
    obtain ⟨g1, g2⟩ := gcd_div (x := -x) hy1
    rw [divInt_opp] at g1 g2
    have HN1 := Lib.hid (fun W hl => uNeg x s A n cap l W hl S1 F1)
    have HN2 := Lib.hid (fun W hl => uNeg y t A' n' cap' m W hl S2 F2)
    have HGc := Lib.hid (fun s A n cap l t A' n' cap' m W hl hm h1 h2 => uGcd (-x) (-y) s A n cap l t A' n' cap' m W hl hm h1 h2 F1' F2')
    have HD1 := Lib.hid (fun s A n cap l t A' n' cap' m W hl hm h1 h2 => uDiv (-x) (Int.gcd (-x) (-y) : Int) s A n cap l t A' n' cap' m W hl hm h1 h2 F1' F3 (by omega))
    have HD2 := Lib.hid (fun s A n cap l t A' n' cap' m W hl hm h1 h2 => uDiv (-y) (Int.gcd (-x) (-y) : Int) s A n cap l t A' n' cap' m W hl hm h1 h2 F2' F3 (by omega))
    rw [newO_yes (by omega), newE_yes (by omega)]
    have HEnd := Lib.hid (fun s A n cap l t A' n' cap' m W (r1 : RdI W W.heap.size A n cap l) (r2 : RdI W W.heap.size A' n' cap' m) (e1 : Std s l (fq (-x) (Int.gcd (-x) (-y) : Int))) (e2 : Std t m (fq (-y) (Int.gcd (-x) (-y) : Int))) (a1 : FrA w.heap.size A) (a2 : FrA w.heap.size A') (hb : Below w.heap.size w W) => (⟨s, A, n, cap, l, t, A', n', cap', m, rfl, ⟨r1, r2⟩, ⟨by rw [← g1]; exact e1, by rw [← g2]; exact e2⟩, ⟨a1, a2⟩, hb⟩ : FrE w (some (Rat.divInt x y)) 0 (.returned (.tuple #[.agg #[.int .i64 s, .slice A n cap, .int .i64 t, .slice A' n' cap'], .int .i64 0])) W))
    clear S1 S2 F1 F2 F3 F1' F2' ht hy0 hy1 hg g1 g2
    go_enter Try.func81, Try.ntmps81
    go_wp2_with (first | ((first | (apply K.alloc; rfl; rfl; (first | with_reducible exact big_zero | with_reducible exact frac_zero)) | (apply K.box; rfl; rfl; rfl)); clear K r; intro W b K; have r := K.rawS) | (apply K.storeA; rfl; rfl; rfl; rfl; rfl; (repeat (first | with_reducible exact Upd.head _ | with_reducible apply Upd.tail)); (first | with_reducible exact big_size | with_reducible exact frac_size); rfl; rfl; rfl; clear K r; intro W K; have r := K.rawS))
    refine (HR1.out _ (by first | exact Rd.nil | exact K.rda)).mono ?_
    rintro e W' ⟨rfl, hb⟩
    replace K := K.keep hb
    clear r
    have r := K.rawS
    clear hb
    go_wp2_with (first | ((first | (apply K.alloc; rfl; rfl; (first | with_reducible exact big_zero | with_reducible exact frac_zero)) | (apply K.box; rfl; rfl; rfl)); clear K r; intro W b K; have r := K.rawS) | (apply K.storeA; rfl; rfl; rfl; rfl; rfl; (repeat (first | with_reducible exact Upd.head _ | with_reducible apply Upd.tail)); (first | with_reducible exact big_size | with_reducible exact frac_size); rfl; rfl; rfl; clear K r; intro W K; have r := K.rawS))
    refine (HR2.out _ (by first | exact Rd.nil | exact K.rda)).mono ?_
    rintro e W' ⟨rfl, hb⟩
    replace K := K.keep hb
    clear r
    have r := K.rawS
    clear hb
    go_wp2_with (first | ((first | (apply K.alloc; rfl; rfl; (first | with_reducible exact big_zero | with_reducible exact frac_zero)) | (apply K.box; rfl; rfl; rfl)); clear K r; intro W b K; have r := K.rawS) | (apply K.storeA; rfl; rfl; rfl; rfl; rfl; (repeat (first | with_reducible exact Upd.head _ | with_reducible apply Upd.tail)); (first | with_reducible exact big_size | with_reducible exact frac_size); rfl; rfl; rfl; clear K r; intro W K; have r := K.rawS))
    refine (HN1.out _ (by first | exact Rd.nil | exact K.rda)).mono ?_
    rintro e W' ⟨s1, A1, n1, c1, l1, rfl, hr, hs1, hf, hb⟩
    have hf1 := Lib.hid (hf.mono K.1.size)
    replace K := K.ret hb hr hf
    clear r
    have r := K.rawS
    clear hr hf hb
    go_wp2_with (first | ((first | (apply K.alloc; rfl; rfl; (first | with_reducible exact big_zero | with_reducible exact frac_zero)) | (apply K.box; rfl; rfl; rfl)); clear K r; intro W b K; have r := K.rawS) | (apply K.storeA; rfl; rfl; rfl; rfl; rfl; (repeat (first | with_reducible exact Upd.head _ | with_reducible apply Upd.tail)); (first | with_reducible exact big_size | with_reducible exact frac_size); rfl; rfl; rfl; clear K r; intro W K; have r := K.rawS))
    refine (HN2.out _ (by first | exact Rd.nil | exact K.rda)).mono ?_
    rintro e W' ⟨s2, A2, n2, c2, l2, rfl, hr, hs2, hf, hb⟩
    have hf2 := Lib.hid (hf.mono K.1.size)
    replace K := K.ret hb hr hf
    clear r
    have r := K.rawS
    clear hr hf hb
    go_wp2_with (first | ((first | (apply K.alloc; rfl; rfl; (first | with_reducible exact big_zero | with_reducible exact frac_zero)) | (apply K.box; rfl; rfl; rfl)); clear K r; intro W b K; have r := K.rawS) | (apply K.storeA; rfl; rfl; rfl; rfl; rfl; (repeat (first | with_reducible exact Upd.head _ | with_reducible apply Upd.tail)); (first | with_reducible exact big_size | with_reducible exact frac_size); rfl; rfl; rfl; clear K r; intro W K; have r := K.rawS))
    refine (HGc.out _ _ _ _ _ _ _ _ _ _ _ (by first | exact Rd.nil | exact K.rda) (by first | exact Rd.nil | exact K.rda) hs1 hs2).mono ?_
    rintro e W' ⟨s3, A3, n3, c3, l3, rfl, hr, hs3, hf, hb⟩
    replace K := K.ret hb hr hf
    clear r
    have r := K.rawS
    clear hr hf hb
    go_wp2_with (first | ((first | (apply K.alloc; rfl; rfl; (first | with_reducible exact big_zero | with_reducible exact frac_zero)) | (apply K.box; rfl; rfl; rfl)); clear K r; intro W b K; have r := K.rawS) | (apply K.storeA; rfl; rfl; rfl; rfl; rfl; (repeat (first | with_reducible exact Upd.head _ | with_reducible apply Upd.tail)); (first | with_reducible exact big_size | with_reducible exact frac_size); rfl; rfl; rfl; clear K r; intro W K; have r := K.rawS))
    refine (HD1.out _ _ _ _ _ _ _ _ _ _ _ (by first | exact Rd.nil | exact K.rda) (by first | exact Rd.nil | exact K.rda) hs1 hs3).mono ?_
    rintro e W' ⟨s4, A4, n4, c4, l4, s5, A5, n5, c5, l5, rfl, ⟨hr, hs4, hf⟩, -, hb⟩
    have hf4 := Lib.hid (hf.mono K.1.size)
    replace K := K.ret hb hr hf
    clear r
    have r := K.rawS
    clear hr hf hb
    go_wp2_with (first | ((first | (apply K.alloc; rfl; rfl; (first | with_reducible exact big_zero | with_reducible exact frac_zero)) | (apply K.box; rfl; rfl; rfl)); clear K r; intro W b K; have r := K.rawS) | (apply K.storeA; rfl; rfl; rfl; rfl; rfl; (repeat (first | with_reducible exact Upd.head _ | with_reducible apply Upd.tail)); (first | with_reducible exact big_size | with_reducible exact frac_size); rfl; rfl; rfl; clear K r; intro W K; have r := K.rawS))
    refine (HD2.out _ _ _ _ _ _ _ _ _ _ _ (by first | exact Rd.nil | exact K.rda) (by first | exact Rd.nil | exact K.rda) hs2 hs3).mono ?_
    rintro e W' ⟨s6, A6, n6, c6, l6, s7, A7, n7, c7, l7, rfl, ⟨hr, hs6, hf⟩, -, hb⟩
    have hf6 := Lib.hid (hf.mono K.1.size)
    replace K := K.ret hb hr hf
    clear r
    have r := K.rawS
    clear hr hf hb
    go_wp2_with (first | ((first | (apply K.alloc; rfl; rfl; (first | with_reducible exact big_zero | with_reducible exact frac_zero)) | (apply K.box; rfl; rfl; rfl)); clear K r; intro W b K; have r := K.rawS) | (apply K.storeA; rfl; rfl; rfl; rfl; rfl; (repeat (first | with_reducible exact Upd.head _ | with_reducible apply Upd.tail)); (first | with_reducible exact big_size | with_reducible exact frac_size); rfl; rfl; rfl; clear K r; intro W K; have r := K.rawS))
    have HE := Lib.hid (HEnd.out _ _ _ _ _ _ _ _ _ _ _ (by first | exact Rd.nil | exact K.rda) (by first | exact Rd.nil | exact K.rda) hs4 hs6 hf4.out hf6.out K.1)
    clear hs1 hs2 hs3 hs4 hs6
    exact bodyPost_ret (v := .tuple #[.agg #[.int .i64 s4, .slice A4 n4 c4, .int .i64 s6, .slice A6 n6 c6], .int .i64 0]) (by simp [results, Try.results81, go_sem, r]) rfl HE.out
end Go.Proofs.Ytdlcglndhhndpaa

/- Walks over Of and made of the reference of layer 5. Conditions stand in each theorem. -/
namespace Go.Proofs.Ytdlcglndhhndpaa
open Go.RowKit
set_option linter.unusedVariables false
set_option linter.unusedSimpArgs false

theorem uNew (x y : Int) (s : Int) (A : Option Addr) (n cap : Nat) (l : List Int) (t : Int) (A' : Option Addr) (n' cap' : Nat) (m : List Int) (W : World) (hl : RdI W W.heap.size A n cap l) (hm : RdI W W.heap.size A' n' cap' m) (h1 : Std s l x) (h2 : Std t m y) (f1 : fits x = true) (f2 : fits y = true) :
    Calls Try.prog 81 #[.agg #[.int .i64 s, .slice A n cap], .agg #[.int .i64 t, .slice A' n' cap']] W (FrE W (newO true x y) (newE true y)) := by
  have h := gNew_any s t A A' n cap n' cap' l m W hl hm
  rw [h1.right f1, h2.right f2, h1.val, h2.val] at h
  exact h
set_option maxRecDepth 100000 in
set_option maxHeartbeats 1000000 in
theorem gOf_any (p q : Int) (w : World) (hp : -9223372036854775808 ≤ p ∧ p ≤ 9223372036854775807) (hq : -9223372036854775808 ≤ q ∧ q ≤ 9223372036854775807) :
    Calls Try.prog 42 #[.int .i64 p, .int .i64 q] w (FrE w (newO true p q) (newE true q)) := by
  have K := St.start w
  have r := K.raw
  have HO1 := Lib.hid (fun W => eOf_any p W hp)
  have HO2 := Lib.hid (fun W => eOf_any q W hq)
  have HN := Lib.hid (fun s A n cap l t A' n' cap' m W hl hm h1 h2 => uNew p q s A n cap l t A' n' cap' m W hl hm h1 h2 (fits_small (by omega)) (fits_small (by omega)))
  generalize newO true p q = O at *
  generalize newE true q = E at *
  clear hp hq
  go_enter Try.func42, Try.ntmps42
  go_wp2_with (first | ((first | (apply K.alloc; rfl; rfl; (first | with_reducible exact big_zero | with_reducible exact frac_zero)) | (apply K.box; rfl; rfl; rfl)); clear K r; intro W b K; have r := K.rawS) | (apply K.storeA; rfl; rfl; rfl; rfl; rfl; (repeat (first | with_reducible exact Upd.head _ | with_reducible apply Upd.tail)); (first | with_reducible exact big_size | with_reducible exact frac_size); rfl; rfl; rfl; clear K r; intro W K; have r := K.rawS))
  refine (HO1.out _).mono ?_
  rintro e W' ⟨s1, A1, n1, c1, l1, rfl, hr, hs1, hf, hb⟩
  have hf1 := Lib.hid (hf.mono K.1.size)
  replace K := K.ret hb hr hf
  clear r
  have r := K.rawS
  clear hr hf hb
  go_wp2_with (first | ((first | (apply K.alloc; rfl; rfl; (first | with_reducible exact big_zero | with_reducible exact frac_zero)) | (apply K.box; rfl; rfl; rfl)); clear K r; intro W b K; have r := K.rawS) | (apply K.storeA; rfl; rfl; rfl; rfl; rfl; (repeat (first | with_reducible exact Upd.head _ | with_reducible apply Upd.tail)); (first | with_reducible exact big_size | with_reducible exact frac_size); rfl; rfl; rfl; clear K r; intro W K; have r := K.rawS))
  refine (HO2.out _).mono ?_
  rintro e W' ⟨s2, A2, n2, c2, l2, rfl, hr, hs2, hf, hb⟩
  have hf2 := Lib.hid (hf.mono K.1.size)
  replace K := K.ret hb hr hf
  clear r
  have r := K.rawS
  clear hr hf hb
  go_wp2_with (first | ((first | (apply K.alloc; rfl; rfl; (first | with_reducible exact big_zero | with_reducible exact frac_zero)) | (apply K.box; rfl; rfl; rfl)); clear K r; intro W b K; have r := K.rawS) | (apply K.storeA; rfl; rfl; rfl; rfl; rfl; (repeat (first | with_reducible exact Upd.head _ | with_reducible apply Upd.tail)); (first | with_reducible exact big_size | with_reducible exact frac_size); rfl; rfl; rfl; clear K r; intro W K; have r := K.rawS))
  refine (HN.out _ _ _ _ _ _ _ _ _ _ _ (by first | exact Rd.nil | exact K.rda) (by first | exact Rd.nil | exact K.rda) hs1 hs2).mono ?_
  rintro e W' ⟨s3, A3, n3, c3, l3, t3, B3, m3, d3, k3, rfl, ⟨hra, hrb⟩, ho, ⟨hfa, hfb⟩, hb⟩
  have hf3 := Lib.hid (hfa.mono K.1.size)
  have hg3 := Lib.hid (hfb.mono K.1.size)
  replace K := K.retF hb hra hrb hfa hfb
  clear r
  have r := K.rawS
  clear hra hrb hfa hfb hb
  go_wp2_with (first | ((first | (apply K.alloc; rfl; rfl; (first | with_reducible exact big_zero | with_reducible exact frac_zero)) | (apply K.box; rfl; rfl; rfl)); clear K r; intro W b K; have r := K.rawS) | (apply K.storeA; rfl; rfl; rfl; rfl; rfl; (repeat (first | with_reducible exact Upd.head _ | with_reducible apply Upd.tail)); (first | with_reducible exact big_size | with_reducible exact frac_size); rfl; rfl; rfl; clear K r; intro W K; have r := K.rawS))
  have HE := Lib.hid (⟨s3, A3, n3, c3, l3, t3, B3, m3, d3, k3, rfl, ⟨(by first | exact Rd.nil | exact K.rda), (by first | exact Rd.nil | exact K.rda)⟩, ho, ⟨hf3.out, hg3.out⟩, K.1⟩ : FrE w O E (.returned (.tuple #[.agg #[.int .i64 s3, .slice A3 n3 c3, .int .i64 t3, .slice B3 m3 d3], .int .i64 E])) W)
  clear hs1 hs2 ho
  exact bodyPost_ret (v := .tuple #[.agg #[.int .i64 s3, .slice A3 n3 c3, .int .i64 t3, .slice B3 m3 d3], .int .i64 E]) (by simp [results, Try.results42, go_sem, r]) rfl HE.out
def madO (bad : Bool) (x y : Int) : Option Rat := if bad = true then none else newO true x y
def madE (bad : Bool) (y : Int) : Int := if bad = true then 6 else newE true y
set_option maxRecDepth 100000 in
set_option maxHeartbeats 1000000 in
theorem gmade_any (bad : Bool) (x y : Int) (s : Int) (A : Option Addr) (n cap : Nat) (l : List Int) (t : Int) (A' : Option Addr) (n' cap' : Nat) (m : List Int) (w : World) (hl : RdI w w.heap.size A n cap l) (hm : RdI w w.heap.size A' n' cap' m) (h1 : Std s l x) (h2 : Std t m y) (f1 : fits x = true) (f2 : fits y = true) :
    Calls Try.prog 109 #[.agg #[.int .i64 s, .slice A n cap], .agg #[.int .i64 t, .slice A' n' cap'], .bool bad] w (FrE w (madO bad x y) (madE bad y)) := by
  have K := ((St.start w).oldRd hl).oldRd hm
  have r := K.raw
  have Hno := Lib.hid (fun W (c : Int) (h : Below w.heap.size w W) => (⟨0, none, 0, 0, [], 0, none, 0, 0, [], rfl, ⟨Rd.nil, Rd.nil⟩, ⟨rfl, rfl, rfl, rfl⟩, ⟨FrA.none, FrA.none⟩, h⟩ : FrE w none c (.returned (.tuple #[.agg #[.int .i64 0, .slice none 0 0, .int .i64 0, .slice none 0 0], .int .i64 c])) W))
  cases bad
  case true =>
    have e1 : madO true x y = none := if_pos rfl
    have e2 : madE true y = 6 := if_pos rfl
    rw [e1, e2]
    clear e1 e2 h1 h2 f1 f2
    go_enter Try.func109, Try.ntmps109
    go_wp2_with (first | ((first | (apply K.alloc; rfl; rfl; (first | with_reducible exact big_zero | with_reducible exact frac_zero)) | (apply K.box; rfl; rfl; rfl)); clear K r; intro W b K; have r := K.rawS) | (apply K.storeA; rfl; rfl; rfl; rfl; rfl; (repeat (first | with_reducible exact Upd.head _ | with_reducible apply Upd.tail)); (first | with_reducible exact big_size | with_reducible exact frac_size); rfl; rfl; rfl; clear K r; intro W K; have r := K.rawS))
    exact bodyPost_ret (v := .tuple #[.agg #[.int .i64 0, .slice none 0 0, .int .i64 0, .slice none 0 0], .int .i64 6]) (by simp [results, Try.results109, go_sem, r]) rfl (Hno.out _ _ K.1)
  have HN := Lib.hid (fun W hl hm => uNew x y s A n cap l t A' n' cap' m W hl hm h1 h2 f1 f2)
  have e1 : madO false x y = newO true x y := if_neg (by simp)
  have e2 : madE false y = newE true y := if_neg (by simp)
  rw [e1, e2]
  generalize newO true x y = O at *
  generalize newE true y = E at *
  clear e1 e2 h1 h2 f1 f2
  go_enter Try.func109, Try.ntmps109
  go_wp2_with (first | ((first | (apply K.alloc; rfl; rfl; (first | with_reducible exact big_zero | with_reducible exact frac_zero)) | (apply K.box; rfl; rfl; rfl)); clear K r; intro W b K; have r := K.rawS) | (apply K.storeA; rfl; rfl; rfl; rfl; rfl; (repeat (first | with_reducible exact Upd.head _ | with_reducible apply Upd.tail)); (first | with_reducible exact big_size | with_reducible exact frac_size); rfl; rfl; rfl; clear K r; intro W K; have r := K.rawS))
  refine (HN.out _ (by first | exact Rd.nil | exact K.rda) (by first | exact Rd.nil | exact K.rda)).mono ?_
  rintro e W' ⟨s3, A3, n3, c3, l3, t3, B3, m3, d3, k3, rfl, ⟨hra, hrb⟩, ho, ⟨hfa, hfb⟩, hb⟩
  have hf3 := Lib.hid (hfa.mono K.1.size)
  have hg3 := Lib.hid (hfb.mono K.1.size)
  replace K := K.retF hb hra hrb hfa hfb
  clear r
  have r := K.rawS
  clear hra hrb hfa hfb hb
  go_wp2_with (first | ((first | (apply K.alloc; rfl; rfl; (first | with_reducible exact big_zero | with_reducible exact frac_zero)) | (apply K.box; rfl; rfl; rfl)); clear K r; intro W b K; have r := K.rawS) | (apply K.storeA; rfl; rfl; rfl; rfl; rfl; (repeat (first | with_reducible exact Upd.head _ | with_reducible apply Upd.tail)); (first | with_reducible exact big_size | with_reducible exact frac_size); rfl; rfl; rfl; clear K r; intro W K; have r := K.rawS))
  have HE := Lib.hid (show FrE w O E (.returned (.tuple #[.agg #[.int .i64 s3, .slice A3 n3 c3, .int .i64 t3, .slice B3 m3 d3], .int .i64 E])) W from ⟨s3, A3, n3, c3, l3, t3, B3, m3, d3, k3, rfl, ⟨(by first | exact Rd.nil | exact K.rda), (by first | exact Rd.nil | exact K.rda)⟩, ho, ⟨hf3.out, hg3.out⟩, K.1⟩)
  clear ho
  exact bodyPost_ret (v := .tuple #[.agg #[.int .i64 s3, .slice A3 n3 c3, .int .i64 t3, .slice B3 m3 d3], .int .i64 E]) (by simp [results, Try.results109, go_sem, r]) rfl HE.out
end Go.Proofs.Ytdlcglndhhndpaa

/- Walk over Mul of the reference of layer 5. Conditions stand in each theorem. -/
namespace Go.Proofs.Ytdlcglndhhndpaa
open Go.RowKit
set_option linter.unusedVariables false
set_option linter.unusedSimpArgs false

theorem six_ne : ((6 : Int) != 0) = true := rfl
theorem nil_ne : ((0 : Int) != 0) = false := rfl
theorem mad_bad {x y : Int} {z : Rat} : madO true x y = binO true false z ∧ madE true y = binE true false := ⟨rfl, rfl⟩
theorem mad_ok {x y : Int} {z : Rat} (hy : y ≠ 0) (hz : Rat.divInt x y = z) : madO false x y = binO true true z ∧ madE false y = binE true true := by
  refine ⟨?_, ?_⟩
  · unfold madO; rw [if_neg (by simp), newO_yes hy, hz]; exact (if_pos ⟨rfl, rfl⟩).symm
  · unfold madE; rw [if_neg (by simp), newE_yes hy]; rfl
theorem mad_mul (x y : Rat) (b : Bool) (hb : b = ((errZ true (x.num * y.num) != 0) || (errZ true ((x.den : Int) * y.den) != 0))) : madO b (resZ true (x.num * y.num)) (resZ true ((x.den : Int) * y.den)) = binO true (mulK x y) (x * y) ∧ madE b (resZ true ((x.den : Int) * y.den)) = binE true (mulK x y) := by
  unfold mulK
  cases k1 : fits (x.num * y.num)
  · rw [errZ_f k1, six_ne, Bool.true_or] at hb
    rw [hb, Bool.false_and]; exact mad_bad
  cases k2 : fits ((x.den : Int) * y.den)
  · rw [errZ_f k2, six_ne, Bool.or_true] at hb
    rw [hb, Bool.true_and]; exact mad_bad
  rw [errZ_t k1, errZ_t k2, nil_ne] at hb
  rw [hb, resZ_t k1, resZ_t k2]
  exact mad_ok (Int.ne_of_gt (den_mul_pos x y)) (rat_mul x y)
theorem mad_add (x y : Rat) (b : Bool) (hb : b = ((((errZ true (x.num * y.den) != 0) || (errZ true (y.num * x.den) != 0)) || (errZ true ((x.den : Int) * y.den) != 0)) || (errZ true (resZ true (x.num * y.den) + resZ true (y.num * x.den)) != 0))) : madO b (resZ true (resZ true (x.num * y.den) + resZ true (y.num * x.den))) (resZ true ((x.den : Int) * y.den)) = binO true (addK x y) (x + y) ∧ madE b (resZ true ((x.den : Int) * y.den)) = binE true (addK x y) := by
  unfold addK sumK
  cases k1 : fits (x.num * y.den)
  · rw [errZ_f k1, six_ne, Bool.true_or, Bool.true_or, Bool.true_or] at hb
    rw [hb, Bool.false_and, Bool.false_and]; exact mad_bad
  cases k2 : fits (y.num * x.den)
  · rw [errZ_f k2, six_ne, Bool.or_true, Bool.true_or, Bool.true_or] at hb
    rw [hb, Bool.false_and, Bool.and_false, Bool.false_and]; exact mad_bad
  cases k3 : fits ((x.den : Int) * y.den)
  · rw [errZ_f k3, six_ne, Bool.or_true, Bool.true_or] at hb
    rw [hb, Bool.and_false]; exact mad_bad
  rw [resZ_t k1, resZ_t k2] at hb ⊢
  cases k4 : fits (x.num * y.den + y.num * x.den)
  · rw [errZ_f k4, six_ne, Bool.or_true] at hb
    rw [hb, Bool.and_false, Bool.and_false, Bool.false_and]; exact mad_bad
  rw [errZ_t k1, errZ_t k2, errZ_t k3, errZ_t k4, nil_ne] at hb
  rw [hb, resZ_t k4, resZ_t k3]
  exact mad_ok (Int.ne_of_gt (den_mul_pos x y)) (rat_add x y)
set_option maxRecDepth 100000 in
set_option maxHeartbeats 2000000 in
theorem gMul_any (s1 t1 s2 t2 : Int) (A1 B1 A2 B2 : Option Addr) (n1 c1 m1 d1 n2 c2 m2 d2 : Nat) (l1 k1 l2 k2 : List Int) (w : World) (r1 : RdI w w.heap.size A1 n1 c1 l1) (q1 : RdI w w.heap.size B1 m1 d1 k1) (r2 : RdI w w.heap.size A2 n2 c2 l2) (q2 : RdI w w.heap.size B2 m2 d2 k2) :
    Calls Try.prog 73 #[.agg #[.int .i64 s1, .slice A1 n1 c1, .int .i64 t1, .slice B1 m1 d1], .agg #[.int .i64 s2, .slice A2 n2 c2, .int .i64 t2, .slice B2 m2 d2]] w (FrE w (binO (rightF s1 l1 t1 k1 && rightF s2 l2 t2 k2) (mulK (ratF s1 l1 t1 k1) (ratF s2 l2 t2 k2)) (ratF s1 l1 t1 k1 * ratF s2 l2 t2 k2)) (binE (rightF s1 l1 t1 k1 && rightF s2 l2 t2 k2) (mulK (ratF s1 l1 t1 k1) (ratF s2 l2 t2 k2)))) := by
  have K := ((((St.start w).oldRd r1).oldRd q1).oldRd r2).oldRd q2
  have r := K.raw
  have HR1 := Lib.hid (fun W h g => gRight_any s1 t1 A1 B1 n1 c1 m1 d1 l1 k1 W h g)
  have HR2 := Lib.hid (fun W h g => gRight_any s2 t2 A2 B2 n2 c2 m2 d2 l2 k2 W h g)
  have Hno := Lib.hid (fun W (c : Int) (h : Below w.heap.size w W) => (⟨0, none, 0, 0, [], 0, none, 0, 0, [], rfl, ⟨Rd.nil, Rd.nil⟩, ⟨rfl, rfl, rfl, rfl⟩, ⟨FrA.none, FrA.none⟩, h⟩ : FrE w none c (.returned (.tuple #[.agg #[.int .i64 0, .slice none 0 0, .int .i64 0, .slice none 0 0], .int .i64 c])) W))
  cases h1 : rightF s1 l1 t1 k1
  · rw [h1] at HR1
    rw [Bool.false_and, binO_no, binE_no]
    clear h1
    go_enter Try.func73, Try.ntmps73
    go_wp2_with (first | ((first | (apply K.alloc; rfl; rfl; (first | with_reducible exact big_zero | with_reducible exact frac_zero)) | (apply K.box; rfl; rfl; rfl)); clear K r; intro W b K; have r := K.rawS) | (apply K.storeA; rfl; rfl; rfl; rfl; rfl; (repeat (first | with_reducible exact Upd.head _ | with_reducible apply Upd.tail)); (first | with_reducible exact big_size | with_reducible exact frac_size); rfl; rfl; rfl; clear K r; intro W K; have r := K.rawS))
    refine (HR1.out _ (by first | exact Rd.nil | exact K.rda) (by first | exact Rd.nil | exact K.rda)).mono ?_
    rintro e W' ⟨rfl, hb⟩
    replace K := K.keep hb
    clear r
    have r := K.rawS
    clear hb
    go_wp2_with (first | ((first | (apply K.alloc; rfl; rfl; (first | with_reducible exact big_zero | with_reducible exact frac_zero)) | (apply K.box; rfl; rfl; rfl)); clear K r; intro W b K; have r := K.rawS) | (apply K.storeA; rfl; rfl; rfl; rfl; rfl; (repeat (first | with_reducible exact Upd.head _ | with_reducible apply Upd.tail)); (first | with_reducible exact big_size | with_reducible exact frac_size); rfl; rfl; rfl; clear K r; intro W K; have r := K.rawS))
    exact bodyPost_ret (v := .tuple #[.agg #[.int .i64 0, .slice none 0 0, .int .i64 0, .slice none 0 0], .int .i64 1]) (by simp [results, Try.results73, go_sem, r]) rfl (Hno.out _ _ K.1)
  cases h2 : rightF s2 l2 t2 k2
  · rw [h1] at HR1
    rw [h2] at HR2
    rw [Bool.true_and, binO_no, binE_no]
    clear h1 h2
    go_enter Try.func73, Try.ntmps73
    go_wp2_with (first | ((first | (apply K.alloc; rfl; rfl; (first | with_reducible exact big_zero | with_reducible exact frac_zero)) | (apply K.box; rfl; rfl; rfl)); clear K r; intro W b K; have r := K.rawS) | (apply K.storeA; rfl; rfl; rfl; rfl; rfl; (repeat (first | with_reducible exact Upd.head _ | with_reducible apply Upd.tail)); (first | with_reducible exact big_size | with_reducible exact frac_size); rfl; rfl; rfl; clear K r; intro W K; have r := K.rawS))
    refine (HR1.out _ (by first | exact Rd.nil | exact K.rda) (by first | exact Rd.nil | exact K.rda)).mono ?_
    rintro e W' ⟨rfl, hb⟩
    replace K := K.keep hb
    clear r
    have r := K.rawS
    clear hb
    go_wp2_with (first | ((first | (apply K.alloc; rfl; rfl; (first | with_reducible exact big_zero | with_reducible exact frac_zero)) | (apply K.box; rfl; rfl; rfl)); clear K r; intro W b K; have r := K.rawS) | (apply K.storeA; rfl; rfl; rfl; rfl; rfl; (repeat (first | with_reducible exact Upd.head _ | with_reducible apply Upd.tail)); (first | with_reducible exact big_size | with_reducible exact frac_size); rfl; rfl; rfl; clear K r; intro W K; have r := K.rawS))
    refine (HR2.out _ (by first | exact Rd.nil | exact K.rda) (by first | exact Rd.nil | exact K.rda)).mono ?_
    rintro e W' ⟨rfl, hb⟩
    replace K := K.keep hb
    clear r
    have r := K.rawS
    clear hb
    go_wp2_with (first | ((first | (apply K.alloc; rfl; rfl; (first | with_reducible exact big_zero | with_reducible exact frac_zero)) | (apply K.box; rfl; rfl; rfl)); clear K r; intro W b K; have r := K.rawS) | (apply K.storeA; rfl; rfl; rfl; rfl; rfl; (repeat (first | with_reducible exact Upd.head _ | with_reducible apply Upd.tail)); (first | with_reducible exact big_size | with_reducible exact frac_size); rfl; rfl; rfl; clear K r; intro W K; have r := K.rawS))
    exact bodyPost_ret (v := .tuple #[.agg #[.int .i64 0, .slice none 0 0, .int .i64 0, .slice none 0 0], .int .i64 1]) (by simp [results, Try.results73, go_sem, r]) rfl (Hno.out _ _ K.1)
  rw [h1] at HR1
  rw [h2] at HR2
  obtain ⟨⟨S1, T1⟩, F1⟩ := rightF_std h1
  obtain ⟨⟨S2, T2⟩, F2⟩ := rightF_std h2
  have a1 := fitsF_num F1
  have a2 := fitsF_den F1
  have a3 := fitsF_num F2
  have a4 := fitsF_den F2
  rw [Bool.true_and]
  generalize ratF s1 l1 t1 k1 = x at *
  generalize ratF s2 l2 t2 k2 = y at *
  have HB := Lib.hid (mad_mul x y)
  have HM1 := Lib.hid (fun W hl hm => uMul x.num y.num s1 A1 n1 c1 l1 s2 A2 n2 c2 l2 W hl hm S1 S2 a1 a3)
  have HM := Lib.hid (fun W hl hm => uMul x.den y.den t1 B1 m1 d1 k1 t2 B2 m2 d2 k2 W hl hm T1 T2 a2 a4)
  have V1 := fits_resZ true (x.num * y.num)
  have V2 := fits_resZ true ((x.den : Int) * y.den)
  generalize errZ true (x.num * y.num) = E1 at *
  generalize resZ true (x.num * y.num) = Z1 at *
  generalize errZ true ((x.den : Int) * y.den) = E2 at *
  generalize resZ true ((x.den : Int) * y.den) = Z2 at *
  generalize binO true (mulK x y) (x * y) = O at *
  generalize binE true (mulK x y) = E at *
  clear S1 S2 T1 T2 F1 F2 a1 a2 a3 a4 h1 h2
  cases hd1 : (E1 != 0) <;> cases hd2 : (E2 != 0)
  · obtain ⟨z1, z2⟩ := HB.out false (by simp [hd1, hd2])
    have HQ := Lib.hid (fun s A n cap l t A' n' cap' m W hl hm e1 e2 => (gmade_any false Z1 Z2 s A n cap l t A' n' cap' m W hl hm e1 e2 V1 V2))
    rw [z1, z2] at HQ
    clear z1 z2 HB V1 V2
    go_enter Try.func73, Try.ntmps73
    go_wp2_with (first | ((first | (apply K.alloc; rfl; rfl; (first | with_reducible exact big_zero | with_reducible exact frac_zero)) | (apply K.box; rfl; rfl; rfl)); clear K r; intro W b K; have r := K.rawS) | (apply K.storeA; rfl; rfl; rfl; rfl; rfl; (repeat (first | with_reducible exact Upd.head _ | with_reducible apply Upd.tail)); (first | with_reducible exact big_size | with_reducible exact frac_size); rfl; rfl; rfl; clear K r; intro W K; have r := K.rawS))
    refine (HR1.out _ (by first | exact Rd.nil | exact K.rda) (by first | exact Rd.nil | exact K.rda)).mono ?_
    rintro e W' ⟨rfl, hb⟩
    replace K := K.keep hb
    clear r
    have r := K.rawS
    clear hb
    go_wp2_with (first | ((first | (apply K.alloc; rfl; rfl; (first | with_reducible exact big_zero | with_reducible exact frac_zero)) | (apply K.box; rfl; rfl; rfl)); clear K r; intro W b K; have r := K.rawS) | (apply K.storeA; rfl; rfl; rfl; rfl; rfl; (repeat (first | with_reducible exact Upd.head _ | with_reducible apply Upd.tail)); (first | with_reducible exact big_size | with_reducible exact frac_size); rfl; rfl; rfl; clear K r; intro W K; have r := K.rawS))
    refine (HR2.out _ (by first | exact Rd.nil | exact K.rda) (by first | exact Rd.nil | exact K.rda)).mono ?_
    rintro e W' ⟨rfl, hb⟩
    replace K := K.keep hb
    clear r
    have r := K.rawS
    clear hb
    go_wp2_with (first | ((first | (apply K.alloc; rfl; rfl; (first | with_reducible exact big_zero | with_reducible exact frac_zero)) | (apply K.box; rfl; rfl; rfl)); clear K r; intro W b K; have r := K.rawS) | (apply K.storeA; rfl; rfl; rfl; rfl; rfl; (repeat (first | with_reducible exact Upd.head _ | with_reducible apply Upd.tail)); (first | with_reducible exact big_size | with_reducible exact frac_size); rfl; rfl; rfl; clear K r; intro W K; have r := K.rawS))
    refine (HM1.out _ (by first | exact Rd.nil | exact K.rda) (by first | exact Rd.nil | exact K.rda)).mono ?_
    rintro e W' ⟨s5, A5, n5, c5, l5, rfl, hr, hs5, hf, hb⟩
    have hf5 := Lib.hid (hf.mono K.1.size)
    replace K := K.ret hb hr hf
    clear r
    have r := K.rawS
    clear hr hf hb
    go_wp2_with (first | ((first | (apply K.alloc; rfl; rfl; (first | with_reducible exact big_zero | with_reducible exact frac_zero)) | (apply K.box; rfl; rfl; rfl)); clear K r; intro W b K; have r := K.rawS) | (apply K.storeA; rfl; rfl; rfl; rfl; rfl; (repeat (first | with_reducible exact Upd.head _ | with_reducible apply Upd.tail)); (first | with_reducible exact big_size | with_reducible exact frac_size); rfl; rfl; rfl; clear K r; intro W K; have r := K.rawS))
    refine (HM.out _ (by first | exact Rd.nil | exact K.rda) (by first | exact Rd.nil | exact K.rda)).mono ?_
    rintro e W' ⟨s6, A6, n6, c6, l6, rfl, hr, hs6, hf, hb⟩
    have hf6 := Lib.hid (hf.mono K.1.size)
    replace K := K.ret hb hr hf
    clear r
    have r := K.rawS
    clear hr hf hb
    go_wp2_with (first | ((first | (apply K.alloc; rfl; rfl; (first | with_reducible exact big_zero | with_reducible exact frac_zero)) | (apply K.box; rfl; rfl; rfl)); clear K r; intro W b K; have r := K.rawS) | (apply K.storeA; rfl; rfl; rfl; rfl; rfl; (repeat (first | with_reducible exact Upd.head _ | with_reducible apply Upd.tail)); (first | with_reducible exact big_size | with_reducible exact frac_size); rfl; rfl; rfl; clear K r; intro W K; have r := K.rawS))
    refine (HQ.out _ _ _ _ _ _ _ _ _ _ _ (by first | exact Rd.nil | exact K.rda) (by first | exact Rd.nil | exact K.rda) hs5 hs6).mono ?_
    clear hs5 hs6
    rintro e W' ⟨s7, A7, n7, c7, l7, t7, B7, m7, d7, k7, rfl, ⟨hra, hrb⟩, ho, ⟨hfa, hfb⟩, hb⟩
    have hf7 := Lib.hid (hfa.mono K.1.size)
    have hg7 := Lib.hid (hfb.mono K.1.size)
    replace K := K.retF hb hra hrb hfa hfb
    clear r
    have r := K.rawS
    clear hra hrb hfa hfb hb
    go_wp2_with (first | ((first | (apply K.alloc; rfl; rfl; (first | with_reducible exact big_zero | with_reducible exact frac_zero)) | (apply K.box; rfl; rfl; rfl)); clear K r; intro W b K; have r := K.rawS) | (apply K.storeA; rfl; rfl; rfl; rfl; rfl; (repeat (first | with_reducible exact Upd.head _ | with_reducible apply Upd.tail)); (first | with_reducible exact big_size | with_reducible exact frac_size); rfl; rfl; rfl; clear K r; intro W K; have r := K.rawS))
    have HE := Lib.hid (⟨s7, A7, n7, c7, l7, t7, B7, m7, d7, k7, rfl, ⟨(by first | exact Rd.nil | exact K.rda), (by first | exact Rd.nil | exact K.rda)⟩, ho, ⟨hf7.out, hg7.out⟩, K.1⟩ : FrE w O E (.returned (.tuple #[.agg #[.int .i64 s7, .slice A7 n7 c7, .int .i64 t7, .slice B7 m7 d7], .int .i64 E])) W)
    clear ho
    exact bodyPost_ret (v := .tuple #[.agg #[.int .i64 s7, .slice A7 n7 c7, .int .i64 t7, .slice B7 m7 d7], .int .i64 E]) (by simp [results, Try.results73, go_sem, r]) rfl HE.out
  · obtain ⟨z1, z2⟩ := HB.out true (by simp [hd1, hd2])
    have HQ := Lib.hid (fun s A n cap l t A' n' cap' m W hl hm e1 e2 => (gmade_any true Z1 Z2 s A n cap l t A' n' cap' m W hl hm e1 e2 V1 V2))
    rw [z1, z2] at HQ
    clear z1 z2 HB V1 V2
    go_enter Try.func73, Try.ntmps73
    go_wp2_with (first | ((first | (apply K.alloc; rfl; rfl; (first | with_reducible exact big_zero | with_reducible exact frac_zero)) | (apply K.box; rfl; rfl; rfl)); clear K r; intro W b K; have r := K.rawS) | (apply K.storeA; rfl; rfl; rfl; rfl; rfl; (repeat (first | with_reducible exact Upd.head _ | with_reducible apply Upd.tail)); (first | with_reducible exact big_size | with_reducible exact frac_size); rfl; rfl; rfl; clear K r; intro W K; have r := K.rawS))
    refine (HR1.out _ (by first | exact Rd.nil | exact K.rda) (by first | exact Rd.nil | exact K.rda)).mono ?_
    rintro e W' ⟨rfl, hb⟩
    replace K := K.keep hb
    clear r
    have r := K.rawS
    clear hb
    go_wp2_with (first | ((first | (apply K.alloc; rfl; rfl; (first | with_reducible exact big_zero | with_reducible exact frac_zero)) | (apply K.box; rfl; rfl; rfl)); clear K r; intro W b K; have r := K.rawS) | (apply K.storeA; rfl; rfl; rfl; rfl; rfl; (repeat (first | with_reducible exact Upd.head _ | with_reducible apply Upd.tail)); (first | with_reducible exact big_size | with_reducible exact frac_size); rfl; rfl; rfl; clear K r; intro W K; have r := K.rawS))
    refine (HR2.out _ (by first | exact Rd.nil | exact K.rda) (by first | exact Rd.nil | exact K.rda)).mono ?_
    rintro e W' ⟨rfl, hb⟩
    replace K := K.keep hb
    clear r
    have r := K.rawS
    clear hb
    go_wp2_with (first | ((first | (apply K.alloc; rfl; rfl; (first | with_reducible exact big_zero | with_reducible exact frac_zero)) | (apply K.box; rfl; rfl; rfl)); clear K r; intro W b K; have r := K.rawS) | (apply K.storeA; rfl; rfl; rfl; rfl; rfl; (repeat (first | with_reducible exact Upd.head _ | with_reducible apply Upd.tail)); (first | with_reducible exact big_size | with_reducible exact frac_size); rfl; rfl; rfl; clear K r; intro W K; have r := K.rawS))
    refine (HM1.out _ (by first | exact Rd.nil | exact K.rda) (by first | exact Rd.nil | exact K.rda)).mono ?_
    rintro e W' ⟨s5, A5, n5, c5, l5, rfl, hr, hs5, hf, hb⟩
    have hf5 := Lib.hid (hf.mono K.1.size)
    replace K := K.ret hb hr hf
    clear r
    have r := K.rawS
    clear hr hf hb
    go_wp2_with (first | ((first | (apply K.alloc; rfl; rfl; (first | with_reducible exact big_zero | with_reducible exact frac_zero)) | (apply K.box; rfl; rfl; rfl)); clear K r; intro W b K; have r := K.rawS) | (apply K.storeA; rfl; rfl; rfl; rfl; rfl; (repeat (first | with_reducible exact Upd.head _ | with_reducible apply Upd.tail)); (first | with_reducible exact big_size | with_reducible exact frac_size); rfl; rfl; rfl; clear K r; intro W K; have r := K.rawS))
    refine (HM.out _ (by first | exact Rd.nil | exact K.rda) (by first | exact Rd.nil | exact K.rda)).mono ?_
    rintro e W' ⟨s6, A6, n6, c6, l6, rfl, hr, hs6, hf, hb⟩
    have hf6 := Lib.hid (hf.mono K.1.size)
    replace K := K.ret hb hr hf
    clear r
    have r := K.rawS
    clear hr hf hb
    go_wp2_with (first | ((first | (apply K.alloc; rfl; rfl; (first | with_reducible exact big_zero | with_reducible exact frac_zero)) | (apply K.box; rfl; rfl; rfl)); clear K r; intro W b K; have r := K.rawS) | (apply K.storeA; rfl; rfl; rfl; rfl; rfl; (repeat (first | with_reducible exact Upd.head _ | with_reducible apply Upd.tail)); (first | with_reducible exact big_size | with_reducible exact frac_size); rfl; rfl; rfl; clear K r; intro W K; have r := K.rawS))
    refine (HQ.out _ _ _ _ _ _ _ _ _ _ _ (by first | exact Rd.nil | exact K.rda) (by first | exact Rd.nil | exact K.rda) hs5 hs6).mono ?_
    clear hs5 hs6
    rintro e W' ⟨s7, A7, n7, c7, l7, t7, B7, m7, d7, k7, rfl, ⟨hra, hrb⟩, ho, ⟨hfa, hfb⟩, hb⟩
    have hf7 := Lib.hid (hfa.mono K.1.size)
    have hg7 := Lib.hid (hfb.mono K.1.size)
    replace K := K.retF hb hra hrb hfa hfb
    clear r
    have r := K.rawS
    clear hra hrb hfa hfb hb
    go_wp2_with (first | ((first | (apply K.alloc; rfl; rfl; (first | with_reducible exact big_zero | with_reducible exact frac_zero)) | (apply K.box; rfl; rfl; rfl)); clear K r; intro W b K; have r := K.rawS) | (apply K.storeA; rfl; rfl; rfl; rfl; rfl; (repeat (first | with_reducible exact Upd.head _ | with_reducible apply Upd.tail)); (first | with_reducible exact big_size | with_reducible exact frac_size); rfl; rfl; rfl; clear K r; intro W K; have r := K.rawS))
    have HE := Lib.hid (⟨s7, A7, n7, c7, l7, t7, B7, m7, d7, k7, rfl, ⟨(by first | exact Rd.nil | exact K.rda), (by first | exact Rd.nil | exact K.rda)⟩, ho, ⟨hf7.out, hg7.out⟩, K.1⟩ : FrE w O E (.returned (.tuple #[.agg #[.int .i64 s7, .slice A7 n7 c7, .int .i64 t7, .slice B7 m7 d7], .int .i64 E])) W)
    clear ho
    exact bodyPost_ret (v := .tuple #[.agg #[.int .i64 s7, .slice A7 n7 c7, .int .i64 t7, .slice B7 m7 d7], .int .i64 E]) (by simp [results, Try.results73, go_sem, r]) rfl HE.out
  · obtain ⟨z1, z2⟩ := HB.out true (by simp [hd1, hd2])
    have HQ := Lib.hid (fun s A n cap l t A' n' cap' m W hl hm e1 e2 => (gmade_any true Z1 Z2 s A n cap l t A' n' cap' m W hl hm e1 e2 V1 V2))
    rw [z1, z2] at HQ
    clear z1 z2 HB V1 V2
    go_enter Try.func73, Try.ntmps73
    go_wp2_with (first | ((first | (apply K.alloc; rfl; rfl; (first | with_reducible exact big_zero | with_reducible exact frac_zero)) | (apply K.box; rfl; rfl; rfl)); clear K r; intro W b K; have r := K.rawS) | (apply K.storeA; rfl; rfl; rfl; rfl; rfl; (repeat (first | with_reducible exact Upd.head _ | with_reducible apply Upd.tail)); (first | with_reducible exact big_size | with_reducible exact frac_size); rfl; rfl; rfl; clear K r; intro W K; have r := K.rawS))
    refine (HR1.out _ (by first | exact Rd.nil | exact K.rda) (by first | exact Rd.nil | exact K.rda)).mono ?_
    rintro e W' ⟨rfl, hb⟩
    replace K := K.keep hb
    clear r
    have r := K.rawS
    clear hb
    go_wp2_with (first | ((first | (apply K.alloc; rfl; rfl; (first | with_reducible exact big_zero | with_reducible exact frac_zero)) | (apply K.box; rfl; rfl; rfl)); clear K r; intro W b K; have r := K.rawS) | (apply K.storeA; rfl; rfl; rfl; rfl; rfl; (repeat (first | with_reducible exact Upd.head _ | with_reducible apply Upd.tail)); (first | with_reducible exact big_size | with_reducible exact frac_size); rfl; rfl; rfl; clear K r; intro W K; have r := K.rawS))
    refine (HR2.out _ (by first | exact Rd.nil | exact K.rda) (by first | exact Rd.nil | exact K.rda)).mono ?_
    rintro e W' ⟨rfl, hb⟩
    replace K := K.keep hb
    clear r
    have r := K.rawS
    clear hb
    go_wp2_with (first | ((first | (apply K.alloc; rfl; rfl; (first | with_reducible exact big_zero | with_reducible exact frac_zero)) | (apply K.box; rfl; rfl; rfl)); clear K r; intro W b K; have r := K.rawS) | (apply K.storeA; rfl; rfl; rfl; rfl; rfl; (repeat (first | with_reducible exact Upd.head _ | with_reducible apply Upd.tail)); (first | with_reducible exact big_size | with_reducible exact frac_size); rfl; rfl; rfl; clear K r; intro W K; have r := K.rawS))
    refine (HM1.out _ (by first | exact Rd.nil | exact K.rda) (by first | exact Rd.nil | exact K.rda)).mono ?_
    rintro e W' ⟨s5, A5, n5, c5, l5, rfl, hr, hs5, hf, hb⟩
    have hf5 := Lib.hid (hf.mono K.1.size)
    replace K := K.ret hb hr hf
    clear r
    have r := K.rawS
    clear hr hf hb
    go_wp2_with (first | ((first | (apply K.alloc; rfl; rfl; (first | with_reducible exact big_zero | with_reducible exact frac_zero)) | (apply K.box; rfl; rfl; rfl)); clear K r; intro W b K; have r := K.rawS) | (apply K.storeA; rfl; rfl; rfl; rfl; rfl; (repeat (first | with_reducible exact Upd.head _ | with_reducible apply Upd.tail)); (first | with_reducible exact big_size | with_reducible exact frac_size); rfl; rfl; rfl; clear K r; intro W K; have r := K.rawS))
    refine (HM.out _ (by first | exact Rd.nil | exact K.rda) (by first | exact Rd.nil | exact K.rda)).mono ?_
    rintro e W' ⟨s6, A6, n6, c6, l6, rfl, hr, hs6, hf, hb⟩
    have hf6 := Lib.hid (hf.mono K.1.size)
    replace K := K.ret hb hr hf
    clear r
    have r := K.rawS
    clear hr hf hb
    go_wp2_with (first | ((first | (apply K.alloc; rfl; rfl; (first | with_reducible exact big_zero | with_reducible exact frac_zero)) | (apply K.box; rfl; rfl; rfl)); clear K r; intro W b K; have r := K.rawS) | (apply K.storeA; rfl; rfl; rfl; rfl; rfl; (repeat (first | with_reducible exact Upd.head _ | with_reducible apply Upd.tail)); (first | with_reducible exact big_size | with_reducible exact frac_size); rfl; rfl; rfl; clear K r; intro W K; have r := K.rawS))
    refine (HQ.out _ _ _ _ _ _ _ _ _ _ _ (by first | exact Rd.nil | exact K.rda) (by first | exact Rd.nil | exact K.rda) hs5 hs6).mono ?_
    clear hs5 hs6
    rintro e W' ⟨s7, A7, n7, c7, l7, t7, B7, m7, d7, k7, rfl, ⟨hra, hrb⟩, ho, ⟨hfa, hfb⟩, hb⟩
    have hf7 := Lib.hid (hfa.mono K.1.size)
    have hg7 := Lib.hid (hfb.mono K.1.size)
    replace K := K.retF hb hra hrb hfa hfb
    clear r
    have r := K.rawS
    clear hra hrb hfa hfb hb
    go_wp2_with (first | ((first | (apply K.alloc; rfl; rfl; (first | with_reducible exact big_zero | with_reducible exact frac_zero)) | (apply K.box; rfl; rfl; rfl)); clear K r; intro W b K; have r := K.rawS) | (apply K.storeA; rfl; rfl; rfl; rfl; rfl; (repeat (first | with_reducible exact Upd.head _ | with_reducible apply Upd.tail)); (first | with_reducible exact big_size | with_reducible exact frac_size); rfl; rfl; rfl; clear K r; intro W K; have r := K.rawS))
    have HE := Lib.hid (⟨s7, A7, n7, c7, l7, t7, B7, m7, d7, k7, rfl, ⟨(by first | exact Rd.nil | exact K.rda), (by first | exact Rd.nil | exact K.rda)⟩, ho, ⟨hf7.out, hg7.out⟩, K.1⟩ : FrE w O E (.returned (.tuple #[.agg #[.int .i64 s7, .slice A7 n7 c7, .int .i64 t7, .slice B7 m7 d7], .int .i64 E])) W)
    clear ho
    exact bodyPost_ret (v := .tuple #[.agg #[.int .i64 s7, .slice A7 n7 c7, .int .i64 t7, .slice B7 m7 d7], .int .i64 E]) (by simp [results, Try.results73, go_sem, r]) rfl HE.out
  · obtain ⟨z1, z2⟩ := HB.out true (by simp [hd1, hd2])
    have HQ := Lib.hid (fun s A n cap l t A' n' cap' m W hl hm e1 e2 => (gmade_any true Z1 Z2 s A n cap l t A' n' cap' m W hl hm e1 e2 V1 V2))
    rw [z1, z2] at HQ
    clear z1 z2 HB V1 V2
    go_enter Try.func73, Try.ntmps73
    go_wp2_with (first | ((first | (apply K.alloc; rfl; rfl; (first | with_reducible exact big_zero | with_reducible exact frac_zero)) | (apply K.box; rfl; rfl; rfl)); clear K r; intro W b K; have r := K.rawS) | (apply K.storeA; rfl; rfl; rfl; rfl; rfl; (repeat (first | with_reducible exact Upd.head _ | with_reducible apply Upd.tail)); (first | with_reducible exact big_size | with_reducible exact frac_size); rfl; rfl; rfl; clear K r; intro W K; have r := K.rawS))
    refine (HR1.out _ (by first | exact Rd.nil | exact K.rda) (by first | exact Rd.nil | exact K.rda)).mono ?_
    rintro e W' ⟨rfl, hb⟩
    replace K := K.keep hb
    clear r
    have r := K.rawS
    clear hb
    go_wp2_with (first | ((first | (apply K.alloc; rfl; rfl; (first | with_reducible exact big_zero | with_reducible exact frac_zero)) | (apply K.box; rfl; rfl; rfl)); clear K r; intro W b K; have r := K.rawS) | (apply K.storeA; rfl; rfl; rfl; rfl; rfl; (repeat (first | with_reducible exact Upd.head _ | with_reducible apply Upd.tail)); (first | with_reducible exact big_size | with_reducible exact frac_size); rfl; rfl; rfl; clear K r; intro W K; have r := K.rawS))
    refine (HR2.out _ (by first | exact Rd.nil | exact K.rda) (by first | exact Rd.nil | exact K.rda)).mono ?_
    rintro e W' ⟨rfl, hb⟩
    replace K := K.keep hb
    clear r
    have r := K.rawS
    clear hb
    go_wp2_with (first | ((first | (apply K.alloc; rfl; rfl; (first | with_reducible exact big_zero | with_reducible exact frac_zero)) | (apply K.box; rfl; rfl; rfl)); clear K r; intro W b K; have r := K.rawS) | (apply K.storeA; rfl; rfl; rfl; rfl; rfl; (repeat (first | with_reducible exact Upd.head _ | with_reducible apply Upd.tail)); (first | with_reducible exact big_size | with_reducible exact frac_size); rfl; rfl; rfl; clear K r; intro W K; have r := K.rawS))
    refine (HM1.out _ (by first | exact Rd.nil | exact K.rda) (by first | exact Rd.nil | exact K.rda)).mono ?_
    rintro e W' ⟨s5, A5, n5, c5, l5, rfl, hr, hs5, hf, hb⟩
    have hf5 := Lib.hid (hf.mono K.1.size)
    replace K := K.ret hb hr hf
    clear r
    have r := K.rawS
    clear hr hf hb
    go_wp2_with (first | ((first | (apply K.alloc; rfl; rfl; (first | with_reducible exact big_zero | with_reducible exact frac_zero)) | (apply K.box; rfl; rfl; rfl)); clear K r; intro W b K; have r := K.rawS) | (apply K.storeA; rfl; rfl; rfl; rfl; rfl; (repeat (first | with_reducible exact Upd.head _ | with_reducible apply Upd.tail)); (first | with_reducible exact big_size | with_reducible exact frac_size); rfl; rfl; rfl; clear K r; intro W K; have r := K.rawS))
    refine (HM.out _ (by first | exact Rd.nil | exact K.rda) (by first | exact Rd.nil | exact K.rda)).mono ?_
    rintro e W' ⟨s6, A6, n6, c6, l6, rfl, hr, hs6, hf, hb⟩
    have hf6 := Lib.hid (hf.mono K.1.size)
    replace K := K.ret hb hr hf
    clear r
    have r := K.rawS
    clear hr hf hb
    go_wp2_with (first | ((first | (apply K.alloc; rfl; rfl; (first | with_reducible exact big_zero | with_reducible exact frac_zero)) | (apply K.box; rfl; rfl; rfl)); clear K r; intro W b K; have r := K.rawS) | (apply K.storeA; rfl; rfl; rfl; rfl; rfl; (repeat (first | with_reducible exact Upd.head _ | with_reducible apply Upd.tail)); (first | with_reducible exact big_size | with_reducible exact frac_size); rfl; rfl; rfl; clear K r; intro W K; have r := K.rawS))
    refine (HQ.out _ _ _ _ _ _ _ _ _ _ _ (by first | exact Rd.nil | exact K.rda) (by first | exact Rd.nil | exact K.rda) hs5 hs6).mono ?_
    clear hs5 hs6
    rintro e W' ⟨s7, A7, n7, c7, l7, t7, B7, m7, d7, k7, rfl, ⟨hra, hrb⟩, ho, ⟨hfa, hfb⟩, hb⟩
    have hf7 := Lib.hid (hfa.mono K.1.size)
    have hg7 := Lib.hid (hfb.mono K.1.size)
    replace K := K.retF hb hra hrb hfa hfb
    clear r
    have r := K.rawS
    clear hra hrb hfa hfb hb
    go_wp2_with (first | ((first | (apply K.alloc; rfl; rfl; (first | with_reducible exact big_zero | with_reducible exact frac_zero)) | (apply K.box; rfl; rfl; rfl)); clear K r; intro W b K; have r := K.rawS) | (apply K.storeA; rfl; rfl; rfl; rfl; rfl; (repeat (first | with_reducible exact Upd.head _ | with_reducible apply Upd.tail)); (first | with_reducible exact big_size | with_reducible exact frac_size); rfl; rfl; rfl; clear K r; intro W K; have r := K.rawS))
    have HE := Lib.hid (⟨s7, A7, n7, c7, l7, t7, B7, m7, d7, k7, rfl, ⟨(by first | exact Rd.nil | exact K.rda), (by first | exact Rd.nil | exact K.rda)⟩, ho, ⟨hf7.out, hg7.out⟩, K.1⟩ : FrE w O E (.returned (.tuple #[.agg #[.int .i64 s7, .slice A7 n7 c7, .int .i64 t7, .slice B7 m7 d7], .int .i64 E])) W)
    clear ho
    exact bodyPost_ret (v := .tuple #[.agg #[.int .i64 s7, .slice A7 n7 c7, .int .i64 t7, .slice B7 m7 d7], .int .i64 E]) (by simp [results, Try.results73, go_sem, r]) rfl HE.out
end Go.Proofs.Ytdlcglndhhndpaa
