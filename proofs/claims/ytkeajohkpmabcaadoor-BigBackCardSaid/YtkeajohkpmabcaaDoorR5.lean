
/- Walk over the law BigInts. Conditions stand in the theorem. -/
import Derived.Test.YtkeajohkpmabcaaDoorR4
import Derived.Deep.QuietTactic
import Derived.BigQuiet
namespace Go.Proofs.YtkeajohkpmabcaaDoor
open Go.RowKit
set_option linter.unusedVariables false
set_option linter.unusedSimpArgs false

theorem ints_fits {a b : Int} (ha : -9223372036854775808 ≤ a ∧ a ≤ 9223372036854775807) (hb : -9223372036854775808 ≤ b ∧ b ≤ 9223372036854775807) : fits (a + b) = true ∧ fits (a - b) = true ∧ fits (a * b) = true := by
  have h1 : pw 4 = 1208925819614629174706176 := by simp [pw]
  have x1 : (a.natAbs : Int) < pw 4 := by omega
  have x2 : (b.natAbs : Int) < pw 4 := by omega
  exact ⟨fits_lt (pw_add_lt x1 x2 (m := 5) (by omega) (by omega)) (by omega), fits_lt (pw_sub_lt x1 x2 (m := 5) (by omega) (by omega)) (by omega), fits_lt (pw_mul_lt x1 x2) (by omega)⟩
theorem mul_half {a b : Int} (ha : -1073741824 < a ∧ a < 1073741824) (hb : -1073741824 < b ∧ b < 1073741824) : -9223372036854775808 ≤ a * b ∧ a * b ≤ 9223372036854775807 := by
  have h1 : (a * b).natAbs = a.natAbs * b.natAbs := Int.natAbs_mul a b
  have h2 := Nat.mul_le_mul (show a.natAbs ≤ 1073741824 by omega) (show b.natAbs ≤ 1073741824 by omega)
  omega
theorem list_beq (l m : List UInt8) : (l == m) = decide (l = m) := by
  by_cases h : l = m
  · subst h; simp
  · rw [decide_eq_false h]; exact beq_eq_false_iff_ne.2 h
theorem text_eq (a b : Int) : ((⟨(Lib.itoa a).toArray⟩ : ByteArray).toList == (⟨(Lib.itoa b).toArray⟩ : ByteArray).toList) = (a == b) := by
  rw [Lib.toList_data, Lib.toList_data, list_beq]
  by_cases h : a = b
  · subst h; simp
  · rw [decide_eq_false (fun e => h (itoa_inj (by simpa using e))), beq_eq_false_iff_ne.2 h]
theorem wp_region_cls {P : Program} {C : World → Prop} {id : Nat} {Q : Exit → Act → World → Prop} {a : Act} {w : World} {l : List Oper} (hm : P.follows .mixedOrders = true) (hB : Region.lexB .any l.toArray = true) (hC : C w.drew)
    (h : wpQuiet P l.toArray C (fun a' => ∀ w', C w' → Q .normal a' w') l a) : (Code.region id l.toArray true).wp P Q a w :=
  wp_region_quiet (C := C) hm hB hC (by simpa using h)
/-- a class of worlds, by a letter each -/
theorem cls_st (KS : World → Prop) (w : World) (h : KS w) (hd : ∀ W, KS W → KS W.drew) : ∃ (ι : Type) (f : ι → World), Nonempty ι ∧ (∃ n, w.drew = f n) ∧ (∀ n, KS (f n)) ∧ ∀ w', KS w' → ∃ n, w' = f n :=
  ⟨{w' : World // KS w'}, Subtype.val, ⟨⟨w, h⟩⟩, ⟨⟨w.drew, hd w h⟩, rfl⟩, fun n => n.2, fun w' h => ⟨⟨w', h⟩, rfl⟩⟩
theorem nTextV (x : Int) (s : Int) (A : Option Addr) (n cap : Nat) (l : List Int) (W : World) (hl : RdI W W.heap.size A n cap l) (h1 : Std s l x) (f1 : fits x = true) (ht : Tab W) : Calls Tryd.prog 18 #[.agg #[.int .i64 s, .slice A n cap]] W fun e w' => e = .returned (.string ⟨(Lib.itoa x).toArray⟩) ∧ Below W.heap.size W w' := by
  have h := btext_any s A n cap l W hl ht
  have e : textB s l = ⟨(Lib.itoa x).toArray⟩ := by
    unfold textB
    rw [if_pos (h1.right f1), h1.val]
  rw [e] at h
  exact h
set_option maxRecDepth 1000000 in
set_option maxHeartbeats 4000000 in
theorem bigInts_walk (a b : Int) (w : World) (ha : -9223372036854775808 ≤ a ∧ a ≤ 9223372036854775807) (hb : -9223372036854775808 ≤ b ∧ b ≤ 9223372036854775807) (htab : Tab w) :
    Calls Tryd.prog 8 #[.int .i64 a, .int .i64 b] w fun e w' => e = .returned (.bool true) ∧ Below w.heap.size w w' := by
  have K := St.start w
  have r := K.raw
  have HS := Lib.hid (fun W (h : Below w.heap.size w W) => small_any W (htab.on h))
  have HT := Lib.hid htab
  have F1 : fits a = true := fits_i64 (by omega)
  have F2 : fits b = true := fits_i64 (by omega)
  obtain ⟨p1, p2, p3⟩ := ints_fits ha hb
  have HO1 := Lib.hid (fun W => bOf_any a W ha)
  have HO2 := Lib.hid (fun W => bOf_any b W hb)
  clear hb htab
  go_enter Tryd.func8, Tryd.ntmps8
  go_wp2_with (first | (first | (apply K.alloc; rfl; rfl; (first | with_reducible exact big_zero | with_reducible exact frac_zero); clear K r; (first | ((fail_if_success revert b0); intro W b0 K) | ((fail_if_success revert b1); intro W b1 K) | ((fail_if_success revert b2); intro W b2 K) | ((fail_if_success revert b3); intro W b3 K) | ((fail_if_success revert b4); intro W b4 K) | ((fail_if_success revert b5); intro W b5 K) | ((fail_if_success revert b6); intro W b6 K) | ((fail_if_success revert b7); intro W b7 K) | ((fail_if_success revert b8); intro W b8 K) | ((fail_if_success revert b9); intro W b9 K) | ((fail_if_success revert b10); intro W b10 K) | ((fail_if_success revert b11); intro W b11 K) | ((fail_if_success revert b12); intro W b12 K) | ((fail_if_success revert b13); intro W b13 K) | ((fail_if_success revert b14); intro W b14 K) | ((fail_if_success revert b15); intro W b15 K) | ((fail_if_success revert b16); intro W b16 K) | ((fail_if_success revert b17); intro W b17 K) | ((fail_if_success revert b18); intro W b18 K) | ((fail_if_success revert b19); intro W b19 K) | ((fail_if_success revert b20); intro W b20 K) | ((fail_if_success revert b21); intro W b21 K)); have r := K.raw; simp only [Raw, RawC, and_true, true_and, Nat.zero_add, Nat.reduceAdd] at r) | (apply K.box; rfl; rfl; rfl; clear K r; (first | ((fail_if_success revert b0); intro W b0 K) | ((fail_if_success revert b1); intro W b1 K) | ((fail_if_success revert b2); intro W b2 K) | ((fail_if_success revert b3); intro W b3 K) | ((fail_if_success revert b4); intro W b4 K) | ((fail_if_success revert b5); intro W b5 K) | ((fail_if_success revert b6); intro W b6 K) | ((fail_if_success revert b7); intro W b7 K) | ((fail_if_success revert b8); intro W b8 K) | ((fail_if_success revert b9); intro W b9 K) | ((fail_if_success revert b10); intro W b10 K) | ((fail_if_success revert b11); intro W b11 K) | ((fail_if_success revert b12); intro W b12 K) | ((fail_if_success revert b13); intro W b13 K) | ((fail_if_success revert b14); intro W b14 K) | ((fail_if_success revert b15); intro W b15 K) | ((fail_if_success revert b16); intro W b16 K) | ((fail_if_success revert b17); intro W b17 K) | ((fail_if_success revert b18); intro W b18 K) | ((fail_if_success revert b19); intro W b19 K) | ((fail_if_success revert b20); intro W b20 K) | ((fail_if_success revert b21); intro W b21 K)); have r := K.raw; simp only [Raw, RawC, and_true, true_and, Nat.zero_add, Nat.reduceAdd] at r) | (apply K.storeA; rfl; rfl; rfl; rfl; rfl; (repeat (first | with_reducible exact Upd.head _ | with_reducible apply Upd.tail)); (first | with_reducible exact big_size | with_reducible exact frac_size); rfl; rfl; rfl; clear K r; intro W K; have r := K.raw; simp only [Raw, RawC, and_true, true_and, Nat.zero_add, Nat.reduceAdd] at r)) | (go_at_call 9; (with_reducible refine (HS.out _ K.bel).mono ?_); rintro e W' ⟨rfl, hb⟩; replace K := K.keep hb; clear r; have r := K.raw; simp only [Raw, RawC, and_true, true_and, Nat.zero_add, Nat.reduceAdd, List.toList_toArray] at r; clear hb))
  refine (HO1.out _).mono ?_
  rintro e W' ⟨s1, A1, n1, c1, l1, rfl, hr, hs1, hf, hb⟩
  have hf1 := Lib.hid (hf.mono K.1.size)
  replace K := K.ret hb hr hf
  clear r
  have r := K.raw
  simp only [Raw, RawC, and_true, true_and, Nat.zero_add, Nat.reduceAdd, List.toList_toArray] at r
  clear hr hf hb
  go_wp2_with (first | (apply K.alloc; rfl; rfl; (first | with_reducible exact big_zero | with_reducible exact frac_zero); clear K r; (first | ((fail_if_success revert b0); intro W b0 K) | ((fail_if_success revert b1); intro W b1 K) | ((fail_if_success revert b2); intro W b2 K) | ((fail_if_success revert b3); intro W b3 K) | ((fail_if_success revert b4); intro W b4 K) | ((fail_if_success revert b5); intro W b5 K) | ((fail_if_success revert b6); intro W b6 K) | ((fail_if_success revert b7); intro W b7 K) | ((fail_if_success revert b8); intro W b8 K) | ((fail_if_success revert b9); intro W b9 K) | ((fail_if_success revert b10); intro W b10 K) | ((fail_if_success revert b11); intro W b11 K) | ((fail_if_success revert b12); intro W b12 K) | ((fail_if_success revert b13); intro W b13 K) | ((fail_if_success revert b14); intro W b14 K) | ((fail_if_success revert b15); intro W b15 K) | ((fail_if_success revert b16); intro W b16 K) | ((fail_if_success revert b17); intro W b17 K) | ((fail_if_success revert b18); intro W b18 K) | ((fail_if_success revert b19); intro W b19 K) | ((fail_if_success revert b20); intro W b20 K) | ((fail_if_success revert b21); intro W b21 K)); have r := K.raw; simp only [Raw, RawC, and_true, true_and, Nat.zero_add, Nat.reduceAdd] at r) | (apply K.box; rfl; rfl; rfl; clear K r; (first | ((fail_if_success revert b0); intro W b0 K) | ((fail_if_success revert b1); intro W b1 K) | ((fail_if_success revert b2); intro W b2 K) | ((fail_if_success revert b3); intro W b3 K) | ((fail_if_success revert b4); intro W b4 K) | ((fail_if_success revert b5); intro W b5 K) | ((fail_if_success revert b6); intro W b6 K) | ((fail_if_success revert b7); intro W b7 K) | ((fail_if_success revert b8); intro W b8 K) | ((fail_if_success revert b9); intro W b9 K) | ((fail_if_success revert b10); intro W b10 K) | ((fail_if_success revert b11); intro W b11 K) | ((fail_if_success revert b12); intro W b12 K) | ((fail_if_success revert b13); intro W b13 K) | ((fail_if_success revert b14); intro W b14 K) | ((fail_if_success revert b15); intro W b15 K) | ((fail_if_success revert b16); intro W b16 K) | ((fail_if_success revert b17); intro W b17 K) | ((fail_if_success revert b18); intro W b18 K) | ((fail_if_success revert b19); intro W b19 K) | ((fail_if_success revert b20); intro W b20 K) | ((fail_if_success revert b21); intro W b21 K)); have r := K.raw; simp only [Raw, RawC, and_true, true_and, Nat.zero_add, Nat.reduceAdd] at r) | (apply K.storeA; rfl; rfl; rfl; rfl; rfl; (repeat (first | with_reducible exact Upd.head _ | with_reducible apply Upd.tail)); (first | with_reducible exact big_size | with_reducible exact frac_size); rfl; rfl; rfl; clear K r; intro W K; have r := K.raw; simp only [Raw, RawC, and_true, true_and, Nat.zero_add, Nat.reduceAdd] at r))
  refine (HO2.out _).mono ?_
  rintro e W' ⟨s2, A2, n2, c2, l2, rfl, hr, hs2, hf, hb⟩
  have hf2 := Lib.hid (hf.mono K.1.size)
  replace K := K.ret hb hr hf
  clear r
  have r := K.raw
  simp only [Raw, RawC, and_true, true_and, Nat.zero_add, Nat.reduceAdd, List.toList_toArray] at r
  clear hr hf hb
  go_wp2_with (first | (apply K.alloc; rfl; rfl; (first | with_reducible exact big_zero | with_reducible exact frac_zero); clear K r; (first | ((fail_if_success revert b0); intro W b0 K) | ((fail_if_success revert b1); intro W b1 K) | ((fail_if_success revert b2); intro W b2 K) | ((fail_if_success revert b3); intro W b3 K) | ((fail_if_success revert b4); intro W b4 K) | ((fail_if_success revert b5); intro W b5 K) | ((fail_if_success revert b6); intro W b6 K) | ((fail_if_success revert b7); intro W b7 K) | ((fail_if_success revert b8); intro W b8 K) | ((fail_if_success revert b9); intro W b9 K) | ((fail_if_success revert b10); intro W b10 K) | ((fail_if_success revert b11); intro W b11 K) | ((fail_if_success revert b12); intro W b12 K) | ((fail_if_success revert b13); intro W b13 K) | ((fail_if_success revert b14); intro W b14 K) | ((fail_if_success revert b15); intro W b15 K) | ((fail_if_success revert b16); intro W b16 K) | ((fail_if_success revert b17); intro W b17 K) | ((fail_if_success revert b18); intro W b18 K) | ((fail_if_success revert b19); intro W b19 K) | ((fail_if_success revert b20); intro W b20 K) | ((fail_if_success revert b21); intro W b21 K)); have r := K.raw; simp only [Raw, RawC, and_true, true_and, Nat.zero_add, Nat.reduceAdd] at r) | (apply K.box; rfl; rfl; rfl; clear K r; (first | ((fail_if_success revert b0); intro W b0 K) | ((fail_if_success revert b1); intro W b1 K) | ((fail_if_success revert b2); intro W b2 K) | ((fail_if_success revert b3); intro W b3 K) | ((fail_if_success revert b4); intro W b4 K) | ((fail_if_success revert b5); intro W b5 K) | ((fail_if_success revert b6); intro W b6 K) | ((fail_if_success revert b7); intro W b7 K) | ((fail_if_success revert b8); intro W b8 K) | ((fail_if_success revert b9); intro W b9 K) | ((fail_if_success revert b10); intro W b10 K) | ((fail_if_success revert b11); intro W b11 K) | ((fail_if_success revert b12); intro W b12 K) | ((fail_if_success revert b13); intro W b13 K) | ((fail_if_success revert b14); intro W b14 K) | ((fail_if_success revert b15); intro W b15 K) | ((fail_if_success revert b16); intro W b16 K) | ((fail_if_success revert b17); intro W b17 K) | ((fail_if_success revert b18); intro W b18 K) | ((fail_if_success revert b19); intro W b19 K) | ((fail_if_success revert b20); intro W b20 K) | ((fail_if_success revert b21); intro W b21 K)); have r := K.raw; simp only [Raw, RawC, and_true, true_and, Nat.zero_add, Nat.reduceAdd] at r) | (apply K.storeA; rfl; rfl; rfl; rfl; rfl; (repeat (first | with_reducible exact Upd.head _ | with_reducible apply Upd.tail)); (first | with_reducible exact big_size | with_reducible exact frac_size); rfl; rfl; rfl; clear K r; intro W K; have r := K.raw; simp only [Raw, RawC, and_true, true_and, Nat.zero_add, Nat.reduceAdd] at r))
  refine (nIntT a _ _ _ _ _ _ (by first | exact Rd.nil | exact K.rd (by repeat (first | with_reducible exact List.mem_cons_self | with_reducible apply List.mem_cons_of_mem))) hs1 F1 ha).mono ?_
  rintro e W' ⟨rfl, hb⟩
  replace K := K.keep hb
  clear r
  have r := K.raw
  simp only [Raw, RawC, and_true, true_and, Nat.zero_add, Nat.reduceAdd, List.toList_toArray] at r
  clear hb
  go_wp2_with (first | (apply K.alloc; rfl; rfl; (first | with_reducible exact big_zero | with_reducible exact frac_zero); clear K r; (first | ((fail_if_success revert b0); intro W b0 K) | ((fail_if_success revert b1); intro W b1 K) | ((fail_if_success revert b2); intro W b2 K) | ((fail_if_success revert b3); intro W b3 K) | ((fail_if_success revert b4); intro W b4 K) | ((fail_if_success revert b5); intro W b5 K) | ((fail_if_success revert b6); intro W b6 K) | ((fail_if_success revert b7); intro W b7 K) | ((fail_if_success revert b8); intro W b8 K) | ((fail_if_success revert b9); intro W b9 K) | ((fail_if_success revert b10); intro W b10 K) | ((fail_if_success revert b11); intro W b11 K) | ((fail_if_success revert b12); intro W b12 K) | ((fail_if_success revert b13); intro W b13 K) | ((fail_if_success revert b14); intro W b14 K) | ((fail_if_success revert b15); intro W b15 K) | ((fail_if_success revert b16); intro W b16 K) | ((fail_if_success revert b17); intro W b17 K) | ((fail_if_success revert b18); intro W b18 K) | ((fail_if_success revert b19); intro W b19 K) | ((fail_if_success revert b20); intro W b20 K) | ((fail_if_success revert b21); intro W b21 K)); have r := K.raw; simp only [Raw, RawC, and_true, true_and, Nat.zero_add, Nat.reduceAdd] at r) | (apply K.box; rfl; rfl; rfl; clear K r; (first | ((fail_if_success revert b0); intro W b0 K) | ((fail_if_success revert b1); intro W b1 K) | ((fail_if_success revert b2); intro W b2 K) | ((fail_if_success revert b3); intro W b3 K) | ((fail_if_success revert b4); intro W b4 K) | ((fail_if_success revert b5); intro W b5 K) | ((fail_if_success revert b6); intro W b6 K) | ((fail_if_success revert b7); intro W b7 K) | ((fail_if_success revert b8); intro W b8 K) | ((fail_if_success revert b9); intro W b9 K) | ((fail_if_success revert b10); intro W b10 K) | ((fail_if_success revert b11); intro W b11 K) | ((fail_if_success revert b12); intro W b12 K) | ((fail_if_success revert b13); intro W b13 K) | ((fail_if_success revert b14); intro W b14 K) | ((fail_if_success revert b15); intro W b15 K) | ((fail_if_success revert b16); intro W b16 K) | ((fail_if_success revert b17); intro W b17 K) | ((fail_if_success revert b18); intro W b18 K) | ((fail_if_success revert b19); intro W b19 K) | ((fail_if_success revert b20); intro W b20 K) | ((fail_if_success revert b21); intro W b21 K)); have r := K.raw; simp only [Raw, RawC, and_true, true_and, Nat.zero_add, Nat.reduceAdd] at r) | (apply K.storeA; rfl; rfl; rfl; rfl; rfl; (repeat (first | with_reducible exact Upd.head _ | with_reducible apply Upd.tail)); (first | with_reducible exact big_size | with_reducible exact frac_size); rfl; rfl; rfl; clear K r; intro W K; have r := K.raw; simp only [Raw, RawC, and_true, true_and, Nat.zero_add, Nat.reduceAdd] at r))
  refine (nNeg a _ _ _ _ _ _ (by first | exact Rd.nil | exact K.rd (by repeat (first | with_reducible exact List.mem_cons_self | with_reducible apply List.mem_cons_of_mem))) hs1 F1).mono ?_
  rintro e W' ⟨s6, A6, n6, c6, l6, rfl, hr, hs6, hf, hb⟩
  have hf6 := Lib.hid (hf.mono K.1.size)
  replace K := K.ret hb hr hf
  clear r
  have r := K.raw
  simp only [Raw, RawC, and_true, true_and, Nat.zero_add, Nat.reduceAdd, List.toList_toArray] at r
  clear hr hf hb
  clear HO1 HO2 HS
  go_wp2_with (first | (apply K.alloc; rfl; rfl; (first | with_reducible exact big_zero | with_reducible exact frac_zero); clear K r; (first | ((fail_if_success revert b0); intro W b0 K) | ((fail_if_success revert b1); intro W b1 K) | ((fail_if_success revert b2); intro W b2 K) | ((fail_if_success revert b3); intro W b3 K) | ((fail_if_success revert b4); intro W b4 K) | ((fail_if_success revert b5); intro W b5 K) | ((fail_if_success revert b6); intro W b6 K) | ((fail_if_success revert b7); intro W b7 K) | ((fail_if_success revert b8); intro W b8 K) | ((fail_if_success revert b9); intro W b9 K) | ((fail_if_success revert b10); intro W b10 K) | ((fail_if_success revert b11); intro W b11 K) | ((fail_if_success revert b12); intro W b12 K) | ((fail_if_success revert b13); intro W b13 K) | ((fail_if_success revert b14); intro W b14 K) | ((fail_if_success revert b15); intro W b15 K) | ((fail_if_success revert b16); intro W b16 K) | ((fail_if_success revert b17); intro W b17 K) | ((fail_if_success revert b18); intro W b18 K) | ((fail_if_success revert b19); intro W b19 K) | ((fail_if_success revert b20); intro W b20 K) | ((fail_if_success revert b21); intro W b21 K)); have r := K.raw; simp only [Raw, RawC, and_true, true_and, Nat.zero_add, Nat.reduceAdd] at r) | (apply K.box; rfl; rfl; rfl; clear K r; (first | ((fail_if_success revert b0); intro W b0 K) | ((fail_if_success revert b1); intro W b1 K) | ((fail_if_success revert b2); intro W b2 K) | ((fail_if_success revert b3); intro W b3 K) | ((fail_if_success revert b4); intro W b4 K) | ((fail_if_success revert b5); intro W b5 K) | ((fail_if_success revert b6); intro W b6 K) | ((fail_if_success revert b7); intro W b7 K) | ((fail_if_success revert b8); intro W b8 K) | ((fail_if_success revert b9); intro W b9 K) | ((fail_if_success revert b10); intro W b10 K) | ((fail_if_success revert b11); intro W b11 K) | ((fail_if_success revert b12); intro W b12 K) | ((fail_if_success revert b13); intro W b13 K) | ((fail_if_success revert b14); intro W b14 K) | ((fail_if_success revert b15); intro W b15 K) | ((fail_if_success revert b16); intro W b16 K) | ((fail_if_success revert b17); intro W b17 K) | ((fail_if_success revert b18); intro W b18 K) | ((fail_if_success revert b19); intro W b19 K) | ((fail_if_success revert b20); intro W b20 K) | ((fail_if_success revert b21); intro W b21 K)); have r := K.raw; simp only [Raw, RawC, and_true, true_and, Nat.zero_add, Nat.reduceAdd] at r) | (apply K.storeA; rfl; rfl; rfl; rfl; rfl; (repeat (first | with_reducible exact Upd.head _ | with_reducible apply Upd.tail)); (first | with_reducible exact big_size | with_reducible exact frac_size); rfl; rfl; rfl; clear K r; intro W K; have r := K.raw; simp only [Raw, RawC, and_true, true_and, Nat.zero_add, Nat.reduceAdd] at r))
  by_cases hm : a = -9223372036854775808
  · refine (nIntF (-a) _ _ _ _ _ _ (by first | exact Rd.nil | exact K.rd (by repeat (first | with_reducible exact List.mem_cons_self | with_reducible apply List.mem_cons_of_mem))) hs6 (fits_i64 (by omega)) (by omega)).mono ?_
    have hmb : (a != -9223372036854775808) = false := by rw [hm]; rfl
    clear hm ha
    rintro e W' ⟨rfl, hb⟩
    replace K := K.keep hb
    clear r
    have r := K.raw
    simp only [Raw, RawC, and_true, true_and, Nat.zero_add, Nat.reduceAdd, List.toList_toArray] at r
    clear hb
    go_wp2_with (first | (apply K.alloc; rfl; rfl; (first | with_reducible exact big_zero | with_reducible exact frac_zero); clear K r; (first | ((fail_if_success revert b0); intro W b0 K) | ((fail_if_success revert b1); intro W b1 K) | ((fail_if_success revert b2); intro W b2 K) | ((fail_if_success revert b3); intro W b3 K) | ((fail_if_success revert b4); intro W b4 K) | ((fail_if_success revert b5); intro W b5 K) | ((fail_if_success revert b6); intro W b6 K) | ((fail_if_success revert b7); intro W b7 K) | ((fail_if_success revert b8); intro W b8 K) | ((fail_if_success revert b9); intro W b9 K) | ((fail_if_success revert b10); intro W b10 K) | ((fail_if_success revert b11); intro W b11 K) | ((fail_if_success revert b12); intro W b12 K) | ((fail_if_success revert b13); intro W b13 K) | ((fail_if_success revert b14); intro W b14 K) | ((fail_if_success revert b15); intro W b15 K) | ((fail_if_success revert b16); intro W b16 K) | ((fail_if_success revert b17); intro W b17 K) | ((fail_if_success revert b18); intro W b18 K) | ((fail_if_success revert b19); intro W b19 K) | ((fail_if_success revert b20); intro W b20 K) | ((fail_if_success revert b21); intro W b21 K)); have r := K.raw; simp only [Raw, RawC, and_true, true_and, Nat.zero_add, Nat.reduceAdd] at r) | (apply K.box; rfl; rfl; rfl; clear K r; (first | ((fail_if_success revert b0); intro W b0 K) | ((fail_if_success revert b1); intro W b1 K) | ((fail_if_success revert b2); intro W b2 K) | ((fail_if_success revert b3); intro W b3 K) | ((fail_if_success revert b4); intro W b4 K) | ((fail_if_success revert b5); intro W b5 K) | ((fail_if_success revert b6); intro W b6 K) | ((fail_if_success revert b7); intro W b7 K) | ((fail_if_success revert b8); intro W b8 K) | ((fail_if_success revert b9); intro W b9 K) | ((fail_if_success revert b10); intro W b10 K) | ((fail_if_success revert b11); intro W b11 K) | ((fail_if_success revert b12); intro W b12 K) | ((fail_if_success revert b13); intro W b13 K) | ((fail_if_success revert b14); intro W b14 K) | ((fail_if_success revert b15); intro W b15 K) | ((fail_if_success revert b16); intro W b16 K) | ((fail_if_success revert b17); intro W b17 K) | ((fail_if_success revert b18); intro W b18 K) | ((fail_if_success revert b19); intro W b19 K) | ((fail_if_success revert b20); intro W b20 K) | ((fail_if_success revert b21); intro W b21 K)); have r := K.raw; simp only [Raw, RawC, and_true, true_and, Nat.zero_add, Nat.reduceAdd] at r) | (apply K.storeA; rfl; rfl; rfl; rfl; rfl; (repeat (first | with_reducible exact Upd.head _ | with_reducible apply Upd.tail)); (first | with_reducible exact big_size | with_reducible exact frac_size); rfl; rfl; rfl; clear K r; intro W K; have r := K.raw; simp only [Raw, RawC, and_true, true_and, Nat.zero_add, Nat.reduceAdd] at r))
    obtain ⟨KS, X0, XK, XF, XS⟩ := K.pack2 (fun W => ((W.cell? ⟨b0, 0, none⟩ = some (.int .i64 s1) ∧ W.cell? ⟨b0, 1, none⟩ = some (.slice A1 n1 c1)) ∧ (W.cell? ⟨b1, 0, none⟩ = some (.int .i64 s2) ∧ W.cell? ⟨b1, 1, none⟩ = some (.slice A2 n2 c2)))) (fun W K => by
      have r := K.raw
      simp only [Raw, RawC, and_true, true_and, Nat.zero_add, Nat.reduceAdd] at r
      simp only [r, and_self])
    obtain ⟨ι, f, hne, hfw, hfk, hfc⟩ := cls_st KS _ X0 (fun W h => XK W W.drew h (Below.refl _ _).drew)
    have QR := Lib.hid (fun q => (nRight a _ _ _ _ _ (f q) ((XS _ (hfk q)).rd (by repeat (first | with_reducible exact List.mem_cons_self | with_reducible apply List.mem_cons_of_mem))) hs1 F1).mono fun e w'' ⟨he, hb⟩ => (⟨he, hfc _ (XK _ _ (hfk q) hb)⟩ : e = Ending.returned (.bool true) ∧ ∃ s, w'' = f s))
    have QA := Lib.hid (fun q => (nTextV a _ _ _ _ _ (f q) ((XS _ (hfk q)).rd (by repeat (first | with_reducible exact List.mem_cons_self | with_reducible apply List.mem_cons_of_mem))) hs1 F1 (HT.out.on (XS _ (hfk q)).1)).mono fun e w'' ⟨he, hb⟩ => (⟨he, hfc _ (XK _ _ (hfk q) hb)⟩ : e = Ending.returned (.string ⟨(Lib.itoa a).toArray⟩) ∧ ∃ s, w'' = f s))
    have QB := Lib.hid (fun q => (nTextV b _ _ _ _ _ (f q) ((XS _ (hfk q)).rd (by repeat (first | with_reducible exact List.mem_cons_self | with_reducible apply List.mem_cons_of_mem))) hs2 F2 (HT.out.on (XS _ (hfk q)).1)).mono fun e w'' ⟨he, hb⟩ => (⟨he, hfc _ (XK _ _ (hfk q) hb)⟩ : e = Ending.returned (.string ⟨(Lib.itoa b).toArray⟩) ∧ ∃ s, w'' = f s))
    have hAB := text_eq a b
    generalize (⟨(Lib.itoa a).toArray⟩ : ByteArray) = TA at *
    generalize (⟨(Lib.itoa b).toArray⟩ : ByteArray) = TB at *
    have Hs1 := Lib.hid hs1; have Hs2 := Lib.hid hs2
    have c0 := fun n => (XF _ (hfk n)).1.1
    have c1' := fun n => (XF _ (hfk n)).1.2
    have c2' := fun n => (XF _ (hfk n)).2.1
    have c3 := fun n => (XF _ (hfk n)).2.2
    have XSt := Lib.hid (fun n => XS _ (hfk n))
    have Hfw := Lib.hid hfw
    clear XF XK XS K r hs1 hs2 hfk hfc hfw X0
    refine wp_region_cls (C := fun w' => ∃ n, w' = f n) (by kernel_rfl) (by kernel_rfl) Hfw.out ?_
    repeat (first
      | go_big_quiet_skip
      | (go_big_quiet_want; go_big_quiet_op; first | go_big_quiet_on | go_big_quiet_call ((first | (go_at_call 11; exact QR.out _) | (go_at_call 18; first | with_reducible exact QA.out _ | with_reducible exact QB.out _)))))
    refine wpQuiet_nil ?_
    rintro _ ⟨nq, rfl⟩
    have K := XSt.out nq
    have r := K.raw
    simp only [Raw, RawC, and_true, true_and, Nat.zero_add, Nat.reduceAdd] at r
    have hs1 := Hs1.out; have hs2 := Hs2.out
    clear QA QB QR hAB hmb c0 c1' c2' c3
    rcases cmpI_cases a b with ⟨h, e⟩ | ⟨h, e⟩ | ⟨h, e⟩
    · have HC := Lib.hid e
      have h1 : ¬ b < a := by omega
      clear e
      go_wp2_with (first | (apply K.alloc; rfl; rfl; (first | with_reducible exact big_zero | with_reducible exact frac_zero); clear K r; (first | ((fail_if_success revert b0); intro W b0 K) | ((fail_if_success revert b1); intro W b1 K) | ((fail_if_success revert b2); intro W b2 K) | ((fail_if_success revert b3); intro W b3 K) | ((fail_if_success revert b4); intro W b4 K) | ((fail_if_success revert b5); intro W b5 K) | ((fail_if_success revert b6); intro W b6 K) | ((fail_if_success revert b7); intro W b7 K) | ((fail_if_success revert b8); intro W b8 K) | ((fail_if_success revert b9); intro W b9 K) | ((fail_if_success revert b10); intro W b10 K) | ((fail_if_success revert b11); intro W b11 K) | ((fail_if_success revert b12); intro W b12 K) | ((fail_if_success revert b13); intro W b13 K) | ((fail_if_success revert b14); intro W b14 K) | ((fail_if_success revert b15); intro W b15 K) | ((fail_if_success revert b16); intro W b16 K) | ((fail_if_success revert b17); intro W b17 K) | ((fail_if_success revert b18); intro W b18 K) | ((fail_if_success revert b19); intro W b19 K) | ((fail_if_success revert b20); intro W b20 K) | ((fail_if_success revert b21); intro W b21 K)); have r := K.raw; simp only [Raw, RawC, and_true, true_and, Nat.zero_add, Nat.reduceAdd] at r) | (apply K.box; rfl; rfl; rfl; clear K r; (first | ((fail_if_success revert b0); intro W b0 K) | ((fail_if_success revert b1); intro W b1 K) | ((fail_if_success revert b2); intro W b2 K) | ((fail_if_success revert b3); intro W b3 K) | ((fail_if_success revert b4); intro W b4 K) | ((fail_if_success revert b5); intro W b5 K) | ((fail_if_success revert b6); intro W b6 K) | ((fail_if_success revert b7); intro W b7 K) | ((fail_if_success revert b8); intro W b8 K) | ((fail_if_success revert b9); intro W b9 K) | ((fail_if_success revert b10); intro W b10 K) | ((fail_if_success revert b11); intro W b11 K) | ((fail_if_success revert b12); intro W b12 K) | ((fail_if_success revert b13); intro W b13 K) | ((fail_if_success revert b14); intro W b14 K) | ((fail_if_success revert b15); intro W b15 K) | ((fail_if_success revert b16); intro W b16 K) | ((fail_if_success revert b17); intro W b17 K) | ((fail_if_success revert b18); intro W b18 K) | ((fail_if_success revert b19); intro W b19 K) | ((fail_if_success revert b20); intro W b20 K) | ((fail_if_success revert b21); intro W b21 K)); have r := K.raw; simp only [Raw, RawC, and_true, true_and, Nat.zero_add, Nat.reduceAdd] at r) | (apply K.storeA; rfl; rfl; rfl; rfl; rfl; (repeat (first | with_reducible exact Upd.head _ | with_reducible apply Upd.tail)); (first | with_reducible exact big_size | with_reducible exact frac_size); rfl; rfl; rfl; clear K r; intro W K; have r := K.raw; simp only [Raw, RawC, and_true, true_and, Nat.zero_add, Nat.reduceAdd] at r))
      refine (nAddT a b _ _ _ _ _ _ _ _ _ _ _ (by first | exact Rd.nil | exact K.rd (by repeat (first | with_reducible exact List.mem_cons_self | with_reducible apply List.mem_cons_of_mem))) (by first | exact Rd.nil | exact K.rd (by repeat (first | with_reducible exact List.mem_cons_self | with_reducible apply List.mem_cons_of_mem))) hs1 hs2 F1 F2 p1).mono ?_
      rintro e W' ⟨s3, A3, n3, c3, l3, rfl, hr, hs3, hf, hb⟩
      have hf3 := Lib.hid (hf.mono K.1.size)
      replace K := K.ret hb hr hf
      clear r
      have r := K.raw
      simp only [Raw, RawC, and_true, true_and, Nat.zero_add, Nat.reduceAdd, List.toList_toArray] at r
      clear hr hf hb
      go_wp2_with (first | (apply K.alloc; rfl; rfl; (first | with_reducible exact big_zero | with_reducible exact frac_zero); clear K r; (first | ((fail_if_success revert b0); intro W b0 K) | ((fail_if_success revert b1); intro W b1 K) | ((fail_if_success revert b2); intro W b2 K) | ((fail_if_success revert b3); intro W b3 K) | ((fail_if_success revert b4); intro W b4 K) | ((fail_if_success revert b5); intro W b5 K) | ((fail_if_success revert b6); intro W b6 K) | ((fail_if_success revert b7); intro W b7 K) | ((fail_if_success revert b8); intro W b8 K) | ((fail_if_success revert b9); intro W b9 K) | ((fail_if_success revert b10); intro W b10 K) | ((fail_if_success revert b11); intro W b11 K) | ((fail_if_success revert b12); intro W b12 K) | ((fail_if_success revert b13); intro W b13 K) | ((fail_if_success revert b14); intro W b14 K) | ((fail_if_success revert b15); intro W b15 K) | ((fail_if_success revert b16); intro W b16 K) | ((fail_if_success revert b17); intro W b17 K) | ((fail_if_success revert b18); intro W b18 K) | ((fail_if_success revert b19); intro W b19 K) | ((fail_if_success revert b20); intro W b20 K) | ((fail_if_success revert b21); intro W b21 K)); have r := K.raw; simp only [Raw, RawC, and_true, true_and, Nat.zero_add, Nat.reduceAdd] at r) | (apply K.box; rfl; rfl; rfl; clear K r; (first | ((fail_if_success revert b0); intro W b0 K) | ((fail_if_success revert b1); intro W b1 K) | ((fail_if_success revert b2); intro W b2 K) | ((fail_if_success revert b3); intro W b3 K) | ((fail_if_success revert b4); intro W b4 K) | ((fail_if_success revert b5); intro W b5 K) | ((fail_if_success revert b6); intro W b6 K) | ((fail_if_success revert b7); intro W b7 K) | ((fail_if_success revert b8); intro W b8 K) | ((fail_if_success revert b9); intro W b9 K) | ((fail_if_success revert b10); intro W b10 K) | ((fail_if_success revert b11); intro W b11 K) | ((fail_if_success revert b12); intro W b12 K) | ((fail_if_success revert b13); intro W b13 K) | ((fail_if_success revert b14); intro W b14 K) | ((fail_if_success revert b15); intro W b15 K) | ((fail_if_success revert b16); intro W b16 K) | ((fail_if_success revert b17); intro W b17 K) | ((fail_if_success revert b18); intro W b18 K) | ((fail_if_success revert b19); intro W b19 K) | ((fail_if_success revert b20); intro W b20 K) | ((fail_if_success revert b21); intro W b21 K)); have r := K.raw; simp only [Raw, RawC, and_true, true_and, Nat.zero_add, Nat.reduceAdd] at r) | (apply K.storeA; rfl; rfl; rfl; rfl; rfl; (repeat (first | with_reducible exact Upd.head _ | with_reducible apply Upd.tail)); (first | with_reducible exact big_size | with_reducible exact frac_size); rfl; rfl; rfl; clear K r; intro W K; have r := K.raw; simp only [Raw, RawC, and_true, true_and, Nat.zero_add, Nat.reduceAdd] at r))
      refine (nSubT (a) (b) _ _ _ _ _ _ _ _ _ _ _ (by first | exact Rd.nil | exact K.rd (by repeat (first | with_reducible exact List.mem_cons_self | with_reducible apply List.mem_cons_of_mem))) (by first | exact Rd.nil | exact K.rd (by repeat (first | with_reducible exact List.mem_cons_self | with_reducible apply List.mem_cons_of_mem))) hs1 hs2 F1 F2 p2).mono ?_
      rintro e W' ⟨s4, A4, n4, c4, l4, rfl, hr, hs4, hf, hb⟩
      have hf4 := Lib.hid (hf.mono K.1.size)
      replace K := K.ret hb hr hf
      clear r
      have r := K.raw
      simp only [Raw, RawC, and_true, true_and, Nat.zero_add, Nat.reduceAdd, List.toList_toArray] at r
      clear hr hf hb
      go_wp2_with (first | (apply K.alloc; rfl; rfl; (first | with_reducible exact big_zero | with_reducible exact frac_zero); clear K r; (first | ((fail_if_success revert b0); intro W b0 K) | ((fail_if_success revert b1); intro W b1 K) | ((fail_if_success revert b2); intro W b2 K) | ((fail_if_success revert b3); intro W b3 K) | ((fail_if_success revert b4); intro W b4 K) | ((fail_if_success revert b5); intro W b5 K) | ((fail_if_success revert b6); intro W b6 K) | ((fail_if_success revert b7); intro W b7 K) | ((fail_if_success revert b8); intro W b8 K) | ((fail_if_success revert b9); intro W b9 K) | ((fail_if_success revert b10); intro W b10 K) | ((fail_if_success revert b11); intro W b11 K) | ((fail_if_success revert b12); intro W b12 K) | ((fail_if_success revert b13); intro W b13 K) | ((fail_if_success revert b14); intro W b14 K) | ((fail_if_success revert b15); intro W b15 K) | ((fail_if_success revert b16); intro W b16 K) | ((fail_if_success revert b17); intro W b17 K) | ((fail_if_success revert b18); intro W b18 K) | ((fail_if_success revert b19); intro W b19 K) | ((fail_if_success revert b20); intro W b20 K) | ((fail_if_success revert b21); intro W b21 K)); have r := K.raw; simp only [Raw, RawC, and_true, true_and, Nat.zero_add, Nat.reduceAdd] at r) | (apply K.box; rfl; rfl; rfl; clear K r; (first | ((fail_if_success revert b0); intro W b0 K) | ((fail_if_success revert b1); intro W b1 K) | ((fail_if_success revert b2); intro W b2 K) | ((fail_if_success revert b3); intro W b3 K) | ((fail_if_success revert b4); intro W b4 K) | ((fail_if_success revert b5); intro W b5 K) | ((fail_if_success revert b6); intro W b6 K) | ((fail_if_success revert b7); intro W b7 K) | ((fail_if_success revert b8); intro W b8 K) | ((fail_if_success revert b9); intro W b9 K) | ((fail_if_success revert b10); intro W b10 K) | ((fail_if_success revert b11); intro W b11 K) | ((fail_if_success revert b12); intro W b12 K) | ((fail_if_success revert b13); intro W b13 K) | ((fail_if_success revert b14); intro W b14 K) | ((fail_if_success revert b15); intro W b15 K) | ((fail_if_success revert b16); intro W b16 K) | ((fail_if_success revert b17); intro W b17 K) | ((fail_if_success revert b18); intro W b18 K) | ((fail_if_success revert b19); intro W b19 K) | ((fail_if_success revert b20); intro W b20 K) | ((fail_if_success revert b21); intro W b21 K)); have r := K.raw; simp only [Raw, RawC, and_true, true_and, Nat.zero_add, Nat.reduceAdd] at r) | (apply K.storeA; rfl; rfl; rfl; rfl; rfl; (repeat (first | with_reducible exact Upd.head _ | with_reducible apply Upd.tail)); (first | with_reducible exact big_size | with_reducible exact frac_size); rfl; rfl; rfl; clear K r; intro W K; have r := K.raw; simp only [Raw, RawC, and_true, true_and, Nat.zero_add, Nat.reduceAdd] at r))
      refine (nMulT (a) (b) _ _ _ _ _ _ _ _ _ _ _ (by first | exact Rd.nil | exact K.rd (by repeat (first | with_reducible exact List.mem_cons_self | with_reducible apply List.mem_cons_of_mem))) (by first | exact Rd.nil | exact K.rd (by repeat (first | with_reducible exact List.mem_cons_self | with_reducible apply List.mem_cons_of_mem))) hs1 hs2 F1 F2 p3).mono ?_
      rintro e W' ⟨s5, A5, n5, c5, l5, rfl, hr, hs5, hf, hb⟩
      have hf5 := Lib.hid (hf.mono K.1.size)
      replace K := K.ret hb hr hf
      clear r
      have r := K.raw
      simp only [Raw, RawC, and_true, true_and, Nat.zero_add, Nat.reduceAdd, List.toList_toArray] at r
      clear hr hf hb
      go_wp2_with (first | (apply K.alloc; rfl; rfl; (first | with_reducible exact big_zero | with_reducible exact frac_zero); clear K r; (first | ((fail_if_success revert b0); intro W b0 K) | ((fail_if_success revert b1); intro W b1 K) | ((fail_if_success revert b2); intro W b2 K) | ((fail_if_success revert b3); intro W b3 K) | ((fail_if_success revert b4); intro W b4 K) | ((fail_if_success revert b5); intro W b5 K) | ((fail_if_success revert b6); intro W b6 K) | ((fail_if_success revert b7); intro W b7 K) | ((fail_if_success revert b8); intro W b8 K) | ((fail_if_success revert b9); intro W b9 K) | ((fail_if_success revert b10); intro W b10 K) | ((fail_if_success revert b11); intro W b11 K) | ((fail_if_success revert b12); intro W b12 K) | ((fail_if_success revert b13); intro W b13 K) | ((fail_if_success revert b14); intro W b14 K) | ((fail_if_success revert b15); intro W b15 K) | ((fail_if_success revert b16); intro W b16 K) | ((fail_if_success revert b17); intro W b17 K) | ((fail_if_success revert b18); intro W b18 K) | ((fail_if_success revert b19); intro W b19 K) | ((fail_if_success revert b20); intro W b20 K) | ((fail_if_success revert b21); intro W b21 K)); have r := K.raw; simp only [Raw, RawC, and_true, true_and, Nat.zero_add, Nat.reduceAdd] at r) | (apply K.box; rfl; rfl; rfl; clear K r; (first | ((fail_if_success revert b0); intro W b0 K) | ((fail_if_success revert b1); intro W b1 K) | ((fail_if_success revert b2); intro W b2 K) | ((fail_if_success revert b3); intro W b3 K) | ((fail_if_success revert b4); intro W b4 K) | ((fail_if_success revert b5); intro W b5 K) | ((fail_if_success revert b6); intro W b6 K) | ((fail_if_success revert b7); intro W b7 K) | ((fail_if_success revert b8); intro W b8 K) | ((fail_if_success revert b9); intro W b9 K) | ((fail_if_success revert b10); intro W b10 K) | ((fail_if_success revert b11); intro W b11 K) | ((fail_if_success revert b12); intro W b12 K) | ((fail_if_success revert b13); intro W b13 K) | ((fail_if_success revert b14); intro W b14 K) | ((fail_if_success revert b15); intro W b15 K) | ((fail_if_success revert b16); intro W b16 K) | ((fail_if_success revert b17); intro W b17 K) | ((fail_if_success revert b18); intro W b18 K) | ((fail_if_success revert b19); intro W b19 K) | ((fail_if_success revert b20); intro W b20 K) | ((fail_if_success revert b21); intro W b21 K)); have r := K.raw; simp only [Raw, RawC, and_true, true_and, Nat.zero_add, Nat.reduceAdd] at r) | (apply K.storeA; rfl; rfl; rfl; rfl; rfl; (repeat (first | with_reducible exact Upd.head _ | with_reducible apply Upd.tail)); (first | with_reducible exact big_size | with_reducible exact frac_size); rfl; rfl; rfl; clear K r; intro W K; have r := K.raw; simp only [Raw, RawC, and_true, true_and, Nat.zero_add, Nat.reduceAdd] at r))
      refine (nCompare a b _ _ _ _ _ _ _ _ _ _ _ (by first | exact Rd.nil | exact K.rd (by repeat (first | with_reducible exact List.mem_cons_self | with_reducible apply List.mem_cons_of_mem))) (by first | exact Rd.nil | exact K.rd (by repeat (first | with_reducible exact List.mem_cons_self | with_reducible apply List.mem_cons_of_mem))) hs1 hs2 F1 F2).mono ?_
      rintro e W' ⟨rfl, hb⟩
      replace K := K.keep hb
      clear r
      have r := K.raw
      simp only [Raw, RawC, and_true, true_and, Nat.zero_add, Nat.reduceAdd, List.toList_toArray] at r
      clear hb
      rw [HC.out]
      by_cases q1 : -1073741824 < a
      case neg =>
        have qd : decide (-1073741824 < a) = false := decide_eq_false q1
        clear q1 HT p1 p2 p3
        go_wp2
        go_ret
        exact ⟨rfl, K.1⟩
      by_cases q2 : a < 1073741824
      case neg =>
        have qd : decide (a < 1073741824) = false := decide_eq_false q2
        clear q2 HT p1 p2 p3
        go_wp2
        go_ret
        exact ⟨rfl, K.1⟩
      by_cases q3 : -1073741824 < b
      case neg =>
        have qd : decide (-1073741824 < b) = false := decide_eq_false q3
        clear q3 HT p1 p2 p3
        go_wp2
        go_ret
        exact ⟨rfl, K.1⟩
      by_cases q4 : b < 1073741824
      case neg =>
        have qd : decide (b < 1073741824) = false := decide_eq_false q4
        clear q4 HT p1 p2 p3
        go_wp2
        go_ret
        exact ⟨rfl, K.1⟩
      have HM := Lib.hid (mul_half ⟨q1, q2⟩ ⟨q3, q4⟩)
      have w1 : IntKind.i64.wrap (a + b) = a + b := IntWalk.i64_in _ (by omega)
      have w2 : IntKind.i64.wrap (a - b) = a - b := IntWalk.i64_in _ (by omega)
      have w3 : IntKind.i64.wrap (a * b) = a * b := IntWalk.i64_in _ HM.out
      go_wp2_with fail
      refine (nIntT (a + b) _ _ _ _ _ _ (by first | exact Rd.nil | exact K.rd (by repeat (first | with_reducible exact List.mem_cons_self | with_reducible apply List.mem_cons_of_mem))) hs3 p1 (by omega)).mono ?_
      rintro e W' ⟨rfl, hb⟩
      replace K := K.keep hb
      clear r
      have r := K.raw
      simp only [Raw, RawC, and_true, true_and, Nat.zero_add, Nat.reduceAdd, List.toList_toArray] at r
      clear hb
      go_wp2_with fail
      refine (nIntT (a - b) _ _ _ _ _ _ (by first | exact Rd.nil | exact K.rd (by repeat (first | with_reducible exact List.mem_cons_self | with_reducible apply List.mem_cons_of_mem))) hs4 p2 (by omega)).mono ?_
      rintro e W' ⟨rfl, hb⟩
      replace K := K.keep hb
      clear r
      have r := K.raw
      simp only [Raw, RawC, and_true, true_and, Nat.zero_add, Nat.reduceAdd, List.toList_toArray] at r
      clear hb
      go_wp2_with fail
      refine (nIntT (a * b) _ _ _ _ _ _ (by first | exact Rd.nil | exact K.rd (by repeat (first | with_reducible exact List.mem_cons_self | with_reducible apply List.mem_cons_of_mem))) hs5 p3 HM.out).mono ?_
      rintro e W' ⟨rfl, hb⟩
      replace K := K.keep hb
      clear r
      have r := K.raw
      simp only [Raw, RawC, and_true, true_and, Nat.zero_add, Nat.reduceAdd, List.toList_toArray] at r
      clear hb
      go_wp2
      go_ret
      exact ⟨rfl, K.1⟩
    · have HC := Lib.hid e
      have h1 : ¬ a < b := by omega
      have h2 : ¬ b < a := by omega
      clear e h
      go_wp2_with (first | (apply K.alloc; rfl; rfl; (first | with_reducible exact big_zero | with_reducible exact frac_zero); clear K r; (first | ((fail_if_success revert b0); intro W b0 K) | ((fail_if_success revert b1); intro W b1 K) | ((fail_if_success revert b2); intro W b2 K) | ((fail_if_success revert b3); intro W b3 K) | ((fail_if_success revert b4); intro W b4 K) | ((fail_if_success revert b5); intro W b5 K) | ((fail_if_success revert b6); intro W b6 K) | ((fail_if_success revert b7); intro W b7 K) | ((fail_if_success revert b8); intro W b8 K) | ((fail_if_success revert b9); intro W b9 K) | ((fail_if_success revert b10); intro W b10 K) | ((fail_if_success revert b11); intro W b11 K) | ((fail_if_success revert b12); intro W b12 K) | ((fail_if_success revert b13); intro W b13 K) | ((fail_if_success revert b14); intro W b14 K) | ((fail_if_success revert b15); intro W b15 K) | ((fail_if_success revert b16); intro W b16 K) | ((fail_if_success revert b17); intro W b17 K) | ((fail_if_success revert b18); intro W b18 K) | ((fail_if_success revert b19); intro W b19 K) | ((fail_if_success revert b20); intro W b20 K) | ((fail_if_success revert b21); intro W b21 K)); have r := K.raw; simp only [Raw, RawC, and_true, true_and, Nat.zero_add, Nat.reduceAdd] at r) | (apply K.box; rfl; rfl; rfl; clear K r; (first | ((fail_if_success revert b0); intro W b0 K) | ((fail_if_success revert b1); intro W b1 K) | ((fail_if_success revert b2); intro W b2 K) | ((fail_if_success revert b3); intro W b3 K) | ((fail_if_success revert b4); intro W b4 K) | ((fail_if_success revert b5); intro W b5 K) | ((fail_if_success revert b6); intro W b6 K) | ((fail_if_success revert b7); intro W b7 K) | ((fail_if_success revert b8); intro W b8 K) | ((fail_if_success revert b9); intro W b9 K) | ((fail_if_success revert b10); intro W b10 K) | ((fail_if_success revert b11); intro W b11 K) | ((fail_if_success revert b12); intro W b12 K) | ((fail_if_success revert b13); intro W b13 K) | ((fail_if_success revert b14); intro W b14 K) | ((fail_if_success revert b15); intro W b15 K) | ((fail_if_success revert b16); intro W b16 K) | ((fail_if_success revert b17); intro W b17 K) | ((fail_if_success revert b18); intro W b18 K) | ((fail_if_success revert b19); intro W b19 K) | ((fail_if_success revert b20); intro W b20 K) | ((fail_if_success revert b21); intro W b21 K)); have r := K.raw; simp only [Raw, RawC, and_true, true_and, Nat.zero_add, Nat.reduceAdd] at r) | (apply K.storeA; rfl; rfl; rfl; rfl; rfl; (repeat (first | with_reducible exact Upd.head _ | with_reducible apply Upd.tail)); (first | with_reducible exact big_size | with_reducible exact frac_size); rfl; rfl; rfl; clear K r; intro W K; have r := K.raw; simp only [Raw, RawC, and_true, true_and, Nat.zero_add, Nat.reduceAdd] at r))
      refine (nAddT a b _ _ _ _ _ _ _ _ _ _ _ (by first | exact Rd.nil | exact K.rd (by repeat (first | with_reducible exact List.mem_cons_self | with_reducible apply List.mem_cons_of_mem))) (by first | exact Rd.nil | exact K.rd (by repeat (first | with_reducible exact List.mem_cons_self | with_reducible apply List.mem_cons_of_mem))) hs1 hs2 F1 F2 p1).mono ?_
      rintro e W' ⟨s3, A3, n3, c3, l3, rfl, hr, hs3, hf, hb⟩
      have hf3 := Lib.hid (hf.mono K.1.size)
      replace K := K.ret hb hr hf
      clear r
      have r := K.raw
      simp only [Raw, RawC, and_true, true_and, Nat.zero_add, Nat.reduceAdd, List.toList_toArray] at r
      clear hr hf hb
      go_wp2_with (first | (apply K.alloc; rfl; rfl; (first | with_reducible exact big_zero | with_reducible exact frac_zero); clear K r; (first | ((fail_if_success revert b0); intro W b0 K) | ((fail_if_success revert b1); intro W b1 K) | ((fail_if_success revert b2); intro W b2 K) | ((fail_if_success revert b3); intro W b3 K) | ((fail_if_success revert b4); intro W b4 K) | ((fail_if_success revert b5); intro W b5 K) | ((fail_if_success revert b6); intro W b6 K) | ((fail_if_success revert b7); intro W b7 K) | ((fail_if_success revert b8); intro W b8 K) | ((fail_if_success revert b9); intro W b9 K) | ((fail_if_success revert b10); intro W b10 K) | ((fail_if_success revert b11); intro W b11 K) | ((fail_if_success revert b12); intro W b12 K) | ((fail_if_success revert b13); intro W b13 K) | ((fail_if_success revert b14); intro W b14 K) | ((fail_if_success revert b15); intro W b15 K) | ((fail_if_success revert b16); intro W b16 K) | ((fail_if_success revert b17); intro W b17 K) | ((fail_if_success revert b18); intro W b18 K) | ((fail_if_success revert b19); intro W b19 K) | ((fail_if_success revert b20); intro W b20 K) | ((fail_if_success revert b21); intro W b21 K)); have r := K.raw; simp only [Raw, RawC, and_true, true_and, Nat.zero_add, Nat.reduceAdd] at r) | (apply K.box; rfl; rfl; rfl; clear K r; (first | ((fail_if_success revert b0); intro W b0 K) | ((fail_if_success revert b1); intro W b1 K) | ((fail_if_success revert b2); intro W b2 K) | ((fail_if_success revert b3); intro W b3 K) | ((fail_if_success revert b4); intro W b4 K) | ((fail_if_success revert b5); intro W b5 K) | ((fail_if_success revert b6); intro W b6 K) | ((fail_if_success revert b7); intro W b7 K) | ((fail_if_success revert b8); intro W b8 K) | ((fail_if_success revert b9); intro W b9 K) | ((fail_if_success revert b10); intro W b10 K) | ((fail_if_success revert b11); intro W b11 K) | ((fail_if_success revert b12); intro W b12 K) | ((fail_if_success revert b13); intro W b13 K) | ((fail_if_success revert b14); intro W b14 K) | ((fail_if_success revert b15); intro W b15 K) | ((fail_if_success revert b16); intro W b16 K) | ((fail_if_success revert b17); intro W b17 K) | ((fail_if_success revert b18); intro W b18 K) | ((fail_if_success revert b19); intro W b19 K) | ((fail_if_success revert b20); intro W b20 K) | ((fail_if_success revert b21); intro W b21 K)); have r := K.raw; simp only [Raw, RawC, and_true, true_and, Nat.zero_add, Nat.reduceAdd] at r) | (apply K.storeA; rfl; rfl; rfl; rfl; rfl; (repeat (first | with_reducible exact Upd.head _ | with_reducible apply Upd.tail)); (first | with_reducible exact big_size | with_reducible exact frac_size); rfl; rfl; rfl; clear K r; intro W K; have r := K.raw; simp only [Raw, RawC, and_true, true_and, Nat.zero_add, Nat.reduceAdd] at r))
      refine (nSubT (a) (b) _ _ _ _ _ _ _ _ _ _ _ (by first | exact Rd.nil | exact K.rd (by repeat (first | with_reducible exact List.mem_cons_self | with_reducible apply List.mem_cons_of_mem))) (by first | exact Rd.nil | exact K.rd (by repeat (first | with_reducible exact List.mem_cons_self | with_reducible apply List.mem_cons_of_mem))) hs1 hs2 F1 F2 p2).mono ?_
      rintro e W' ⟨s4, A4, n4, c4, l4, rfl, hr, hs4, hf, hb⟩
      have hf4 := Lib.hid (hf.mono K.1.size)
      replace K := K.ret hb hr hf
      clear r
      have r := K.raw
      simp only [Raw, RawC, and_true, true_and, Nat.zero_add, Nat.reduceAdd, List.toList_toArray] at r
      clear hr hf hb
      go_wp2_with (first | (apply K.alloc; rfl; rfl; (first | with_reducible exact big_zero | with_reducible exact frac_zero); clear K r; (first | ((fail_if_success revert b0); intro W b0 K) | ((fail_if_success revert b1); intro W b1 K) | ((fail_if_success revert b2); intro W b2 K) | ((fail_if_success revert b3); intro W b3 K) | ((fail_if_success revert b4); intro W b4 K) | ((fail_if_success revert b5); intro W b5 K) | ((fail_if_success revert b6); intro W b6 K) | ((fail_if_success revert b7); intro W b7 K) | ((fail_if_success revert b8); intro W b8 K) | ((fail_if_success revert b9); intro W b9 K) | ((fail_if_success revert b10); intro W b10 K) | ((fail_if_success revert b11); intro W b11 K) | ((fail_if_success revert b12); intro W b12 K) | ((fail_if_success revert b13); intro W b13 K) | ((fail_if_success revert b14); intro W b14 K) | ((fail_if_success revert b15); intro W b15 K) | ((fail_if_success revert b16); intro W b16 K) | ((fail_if_success revert b17); intro W b17 K) | ((fail_if_success revert b18); intro W b18 K) | ((fail_if_success revert b19); intro W b19 K) | ((fail_if_success revert b20); intro W b20 K) | ((fail_if_success revert b21); intro W b21 K)); have r := K.raw; simp only [Raw, RawC, and_true, true_and, Nat.zero_add, Nat.reduceAdd] at r) | (apply K.box; rfl; rfl; rfl; clear K r; (first | ((fail_if_success revert b0); intro W b0 K) | ((fail_if_success revert b1); intro W b1 K) | ((fail_if_success revert b2); intro W b2 K) | ((fail_if_success revert b3); intro W b3 K) | ((fail_if_success revert b4); intro W b4 K) | ((fail_if_success revert b5); intro W b5 K) | ((fail_if_success revert b6); intro W b6 K) | ((fail_if_success revert b7); intro W b7 K) | ((fail_if_success revert b8); intro W b8 K) | ((fail_if_success revert b9); intro W b9 K) | ((fail_if_success revert b10); intro W b10 K) | ((fail_if_success revert b11); intro W b11 K) | ((fail_if_success revert b12); intro W b12 K) | ((fail_if_success revert b13); intro W b13 K) | ((fail_if_success revert b14); intro W b14 K) | ((fail_if_success revert b15); intro W b15 K) | ((fail_if_success revert b16); intro W b16 K) | ((fail_if_success revert b17); intro W b17 K) | ((fail_if_success revert b18); intro W b18 K) | ((fail_if_success revert b19); intro W b19 K) | ((fail_if_success revert b20); intro W b20 K) | ((fail_if_success revert b21); intro W b21 K)); have r := K.raw; simp only [Raw, RawC, and_true, true_and, Nat.zero_add, Nat.reduceAdd] at r) | (apply K.storeA; rfl; rfl; rfl; rfl; rfl; (repeat (first | with_reducible exact Upd.head _ | with_reducible apply Upd.tail)); (first | with_reducible exact big_size | with_reducible exact frac_size); rfl; rfl; rfl; clear K r; intro W K; have r := K.raw; simp only [Raw, RawC, and_true, true_and, Nat.zero_add, Nat.reduceAdd] at r))
      refine (nMulT (a) (b) _ _ _ _ _ _ _ _ _ _ _ (by first | exact Rd.nil | exact K.rd (by repeat (first | with_reducible exact List.mem_cons_self | with_reducible apply List.mem_cons_of_mem))) (by first | exact Rd.nil | exact K.rd (by repeat (first | with_reducible exact List.mem_cons_self | with_reducible apply List.mem_cons_of_mem))) hs1 hs2 F1 F2 p3).mono ?_
      rintro e W' ⟨s5, A5, n5, c5, l5, rfl, hr, hs5, hf, hb⟩
      have hf5 := Lib.hid (hf.mono K.1.size)
      replace K := K.ret hb hr hf
      clear r
      have r := K.raw
      simp only [Raw, RawC, and_true, true_and, Nat.zero_add, Nat.reduceAdd, List.toList_toArray] at r
      clear hr hf hb
      go_wp2_with (first | (apply K.alloc; rfl; rfl; (first | with_reducible exact big_zero | with_reducible exact frac_zero); clear K r; (first | ((fail_if_success revert b0); intro W b0 K) | ((fail_if_success revert b1); intro W b1 K) | ((fail_if_success revert b2); intro W b2 K) | ((fail_if_success revert b3); intro W b3 K) | ((fail_if_success revert b4); intro W b4 K) | ((fail_if_success revert b5); intro W b5 K) | ((fail_if_success revert b6); intro W b6 K) | ((fail_if_success revert b7); intro W b7 K) | ((fail_if_success revert b8); intro W b8 K) | ((fail_if_success revert b9); intro W b9 K) | ((fail_if_success revert b10); intro W b10 K) | ((fail_if_success revert b11); intro W b11 K) | ((fail_if_success revert b12); intro W b12 K) | ((fail_if_success revert b13); intro W b13 K) | ((fail_if_success revert b14); intro W b14 K) | ((fail_if_success revert b15); intro W b15 K) | ((fail_if_success revert b16); intro W b16 K) | ((fail_if_success revert b17); intro W b17 K) | ((fail_if_success revert b18); intro W b18 K) | ((fail_if_success revert b19); intro W b19 K) | ((fail_if_success revert b20); intro W b20 K) | ((fail_if_success revert b21); intro W b21 K)); have r := K.raw; simp only [Raw, RawC, and_true, true_and, Nat.zero_add, Nat.reduceAdd] at r) | (apply K.box; rfl; rfl; rfl; clear K r; (first | ((fail_if_success revert b0); intro W b0 K) | ((fail_if_success revert b1); intro W b1 K) | ((fail_if_success revert b2); intro W b2 K) | ((fail_if_success revert b3); intro W b3 K) | ((fail_if_success revert b4); intro W b4 K) | ((fail_if_success revert b5); intro W b5 K) | ((fail_if_success revert b6); intro W b6 K) | ((fail_if_success revert b7); intro W b7 K) | ((fail_if_success revert b8); intro W b8 K) | ((fail_if_success revert b9); intro W b9 K) | ((fail_if_success revert b10); intro W b10 K) | ((fail_if_success revert b11); intro W b11 K) | ((fail_if_success revert b12); intro W b12 K) | ((fail_if_success revert b13); intro W b13 K) | ((fail_if_success revert b14); intro W b14 K) | ((fail_if_success revert b15); intro W b15 K) | ((fail_if_success revert b16); intro W b16 K) | ((fail_if_success revert b17); intro W b17 K) | ((fail_if_success revert b18); intro W b18 K) | ((fail_if_success revert b19); intro W b19 K) | ((fail_if_success revert b20); intro W b20 K) | ((fail_if_success revert b21); intro W b21 K)); have r := K.raw; simp only [Raw, RawC, and_true, true_and, Nat.zero_add, Nat.reduceAdd] at r) | (apply K.storeA; rfl; rfl; rfl; rfl; rfl; (repeat (first | with_reducible exact Upd.head _ | with_reducible apply Upd.tail)); (first | with_reducible exact big_size | with_reducible exact frac_size); rfl; rfl; rfl; clear K r; intro W K; have r := K.raw; simp only [Raw, RawC, and_true, true_and, Nat.zero_add, Nat.reduceAdd] at r))
      refine (nCompare a b _ _ _ _ _ _ _ _ _ _ _ (by first | exact Rd.nil | exact K.rd (by repeat (first | with_reducible exact List.mem_cons_self | with_reducible apply List.mem_cons_of_mem))) (by first | exact Rd.nil | exact K.rd (by repeat (first | with_reducible exact List.mem_cons_self | with_reducible apply List.mem_cons_of_mem))) hs1 hs2 F1 F2).mono ?_
      rintro e W' ⟨rfl, hb⟩
      replace K := K.keep hb
      clear r
      have r := K.raw
      simp only [Raw, RawC, and_true, true_and, Nat.zero_add, Nat.reduceAdd, List.toList_toArray] at r
      clear hb
      rw [HC.out]
      by_cases q1 : -1073741824 < a
      case neg =>
        have qd : decide (-1073741824 < a) = false := decide_eq_false q1
        clear q1 HT p1 p2 p3
        go_wp2
        go_ret
        exact ⟨rfl, K.1⟩
      by_cases q2 : a < 1073741824
      case neg =>
        have qd : decide (a < 1073741824) = false := decide_eq_false q2
        clear q2 HT p1 p2 p3
        go_wp2
        go_ret
        exact ⟨rfl, K.1⟩
      by_cases q3 : -1073741824 < b
      case neg =>
        have qd : decide (-1073741824 < b) = false := decide_eq_false q3
        clear q3 HT p1 p2 p3
        go_wp2
        go_ret
        exact ⟨rfl, K.1⟩
      by_cases q4 : b < 1073741824
      case neg =>
        have qd : decide (b < 1073741824) = false := decide_eq_false q4
        clear q4 HT p1 p2 p3
        go_wp2
        go_ret
        exact ⟨rfl, K.1⟩
      have HM := Lib.hid (mul_half ⟨q1, q2⟩ ⟨q3, q4⟩)
      have w1 : IntKind.i64.wrap (a + b) = a + b := IntWalk.i64_in _ (by omega)
      have w2 : IntKind.i64.wrap (a - b) = a - b := IntWalk.i64_in _ (by omega)
      have w3 : IntKind.i64.wrap (a * b) = a * b := IntWalk.i64_in _ HM.out
      go_wp2_with fail
      refine (nIntT (a + b) _ _ _ _ _ _ (by first | exact Rd.nil | exact K.rd (by repeat (first | with_reducible exact List.mem_cons_self | with_reducible apply List.mem_cons_of_mem))) hs3 p1 (by omega)).mono ?_
      rintro e W' ⟨rfl, hb⟩
      replace K := K.keep hb
      clear r
      have r := K.raw
      simp only [Raw, RawC, and_true, true_and, Nat.zero_add, Nat.reduceAdd, List.toList_toArray] at r
      clear hb
      go_wp2_with fail
      refine (nIntT (a - b) _ _ _ _ _ _ (by first | exact Rd.nil | exact K.rd (by repeat (first | with_reducible exact List.mem_cons_self | with_reducible apply List.mem_cons_of_mem))) hs4 p2 (by omega)).mono ?_
      rintro e W' ⟨rfl, hb⟩
      replace K := K.keep hb
      clear r
      have r := K.raw
      simp only [Raw, RawC, and_true, true_and, Nat.zero_add, Nat.reduceAdd, List.toList_toArray] at r
      clear hb
      go_wp2_with fail
      refine (nIntT (a * b) _ _ _ _ _ _ (by first | exact Rd.nil | exact K.rd (by repeat (first | with_reducible exact List.mem_cons_self | with_reducible apply List.mem_cons_of_mem))) hs5 p3 HM.out).mono ?_
      rintro e W' ⟨rfl, hb⟩
      replace K := K.keep hb
      clear r
      have r := K.raw
      simp only [Raw, RawC, and_true, true_and, Nat.zero_add, Nat.reduceAdd, List.toList_toArray] at r
      clear hb
      go_wp2
      go_ret
      exact ⟨rfl, K.1⟩
    · have HC := Lib.hid e
      have h1 : ¬ a < b := by omega
      clear e
      go_wp2_with (first | (apply K.alloc; rfl; rfl; (first | with_reducible exact big_zero | with_reducible exact frac_zero); clear K r; (first | ((fail_if_success revert b0); intro W b0 K) | ((fail_if_success revert b1); intro W b1 K) | ((fail_if_success revert b2); intro W b2 K) | ((fail_if_success revert b3); intro W b3 K) | ((fail_if_success revert b4); intro W b4 K) | ((fail_if_success revert b5); intro W b5 K) | ((fail_if_success revert b6); intro W b6 K) | ((fail_if_success revert b7); intro W b7 K) | ((fail_if_success revert b8); intro W b8 K) | ((fail_if_success revert b9); intro W b9 K) | ((fail_if_success revert b10); intro W b10 K) | ((fail_if_success revert b11); intro W b11 K) | ((fail_if_success revert b12); intro W b12 K) | ((fail_if_success revert b13); intro W b13 K) | ((fail_if_success revert b14); intro W b14 K) | ((fail_if_success revert b15); intro W b15 K) | ((fail_if_success revert b16); intro W b16 K) | ((fail_if_success revert b17); intro W b17 K) | ((fail_if_success revert b18); intro W b18 K) | ((fail_if_success revert b19); intro W b19 K) | ((fail_if_success revert b20); intro W b20 K) | ((fail_if_success revert b21); intro W b21 K)); have r := K.raw; simp only [Raw, RawC, and_true, true_and, Nat.zero_add, Nat.reduceAdd] at r) | (apply K.box; rfl; rfl; rfl; clear K r; (first | ((fail_if_success revert b0); intro W b0 K) | ((fail_if_success revert b1); intro W b1 K) | ((fail_if_success revert b2); intro W b2 K) | ((fail_if_success revert b3); intro W b3 K) | ((fail_if_success revert b4); intro W b4 K) | ((fail_if_success revert b5); intro W b5 K) | ((fail_if_success revert b6); intro W b6 K) | ((fail_if_success revert b7); intro W b7 K) | ((fail_if_success revert b8); intro W b8 K) | ((fail_if_success revert b9); intro W b9 K) | ((fail_if_success revert b10); intro W b10 K) | ((fail_if_success revert b11); intro W b11 K) | ((fail_if_success revert b12); intro W b12 K) | ((fail_if_success revert b13); intro W b13 K) | ((fail_if_success revert b14); intro W b14 K) | ((fail_if_success revert b15); intro W b15 K) | ((fail_if_success revert b16); intro W b16 K) | ((fail_if_success revert b17); intro W b17 K) | ((fail_if_success revert b18); intro W b18 K) | ((fail_if_success revert b19); intro W b19 K) | ((fail_if_success revert b20); intro W b20 K) | ((fail_if_success revert b21); intro W b21 K)); have r := K.raw; simp only [Raw, RawC, and_true, true_and, Nat.zero_add, Nat.reduceAdd] at r) | (apply K.storeA; rfl; rfl; rfl; rfl; rfl; (repeat (first | with_reducible exact Upd.head _ | with_reducible apply Upd.tail)); (first | with_reducible exact big_size | with_reducible exact frac_size); rfl; rfl; rfl; clear K r; intro W K; have r := K.raw; simp only [Raw, RawC, and_true, true_and, Nat.zero_add, Nat.reduceAdd] at r))
      refine (nAddT a b _ _ _ _ _ _ _ _ _ _ _ (by first | exact Rd.nil | exact K.rd (by repeat (first | with_reducible exact List.mem_cons_self | with_reducible apply List.mem_cons_of_mem))) (by first | exact Rd.nil | exact K.rd (by repeat (first | with_reducible exact List.mem_cons_self | with_reducible apply List.mem_cons_of_mem))) hs1 hs2 F1 F2 p1).mono ?_
      rintro e W' ⟨s3, A3, n3, c3, l3, rfl, hr, hs3, hf, hb⟩
      have hf3 := Lib.hid (hf.mono K.1.size)
      replace K := K.ret hb hr hf
      clear r
      have r := K.raw
      simp only [Raw, RawC, and_true, true_and, Nat.zero_add, Nat.reduceAdd, List.toList_toArray] at r
      clear hr hf hb
      go_wp2_with (first | (apply K.alloc; rfl; rfl; (first | with_reducible exact big_zero | with_reducible exact frac_zero); clear K r; (first | ((fail_if_success revert b0); intro W b0 K) | ((fail_if_success revert b1); intro W b1 K) | ((fail_if_success revert b2); intro W b2 K) | ((fail_if_success revert b3); intro W b3 K) | ((fail_if_success revert b4); intro W b4 K) | ((fail_if_success revert b5); intro W b5 K) | ((fail_if_success revert b6); intro W b6 K) | ((fail_if_success revert b7); intro W b7 K) | ((fail_if_success revert b8); intro W b8 K) | ((fail_if_success revert b9); intro W b9 K) | ((fail_if_success revert b10); intro W b10 K) | ((fail_if_success revert b11); intro W b11 K) | ((fail_if_success revert b12); intro W b12 K) | ((fail_if_success revert b13); intro W b13 K) | ((fail_if_success revert b14); intro W b14 K) | ((fail_if_success revert b15); intro W b15 K) | ((fail_if_success revert b16); intro W b16 K) | ((fail_if_success revert b17); intro W b17 K) | ((fail_if_success revert b18); intro W b18 K) | ((fail_if_success revert b19); intro W b19 K) | ((fail_if_success revert b20); intro W b20 K) | ((fail_if_success revert b21); intro W b21 K)); have r := K.raw; simp only [Raw, RawC, and_true, true_and, Nat.zero_add, Nat.reduceAdd] at r) | (apply K.box; rfl; rfl; rfl; clear K r; (first | ((fail_if_success revert b0); intro W b0 K) | ((fail_if_success revert b1); intro W b1 K) | ((fail_if_success revert b2); intro W b2 K) | ((fail_if_success revert b3); intro W b3 K) | ((fail_if_success revert b4); intro W b4 K) | ((fail_if_success revert b5); intro W b5 K) | ((fail_if_success revert b6); intro W b6 K) | ((fail_if_success revert b7); intro W b7 K) | ((fail_if_success revert b8); intro W b8 K) | ((fail_if_success revert b9); intro W b9 K) | ((fail_if_success revert b10); intro W b10 K) | ((fail_if_success revert b11); intro W b11 K) | ((fail_if_success revert b12); intro W b12 K) | ((fail_if_success revert b13); intro W b13 K) | ((fail_if_success revert b14); intro W b14 K) | ((fail_if_success revert b15); intro W b15 K) | ((fail_if_success revert b16); intro W b16 K) | ((fail_if_success revert b17); intro W b17 K) | ((fail_if_success revert b18); intro W b18 K) | ((fail_if_success revert b19); intro W b19 K) | ((fail_if_success revert b20); intro W b20 K) | ((fail_if_success revert b21); intro W b21 K)); have r := K.raw; simp only [Raw, RawC, and_true, true_and, Nat.zero_add, Nat.reduceAdd] at r) | (apply K.storeA; rfl; rfl; rfl; rfl; rfl; (repeat (first | with_reducible exact Upd.head _ | with_reducible apply Upd.tail)); (first | with_reducible exact big_size | with_reducible exact frac_size); rfl; rfl; rfl; clear K r; intro W K; have r := K.raw; simp only [Raw, RawC, and_true, true_and, Nat.zero_add, Nat.reduceAdd] at r))
      refine (nSubT (a) (b) _ _ _ _ _ _ _ _ _ _ _ (by first | exact Rd.nil | exact K.rd (by repeat (first | with_reducible exact List.mem_cons_self | with_reducible apply List.mem_cons_of_mem))) (by first | exact Rd.nil | exact K.rd (by repeat (first | with_reducible exact List.mem_cons_self | with_reducible apply List.mem_cons_of_mem))) hs1 hs2 F1 F2 p2).mono ?_
      rintro e W' ⟨s4, A4, n4, c4, l4, rfl, hr, hs4, hf, hb⟩
      have hf4 := Lib.hid (hf.mono K.1.size)
      replace K := K.ret hb hr hf
      clear r
      have r := K.raw
      simp only [Raw, RawC, and_true, true_and, Nat.zero_add, Nat.reduceAdd, List.toList_toArray] at r
      clear hr hf hb
      go_wp2_with (first | (apply K.alloc; rfl; rfl; (first | with_reducible exact big_zero | with_reducible exact frac_zero); clear K r; (first | ((fail_if_success revert b0); intro W b0 K) | ((fail_if_success revert b1); intro W b1 K) | ((fail_if_success revert b2); intro W b2 K) | ((fail_if_success revert b3); intro W b3 K) | ((fail_if_success revert b4); intro W b4 K) | ((fail_if_success revert b5); intro W b5 K) | ((fail_if_success revert b6); intro W b6 K) | ((fail_if_success revert b7); intro W b7 K) | ((fail_if_success revert b8); intro W b8 K) | ((fail_if_success revert b9); intro W b9 K) | ((fail_if_success revert b10); intro W b10 K) | ((fail_if_success revert b11); intro W b11 K) | ((fail_if_success revert b12); intro W b12 K) | ((fail_if_success revert b13); intro W b13 K) | ((fail_if_success revert b14); intro W b14 K) | ((fail_if_success revert b15); intro W b15 K) | ((fail_if_success revert b16); intro W b16 K) | ((fail_if_success revert b17); intro W b17 K) | ((fail_if_success revert b18); intro W b18 K) | ((fail_if_success revert b19); intro W b19 K) | ((fail_if_success revert b20); intro W b20 K) | ((fail_if_success revert b21); intro W b21 K)); have r := K.raw; simp only [Raw, RawC, and_true, true_and, Nat.zero_add, Nat.reduceAdd] at r) | (apply K.box; rfl; rfl; rfl; clear K r; (first | ((fail_if_success revert b0); intro W b0 K) | ((fail_if_success revert b1); intro W b1 K) | ((fail_if_success revert b2); intro W b2 K) | ((fail_if_success revert b3); intro W b3 K) | ((fail_if_success revert b4); intro W b4 K) | ((fail_if_success revert b5); intro W b5 K) | ((fail_if_success revert b6); intro W b6 K) | ((fail_if_success revert b7); intro W b7 K) | ((fail_if_success revert b8); intro W b8 K) | ((fail_if_success revert b9); intro W b9 K) | ((fail_if_success revert b10); intro W b10 K) | ((fail_if_success revert b11); intro W b11 K) | ((fail_if_success revert b12); intro W b12 K) | ((fail_if_success revert b13); intro W b13 K) | ((fail_if_success revert b14); intro W b14 K) | ((fail_if_success revert b15); intro W b15 K) | ((fail_if_success revert b16); intro W b16 K) | ((fail_if_success revert b17); intro W b17 K) | ((fail_if_success revert b18); intro W b18 K) | ((fail_if_success revert b19); intro W b19 K) | ((fail_if_success revert b20); intro W b20 K) | ((fail_if_success revert b21); intro W b21 K)); have r := K.raw; simp only [Raw, RawC, and_true, true_and, Nat.zero_add, Nat.reduceAdd] at r) | (apply K.storeA; rfl; rfl; rfl; rfl; rfl; (repeat (first | with_reducible exact Upd.head _ | with_reducible apply Upd.tail)); (first | with_reducible exact big_size | with_reducible exact frac_size); rfl; rfl; rfl; clear K r; intro W K; have r := K.raw; simp only [Raw, RawC, and_true, true_and, Nat.zero_add, Nat.reduceAdd] at r))
      refine (nMulT (a) (b) _ _ _ _ _ _ _ _ _ _ _ (by first | exact Rd.nil | exact K.rd (by repeat (first | with_reducible exact List.mem_cons_self | with_reducible apply List.mem_cons_of_mem))) (by first | exact Rd.nil | exact K.rd (by repeat (first | with_reducible exact List.mem_cons_self | with_reducible apply List.mem_cons_of_mem))) hs1 hs2 F1 F2 p3).mono ?_
      rintro e W' ⟨s5, A5, n5, c5, l5, rfl, hr, hs5, hf, hb⟩
      have hf5 := Lib.hid (hf.mono K.1.size)
      replace K := K.ret hb hr hf
      clear r
      have r := K.raw
      simp only [Raw, RawC, and_true, true_and, Nat.zero_add, Nat.reduceAdd, List.toList_toArray] at r
      clear hr hf hb
      go_wp2_with (first | (apply K.alloc; rfl; rfl; (first | with_reducible exact big_zero | with_reducible exact frac_zero); clear K r; (first | ((fail_if_success revert b0); intro W b0 K) | ((fail_if_success revert b1); intro W b1 K) | ((fail_if_success revert b2); intro W b2 K) | ((fail_if_success revert b3); intro W b3 K) | ((fail_if_success revert b4); intro W b4 K) | ((fail_if_success revert b5); intro W b5 K) | ((fail_if_success revert b6); intro W b6 K) | ((fail_if_success revert b7); intro W b7 K) | ((fail_if_success revert b8); intro W b8 K) | ((fail_if_success revert b9); intro W b9 K) | ((fail_if_success revert b10); intro W b10 K) | ((fail_if_success revert b11); intro W b11 K) | ((fail_if_success revert b12); intro W b12 K) | ((fail_if_success revert b13); intro W b13 K) | ((fail_if_success revert b14); intro W b14 K) | ((fail_if_success revert b15); intro W b15 K) | ((fail_if_success revert b16); intro W b16 K) | ((fail_if_success revert b17); intro W b17 K) | ((fail_if_success revert b18); intro W b18 K) | ((fail_if_success revert b19); intro W b19 K) | ((fail_if_success revert b20); intro W b20 K) | ((fail_if_success revert b21); intro W b21 K)); have r := K.raw; simp only [Raw, RawC, and_true, true_and, Nat.zero_add, Nat.reduceAdd] at r) | (apply K.box; rfl; rfl; rfl; clear K r; (first | ((fail_if_success revert b0); intro W b0 K) | ((fail_if_success revert b1); intro W b1 K) | ((fail_if_success revert b2); intro W b2 K) | ((fail_if_success revert b3); intro W b3 K) | ((fail_if_success revert b4); intro W b4 K) | ((fail_if_success revert b5); intro W b5 K) | ((fail_if_success revert b6); intro W b6 K) | ((fail_if_success revert b7); intro W b7 K) | ((fail_if_success revert b8); intro W b8 K) | ((fail_if_success revert b9); intro W b9 K) | ((fail_if_success revert b10); intro W b10 K) | ((fail_if_success revert b11); intro W b11 K) | ((fail_if_success revert b12); intro W b12 K) | ((fail_if_success revert b13); intro W b13 K) | ((fail_if_success revert b14); intro W b14 K) | ((fail_if_success revert b15); intro W b15 K) | ((fail_if_success revert b16); intro W b16 K) | ((fail_if_success revert b17); intro W b17 K) | ((fail_if_success revert b18); intro W b18 K) | ((fail_if_success revert b19); intro W b19 K) | ((fail_if_success revert b20); intro W b20 K) | ((fail_if_success revert b21); intro W b21 K)); have r := K.raw; simp only [Raw, RawC, and_true, true_and, Nat.zero_add, Nat.reduceAdd] at r) | (apply K.storeA; rfl; rfl; rfl; rfl; rfl; (repeat (first | with_reducible exact Upd.head _ | with_reducible apply Upd.tail)); (first | with_reducible exact big_size | with_reducible exact frac_size); rfl; rfl; rfl; clear K r; intro W K; have r := K.raw; simp only [Raw, RawC, and_true, true_and, Nat.zero_add, Nat.reduceAdd] at r))
      refine (nCompare a b _ _ _ _ _ _ _ _ _ _ _ (by first | exact Rd.nil | exact K.rd (by repeat (first | with_reducible exact List.mem_cons_self | with_reducible apply List.mem_cons_of_mem))) (by first | exact Rd.nil | exact K.rd (by repeat (first | with_reducible exact List.mem_cons_self | with_reducible apply List.mem_cons_of_mem))) hs1 hs2 F1 F2).mono ?_
      rintro e W' ⟨rfl, hb⟩
      replace K := K.keep hb
      clear r
      have r := K.raw
      simp only [Raw, RawC, and_true, true_and, Nat.zero_add, Nat.reduceAdd, List.toList_toArray] at r
      clear hb
      rw [HC.out]
      by_cases q1 : -1073741824 < a
      case neg =>
        have qd : decide (-1073741824 < a) = false := decide_eq_false q1
        clear q1 HT p1 p2 p3
        go_wp2
        go_ret
        exact ⟨rfl, K.1⟩
      by_cases q2 : a < 1073741824
      case neg =>
        have qd : decide (a < 1073741824) = false := decide_eq_false q2
        clear q2 HT p1 p2 p3
        go_wp2
        go_ret
        exact ⟨rfl, K.1⟩
      by_cases q3 : -1073741824 < b
      case neg =>
        have qd : decide (-1073741824 < b) = false := decide_eq_false q3
        clear q3 HT p1 p2 p3
        go_wp2
        go_ret
        exact ⟨rfl, K.1⟩
      by_cases q4 : b < 1073741824
      case neg =>
        have qd : decide (b < 1073741824) = false := decide_eq_false q4
        clear q4 HT p1 p2 p3
        go_wp2
        go_ret
        exact ⟨rfl, K.1⟩
      have HM := Lib.hid (mul_half ⟨q1, q2⟩ ⟨q3, q4⟩)
      have w1 : IntKind.i64.wrap (a + b) = a + b := IntWalk.i64_in _ (by omega)
      have w2 : IntKind.i64.wrap (a - b) = a - b := IntWalk.i64_in _ (by omega)
      have w3 : IntKind.i64.wrap (a * b) = a * b := IntWalk.i64_in _ HM.out
      go_wp2_with fail
      refine (nIntT (a + b) _ _ _ _ _ _ (by first | exact Rd.nil | exact K.rd (by repeat (first | with_reducible exact List.mem_cons_self | with_reducible apply List.mem_cons_of_mem))) hs3 p1 (by omega)).mono ?_
      rintro e W' ⟨rfl, hb⟩
      replace K := K.keep hb
      clear r
      have r := K.raw
      simp only [Raw, RawC, and_true, true_and, Nat.zero_add, Nat.reduceAdd, List.toList_toArray] at r
      clear hb
      go_wp2_with fail
      refine (nIntT (a - b) _ _ _ _ _ _ (by first | exact Rd.nil | exact K.rd (by repeat (first | with_reducible exact List.mem_cons_self | with_reducible apply List.mem_cons_of_mem))) hs4 p2 (by omega)).mono ?_
      rintro e W' ⟨rfl, hb⟩
      replace K := K.keep hb
      clear r
      have r := K.raw
      simp only [Raw, RawC, and_true, true_and, Nat.zero_add, Nat.reduceAdd, List.toList_toArray] at r
      clear hb
      go_wp2_with fail
      refine (nIntT (a * b) _ _ _ _ _ _ (by first | exact Rd.nil | exact K.rd (by repeat (first | with_reducible exact List.mem_cons_self | with_reducible apply List.mem_cons_of_mem))) hs5 p3 HM.out).mono ?_
      rintro e W' ⟨rfl, hb⟩
      replace K := K.keep hb
      clear r
      have r := K.raw
      simp only [Raw, RawC, and_true, true_and, Nat.zero_add, Nat.reduceAdd, List.toList_toArray] at r
      clear hb
      go_wp2
      go_ret
      exact ⟨rfl, K.1⟩
  · refine (nIntT (-a) _ _ _ _ _ _ (by first | exact Rd.nil | exact K.rd (by repeat (first | with_reducible exact List.mem_cons_self | with_reducible apply List.mem_cons_of_mem))) hs6 (fits_i64 (by omega)) (by omega)).mono ?_
    have hmb : (a != -9223372036854775808) = true := by simp [hm]
    have hwn : IntKind.i64.wrap (-a) = -a := IntWalk.i64_in _ (by omega)
    clear ha
    rintro e W' ⟨rfl, hb⟩
    replace K := K.keep hb
    clear r
    have r := K.raw
    simp only [Raw, RawC, and_true, true_and, Nat.zero_add, Nat.reduceAdd, List.toList_toArray] at r
    clear hb
    go_wp2_with (first | (apply K.alloc; rfl; rfl; (first | with_reducible exact big_zero | with_reducible exact frac_zero); clear K r; (first | ((fail_if_success revert b0); intro W b0 K) | ((fail_if_success revert b1); intro W b1 K) | ((fail_if_success revert b2); intro W b2 K) | ((fail_if_success revert b3); intro W b3 K) | ((fail_if_success revert b4); intro W b4 K) | ((fail_if_success revert b5); intro W b5 K) | ((fail_if_success revert b6); intro W b6 K) | ((fail_if_success revert b7); intro W b7 K) | ((fail_if_success revert b8); intro W b8 K) | ((fail_if_success revert b9); intro W b9 K) | ((fail_if_success revert b10); intro W b10 K) | ((fail_if_success revert b11); intro W b11 K) | ((fail_if_success revert b12); intro W b12 K) | ((fail_if_success revert b13); intro W b13 K) | ((fail_if_success revert b14); intro W b14 K) | ((fail_if_success revert b15); intro W b15 K) | ((fail_if_success revert b16); intro W b16 K) | ((fail_if_success revert b17); intro W b17 K) | ((fail_if_success revert b18); intro W b18 K) | ((fail_if_success revert b19); intro W b19 K) | ((fail_if_success revert b20); intro W b20 K) | ((fail_if_success revert b21); intro W b21 K)); have r := K.raw; simp only [Raw, RawC, and_true, true_and, Nat.zero_add, Nat.reduceAdd] at r) | (apply K.box; rfl; rfl; rfl; clear K r; (first | ((fail_if_success revert b0); intro W b0 K) | ((fail_if_success revert b1); intro W b1 K) | ((fail_if_success revert b2); intro W b2 K) | ((fail_if_success revert b3); intro W b3 K) | ((fail_if_success revert b4); intro W b4 K) | ((fail_if_success revert b5); intro W b5 K) | ((fail_if_success revert b6); intro W b6 K) | ((fail_if_success revert b7); intro W b7 K) | ((fail_if_success revert b8); intro W b8 K) | ((fail_if_success revert b9); intro W b9 K) | ((fail_if_success revert b10); intro W b10 K) | ((fail_if_success revert b11); intro W b11 K) | ((fail_if_success revert b12); intro W b12 K) | ((fail_if_success revert b13); intro W b13 K) | ((fail_if_success revert b14); intro W b14 K) | ((fail_if_success revert b15); intro W b15 K) | ((fail_if_success revert b16); intro W b16 K) | ((fail_if_success revert b17); intro W b17 K) | ((fail_if_success revert b18); intro W b18 K) | ((fail_if_success revert b19); intro W b19 K) | ((fail_if_success revert b20); intro W b20 K) | ((fail_if_success revert b21); intro W b21 K)); have r := K.raw; simp only [Raw, RawC, and_true, true_and, Nat.zero_add, Nat.reduceAdd] at r) | (apply K.storeA; rfl; rfl; rfl; rfl; rfl; (repeat (first | with_reducible exact Upd.head _ | with_reducible apply Upd.tail)); (first | with_reducible exact big_size | with_reducible exact frac_size); rfl; rfl; rfl; clear K r; intro W K; have r := K.raw; simp only [Raw, RawC, and_true, true_and, Nat.zero_add, Nat.reduceAdd] at r))
    obtain ⟨KS, X0, XK, XF, XS⟩ := K.pack2 (fun W => ((W.cell? ⟨b0, 0, none⟩ = some (.int .i64 s1) ∧ W.cell? ⟨b0, 1, none⟩ = some (.slice A1 n1 c1)) ∧ (W.cell? ⟨b1, 0, none⟩ = some (.int .i64 s2) ∧ W.cell? ⟨b1, 1, none⟩ = some (.slice A2 n2 c2)))) (fun W K => by
      have r := K.raw
      simp only [Raw, RawC, and_true, true_and, Nat.zero_add, Nat.reduceAdd] at r
      simp only [r, and_self])
    obtain ⟨ι, f, hne, hfw, hfk, hfc⟩ := cls_st KS _ X0 (fun W h => XK W W.drew h (Below.refl _ _).drew)
    have QR := Lib.hid (fun q => (nRight a _ _ _ _ _ (f q) ((XS _ (hfk q)).rd (by repeat (first | with_reducible exact List.mem_cons_self | with_reducible apply List.mem_cons_of_mem))) hs1 F1).mono fun e w'' ⟨he, hb⟩ => (⟨he, hfc _ (XK _ _ (hfk q) hb)⟩ : e = Ending.returned (.bool true) ∧ ∃ s, w'' = f s))
    have QA := Lib.hid (fun q => (nTextV a _ _ _ _ _ (f q) ((XS _ (hfk q)).rd (by repeat (first | with_reducible exact List.mem_cons_self | with_reducible apply List.mem_cons_of_mem))) hs1 F1 (HT.out.on (XS _ (hfk q)).1)).mono fun e w'' ⟨he, hb⟩ => (⟨he, hfc _ (XK _ _ (hfk q) hb)⟩ : e = Ending.returned (.string ⟨(Lib.itoa a).toArray⟩) ∧ ∃ s, w'' = f s))
    have QB := Lib.hid (fun q => (nTextV b _ _ _ _ _ (f q) ((XS _ (hfk q)).rd (by repeat (first | with_reducible exact List.mem_cons_self | with_reducible apply List.mem_cons_of_mem))) hs2 F2 (HT.out.on (XS _ (hfk q)).1)).mono fun e w'' ⟨he, hb⟩ => (⟨he, hfc _ (XK _ _ (hfk q) hb)⟩ : e = Ending.returned (.string ⟨(Lib.itoa b).toArray⟩) ∧ ∃ s, w'' = f s))
    have hAB := text_eq a b
    generalize (⟨(Lib.itoa a).toArray⟩ : ByteArray) = TA at *
    generalize (⟨(Lib.itoa b).toArray⟩ : ByteArray) = TB at *
    have Hs1 := Lib.hid hs1; have Hs2 := Lib.hid hs2
    have c0 := fun n => (XF _ (hfk n)).1.1
    have c1' := fun n => (XF _ (hfk n)).1.2
    have c2' := fun n => (XF _ (hfk n)).2.1
    have c3 := fun n => (XF _ (hfk n)).2.2
    have XSt := Lib.hid (fun n => XS _ (hfk n))
    have Hfw := Lib.hid hfw
    clear XF XK XS K r hs1 hs2 hfk hfc hfw X0
    refine wp_region_cls (C := fun w' => ∃ n, w' = f n) (by kernel_rfl) (by kernel_rfl) Hfw.out ?_
    repeat (first
      | go_big_quiet_skip
      | (go_big_quiet_want; go_big_quiet_op; first | go_big_quiet_on | go_big_quiet_call ((first | (go_at_call 11; exact QR.out _) | (go_at_call 18; first | with_reducible exact QA.out _ | with_reducible exact QB.out _)))))
    refine wpQuiet_nil ?_
    rintro _ ⟨nq, rfl⟩
    have K := XSt.out nq
    have r := K.raw
    simp only [Raw, RawC, and_true, true_and, Nat.zero_add, Nat.reduceAdd] at r
    have hs1 := Hs1.out; have hs2 := Hs2.out
    clear QA QB QR hAB hmb c0 c1' c2' c3
    rcases cmpI_cases a b with ⟨h, e⟩ | ⟨h, e⟩ | ⟨h, e⟩
    · have HC := Lib.hid e
      have h1 : ¬ b < a := by omega
      clear e
      go_wp2_with (first | (apply K.alloc; rfl; rfl; (first | with_reducible exact big_zero | with_reducible exact frac_zero); clear K r; (first | ((fail_if_success revert b0); intro W b0 K) | ((fail_if_success revert b1); intro W b1 K) | ((fail_if_success revert b2); intro W b2 K) | ((fail_if_success revert b3); intro W b3 K) | ((fail_if_success revert b4); intro W b4 K) | ((fail_if_success revert b5); intro W b5 K) | ((fail_if_success revert b6); intro W b6 K) | ((fail_if_success revert b7); intro W b7 K) | ((fail_if_success revert b8); intro W b8 K) | ((fail_if_success revert b9); intro W b9 K) | ((fail_if_success revert b10); intro W b10 K) | ((fail_if_success revert b11); intro W b11 K) | ((fail_if_success revert b12); intro W b12 K) | ((fail_if_success revert b13); intro W b13 K) | ((fail_if_success revert b14); intro W b14 K) | ((fail_if_success revert b15); intro W b15 K) | ((fail_if_success revert b16); intro W b16 K) | ((fail_if_success revert b17); intro W b17 K) | ((fail_if_success revert b18); intro W b18 K) | ((fail_if_success revert b19); intro W b19 K) | ((fail_if_success revert b20); intro W b20 K) | ((fail_if_success revert b21); intro W b21 K)); have r := K.raw; simp only [Raw, RawC, and_true, true_and, Nat.zero_add, Nat.reduceAdd] at r) | (apply K.box; rfl; rfl; rfl; clear K r; (first | ((fail_if_success revert b0); intro W b0 K) | ((fail_if_success revert b1); intro W b1 K) | ((fail_if_success revert b2); intro W b2 K) | ((fail_if_success revert b3); intro W b3 K) | ((fail_if_success revert b4); intro W b4 K) | ((fail_if_success revert b5); intro W b5 K) | ((fail_if_success revert b6); intro W b6 K) | ((fail_if_success revert b7); intro W b7 K) | ((fail_if_success revert b8); intro W b8 K) | ((fail_if_success revert b9); intro W b9 K) | ((fail_if_success revert b10); intro W b10 K) | ((fail_if_success revert b11); intro W b11 K) | ((fail_if_success revert b12); intro W b12 K) | ((fail_if_success revert b13); intro W b13 K) | ((fail_if_success revert b14); intro W b14 K) | ((fail_if_success revert b15); intro W b15 K) | ((fail_if_success revert b16); intro W b16 K) | ((fail_if_success revert b17); intro W b17 K) | ((fail_if_success revert b18); intro W b18 K) | ((fail_if_success revert b19); intro W b19 K) | ((fail_if_success revert b20); intro W b20 K) | ((fail_if_success revert b21); intro W b21 K)); have r := K.raw; simp only [Raw, RawC, and_true, true_and, Nat.zero_add, Nat.reduceAdd] at r) | (apply K.storeA; rfl; rfl; rfl; rfl; rfl; (repeat (first | with_reducible exact Upd.head _ | with_reducible apply Upd.tail)); (first | with_reducible exact big_size | with_reducible exact frac_size); rfl; rfl; rfl; clear K r; intro W K; have r := K.raw; simp only [Raw, RawC, and_true, true_and, Nat.zero_add, Nat.reduceAdd] at r))
      refine (nAddT a b _ _ _ _ _ _ _ _ _ _ _ (by first | exact Rd.nil | exact K.rd (by repeat (first | with_reducible exact List.mem_cons_self | with_reducible apply List.mem_cons_of_mem))) (by first | exact Rd.nil | exact K.rd (by repeat (first | with_reducible exact List.mem_cons_self | with_reducible apply List.mem_cons_of_mem))) hs1 hs2 F1 F2 p1).mono ?_
      rintro e W' ⟨s3, A3, n3, c3, l3, rfl, hr, hs3, hf, hb⟩
      have hf3 := Lib.hid (hf.mono K.1.size)
      replace K := K.ret hb hr hf
      clear r
      have r := K.raw
      simp only [Raw, RawC, and_true, true_and, Nat.zero_add, Nat.reduceAdd, List.toList_toArray] at r
      clear hr hf hb
      go_wp2_with (first | (apply K.alloc; rfl; rfl; (first | with_reducible exact big_zero | with_reducible exact frac_zero); clear K r; (first | ((fail_if_success revert b0); intro W b0 K) | ((fail_if_success revert b1); intro W b1 K) | ((fail_if_success revert b2); intro W b2 K) | ((fail_if_success revert b3); intro W b3 K) | ((fail_if_success revert b4); intro W b4 K) | ((fail_if_success revert b5); intro W b5 K) | ((fail_if_success revert b6); intro W b6 K) | ((fail_if_success revert b7); intro W b7 K) | ((fail_if_success revert b8); intro W b8 K) | ((fail_if_success revert b9); intro W b9 K) | ((fail_if_success revert b10); intro W b10 K) | ((fail_if_success revert b11); intro W b11 K) | ((fail_if_success revert b12); intro W b12 K) | ((fail_if_success revert b13); intro W b13 K) | ((fail_if_success revert b14); intro W b14 K) | ((fail_if_success revert b15); intro W b15 K) | ((fail_if_success revert b16); intro W b16 K) | ((fail_if_success revert b17); intro W b17 K) | ((fail_if_success revert b18); intro W b18 K) | ((fail_if_success revert b19); intro W b19 K) | ((fail_if_success revert b20); intro W b20 K) | ((fail_if_success revert b21); intro W b21 K)); have r := K.raw; simp only [Raw, RawC, and_true, true_and, Nat.zero_add, Nat.reduceAdd] at r) | (apply K.box; rfl; rfl; rfl; clear K r; (first | ((fail_if_success revert b0); intro W b0 K) | ((fail_if_success revert b1); intro W b1 K) | ((fail_if_success revert b2); intro W b2 K) | ((fail_if_success revert b3); intro W b3 K) | ((fail_if_success revert b4); intro W b4 K) | ((fail_if_success revert b5); intro W b5 K) | ((fail_if_success revert b6); intro W b6 K) | ((fail_if_success revert b7); intro W b7 K) | ((fail_if_success revert b8); intro W b8 K) | ((fail_if_success revert b9); intro W b9 K) | ((fail_if_success revert b10); intro W b10 K) | ((fail_if_success revert b11); intro W b11 K) | ((fail_if_success revert b12); intro W b12 K) | ((fail_if_success revert b13); intro W b13 K) | ((fail_if_success revert b14); intro W b14 K) | ((fail_if_success revert b15); intro W b15 K) | ((fail_if_success revert b16); intro W b16 K) | ((fail_if_success revert b17); intro W b17 K) | ((fail_if_success revert b18); intro W b18 K) | ((fail_if_success revert b19); intro W b19 K) | ((fail_if_success revert b20); intro W b20 K) | ((fail_if_success revert b21); intro W b21 K)); have r := K.raw; simp only [Raw, RawC, and_true, true_and, Nat.zero_add, Nat.reduceAdd] at r) | (apply K.storeA; rfl; rfl; rfl; rfl; rfl; (repeat (first | with_reducible exact Upd.head _ | with_reducible apply Upd.tail)); (first | with_reducible exact big_size | with_reducible exact frac_size); rfl; rfl; rfl; clear K r; intro W K; have r := K.raw; simp only [Raw, RawC, and_true, true_and, Nat.zero_add, Nat.reduceAdd] at r))
      refine (nSubT (a) (b) _ _ _ _ _ _ _ _ _ _ _ (by first | exact Rd.nil | exact K.rd (by repeat (first | with_reducible exact List.mem_cons_self | with_reducible apply List.mem_cons_of_mem))) (by first | exact Rd.nil | exact K.rd (by repeat (first | with_reducible exact List.mem_cons_self | with_reducible apply List.mem_cons_of_mem))) hs1 hs2 F1 F2 p2).mono ?_
      rintro e W' ⟨s4, A4, n4, c4, l4, rfl, hr, hs4, hf, hb⟩
      have hf4 := Lib.hid (hf.mono K.1.size)
      replace K := K.ret hb hr hf
      clear r
      have r := K.raw
      simp only [Raw, RawC, and_true, true_and, Nat.zero_add, Nat.reduceAdd, List.toList_toArray] at r
      clear hr hf hb
      go_wp2_with (first | (apply K.alloc; rfl; rfl; (first | with_reducible exact big_zero | with_reducible exact frac_zero); clear K r; (first | ((fail_if_success revert b0); intro W b0 K) | ((fail_if_success revert b1); intro W b1 K) | ((fail_if_success revert b2); intro W b2 K) | ((fail_if_success revert b3); intro W b3 K) | ((fail_if_success revert b4); intro W b4 K) | ((fail_if_success revert b5); intro W b5 K) | ((fail_if_success revert b6); intro W b6 K) | ((fail_if_success revert b7); intro W b7 K) | ((fail_if_success revert b8); intro W b8 K) | ((fail_if_success revert b9); intro W b9 K) | ((fail_if_success revert b10); intro W b10 K) | ((fail_if_success revert b11); intro W b11 K) | ((fail_if_success revert b12); intro W b12 K) | ((fail_if_success revert b13); intro W b13 K) | ((fail_if_success revert b14); intro W b14 K) | ((fail_if_success revert b15); intro W b15 K) | ((fail_if_success revert b16); intro W b16 K) | ((fail_if_success revert b17); intro W b17 K) | ((fail_if_success revert b18); intro W b18 K) | ((fail_if_success revert b19); intro W b19 K) | ((fail_if_success revert b20); intro W b20 K) | ((fail_if_success revert b21); intro W b21 K)); have r := K.raw; simp only [Raw, RawC, and_true, true_and, Nat.zero_add, Nat.reduceAdd] at r) | (apply K.box; rfl; rfl; rfl; clear K r; (first | ((fail_if_success revert b0); intro W b0 K) | ((fail_if_success revert b1); intro W b1 K) | ((fail_if_success revert b2); intro W b2 K) | ((fail_if_success revert b3); intro W b3 K) | ((fail_if_success revert b4); intro W b4 K) | ((fail_if_success revert b5); intro W b5 K) | ((fail_if_success revert b6); intro W b6 K) | ((fail_if_success revert b7); intro W b7 K) | ((fail_if_success revert b8); intro W b8 K) | ((fail_if_success revert b9); intro W b9 K) | ((fail_if_success revert b10); intro W b10 K) | ((fail_if_success revert b11); intro W b11 K) | ((fail_if_success revert b12); intro W b12 K) | ((fail_if_success revert b13); intro W b13 K) | ((fail_if_success revert b14); intro W b14 K) | ((fail_if_success revert b15); intro W b15 K) | ((fail_if_success revert b16); intro W b16 K) | ((fail_if_success revert b17); intro W b17 K) | ((fail_if_success revert b18); intro W b18 K) | ((fail_if_success revert b19); intro W b19 K) | ((fail_if_success revert b20); intro W b20 K) | ((fail_if_success revert b21); intro W b21 K)); have r := K.raw; simp only [Raw, RawC, and_true, true_and, Nat.zero_add, Nat.reduceAdd] at r) | (apply K.storeA; rfl; rfl; rfl; rfl; rfl; (repeat (first | with_reducible exact Upd.head _ | with_reducible apply Upd.tail)); (first | with_reducible exact big_size | with_reducible exact frac_size); rfl; rfl; rfl; clear K r; intro W K; have r := K.raw; simp only [Raw, RawC, and_true, true_and, Nat.zero_add, Nat.reduceAdd] at r))
      refine (nMulT (a) (b) _ _ _ _ _ _ _ _ _ _ _ (by first | exact Rd.nil | exact K.rd (by repeat (first | with_reducible exact List.mem_cons_self | with_reducible apply List.mem_cons_of_mem))) (by first | exact Rd.nil | exact K.rd (by repeat (first | with_reducible exact List.mem_cons_self | with_reducible apply List.mem_cons_of_mem))) hs1 hs2 F1 F2 p3).mono ?_
      rintro e W' ⟨s5, A5, n5, c5, l5, rfl, hr, hs5, hf, hb⟩
      have hf5 := Lib.hid (hf.mono K.1.size)
      replace K := K.ret hb hr hf
      clear r
      have r := K.raw
      simp only [Raw, RawC, and_true, true_and, Nat.zero_add, Nat.reduceAdd, List.toList_toArray] at r
      clear hr hf hb
      go_wp2_with (first | (apply K.alloc; rfl; rfl; (first | with_reducible exact big_zero | with_reducible exact frac_zero); clear K r; (first | ((fail_if_success revert b0); intro W b0 K) | ((fail_if_success revert b1); intro W b1 K) | ((fail_if_success revert b2); intro W b2 K) | ((fail_if_success revert b3); intro W b3 K) | ((fail_if_success revert b4); intro W b4 K) | ((fail_if_success revert b5); intro W b5 K) | ((fail_if_success revert b6); intro W b6 K) | ((fail_if_success revert b7); intro W b7 K) | ((fail_if_success revert b8); intro W b8 K) | ((fail_if_success revert b9); intro W b9 K) | ((fail_if_success revert b10); intro W b10 K) | ((fail_if_success revert b11); intro W b11 K) | ((fail_if_success revert b12); intro W b12 K) | ((fail_if_success revert b13); intro W b13 K) | ((fail_if_success revert b14); intro W b14 K) | ((fail_if_success revert b15); intro W b15 K) | ((fail_if_success revert b16); intro W b16 K) | ((fail_if_success revert b17); intro W b17 K) | ((fail_if_success revert b18); intro W b18 K) | ((fail_if_success revert b19); intro W b19 K) | ((fail_if_success revert b20); intro W b20 K) | ((fail_if_success revert b21); intro W b21 K)); have r := K.raw; simp only [Raw, RawC, and_true, true_and, Nat.zero_add, Nat.reduceAdd] at r) | (apply K.box; rfl; rfl; rfl; clear K r; (first | ((fail_if_success revert b0); intro W b0 K) | ((fail_if_success revert b1); intro W b1 K) | ((fail_if_success revert b2); intro W b2 K) | ((fail_if_success revert b3); intro W b3 K) | ((fail_if_success revert b4); intro W b4 K) | ((fail_if_success revert b5); intro W b5 K) | ((fail_if_success revert b6); intro W b6 K) | ((fail_if_success revert b7); intro W b7 K) | ((fail_if_success revert b8); intro W b8 K) | ((fail_if_success revert b9); intro W b9 K) | ((fail_if_success revert b10); intro W b10 K) | ((fail_if_success revert b11); intro W b11 K) | ((fail_if_success revert b12); intro W b12 K) | ((fail_if_success revert b13); intro W b13 K) | ((fail_if_success revert b14); intro W b14 K) | ((fail_if_success revert b15); intro W b15 K) | ((fail_if_success revert b16); intro W b16 K) | ((fail_if_success revert b17); intro W b17 K) | ((fail_if_success revert b18); intro W b18 K) | ((fail_if_success revert b19); intro W b19 K) | ((fail_if_success revert b20); intro W b20 K) | ((fail_if_success revert b21); intro W b21 K)); have r := K.raw; simp only [Raw, RawC, and_true, true_and, Nat.zero_add, Nat.reduceAdd] at r) | (apply K.storeA; rfl; rfl; rfl; rfl; rfl; (repeat (first | with_reducible exact Upd.head _ | with_reducible apply Upd.tail)); (first | with_reducible exact big_size | with_reducible exact frac_size); rfl; rfl; rfl; clear K r; intro W K; have r := K.raw; simp only [Raw, RawC, and_true, true_and, Nat.zero_add, Nat.reduceAdd] at r))
      refine (nCompare a b _ _ _ _ _ _ _ _ _ _ _ (by first | exact Rd.nil | exact K.rd (by repeat (first | with_reducible exact List.mem_cons_self | with_reducible apply List.mem_cons_of_mem))) (by first | exact Rd.nil | exact K.rd (by repeat (first | with_reducible exact List.mem_cons_self | with_reducible apply List.mem_cons_of_mem))) hs1 hs2 F1 F2).mono ?_
      rintro e W' ⟨rfl, hb⟩
      replace K := K.keep hb
      clear r
      have r := K.raw
      simp only [Raw, RawC, and_true, true_and, Nat.zero_add, Nat.reduceAdd, List.toList_toArray] at r
      clear hb
      rw [HC.out]
      by_cases q1 : -1073741824 < a
      case neg =>
        have qd : decide (-1073741824 < a) = false := decide_eq_false q1
        clear q1 HT p1 p2 p3
        go_wp2
        go_ret
        exact ⟨rfl, K.1⟩
      by_cases q2 : a < 1073741824
      case neg =>
        have qd : decide (a < 1073741824) = false := decide_eq_false q2
        clear q2 HT p1 p2 p3
        go_wp2
        go_ret
        exact ⟨rfl, K.1⟩
      by_cases q3 : -1073741824 < b
      case neg =>
        have qd : decide (-1073741824 < b) = false := decide_eq_false q3
        clear q3 HT p1 p2 p3
        go_wp2
        go_ret
        exact ⟨rfl, K.1⟩
      by_cases q4 : b < 1073741824
      case neg =>
        have qd : decide (b < 1073741824) = false := decide_eq_false q4
        clear q4 HT p1 p2 p3
        go_wp2
        go_ret
        exact ⟨rfl, K.1⟩
      have HM := Lib.hid (mul_half ⟨q1, q2⟩ ⟨q3, q4⟩)
      have w1 : IntKind.i64.wrap (a + b) = a + b := IntWalk.i64_in _ (by omega)
      have w2 : IntKind.i64.wrap (a - b) = a - b := IntWalk.i64_in _ (by omega)
      have w3 : IntKind.i64.wrap (a * b) = a * b := IntWalk.i64_in _ HM.out
      go_wp2_with fail
      refine (nIntT (a + b) _ _ _ _ _ _ (by first | exact Rd.nil | exact K.rd (by repeat (first | with_reducible exact List.mem_cons_self | with_reducible apply List.mem_cons_of_mem))) hs3 p1 (by omega)).mono ?_
      rintro e W' ⟨rfl, hb⟩
      replace K := K.keep hb
      clear r
      have r := K.raw
      simp only [Raw, RawC, and_true, true_and, Nat.zero_add, Nat.reduceAdd, List.toList_toArray] at r
      clear hb
      go_wp2_with fail
      refine (nIntT (a - b) _ _ _ _ _ _ (by first | exact Rd.nil | exact K.rd (by repeat (first | with_reducible exact List.mem_cons_self | with_reducible apply List.mem_cons_of_mem))) hs4 p2 (by omega)).mono ?_
      rintro e W' ⟨rfl, hb⟩
      replace K := K.keep hb
      clear r
      have r := K.raw
      simp only [Raw, RawC, and_true, true_and, Nat.zero_add, Nat.reduceAdd, List.toList_toArray] at r
      clear hb
      go_wp2_with fail
      refine (nIntT (a * b) _ _ _ _ _ _ (by first | exact Rd.nil | exact K.rd (by repeat (first | with_reducible exact List.mem_cons_self | with_reducible apply List.mem_cons_of_mem))) hs5 p3 HM.out).mono ?_
      rintro e W' ⟨rfl, hb⟩
      replace K := K.keep hb
      clear r
      have r := K.raw
      simp only [Raw, RawC, and_true, true_and, Nat.zero_add, Nat.reduceAdd, List.toList_toArray] at r
      clear hb
      go_wp2
      go_ret
      exact ⟨rfl, K.1⟩
    · have HC := Lib.hid e
      have h1 : ¬ a < b := by omega
      have h2 : ¬ b < a := by omega
      clear e h
      go_wp2_with (first | (apply K.alloc; rfl; rfl; (first | with_reducible exact big_zero | with_reducible exact frac_zero); clear K r; (first | ((fail_if_success revert b0); intro W b0 K) | ((fail_if_success revert b1); intro W b1 K) | ((fail_if_success revert b2); intro W b2 K) | ((fail_if_success revert b3); intro W b3 K) | ((fail_if_success revert b4); intro W b4 K) | ((fail_if_success revert b5); intro W b5 K) | ((fail_if_success revert b6); intro W b6 K) | ((fail_if_success revert b7); intro W b7 K) | ((fail_if_success revert b8); intro W b8 K) | ((fail_if_success revert b9); intro W b9 K) | ((fail_if_success revert b10); intro W b10 K) | ((fail_if_success revert b11); intro W b11 K) | ((fail_if_success revert b12); intro W b12 K) | ((fail_if_success revert b13); intro W b13 K) | ((fail_if_success revert b14); intro W b14 K) | ((fail_if_success revert b15); intro W b15 K) | ((fail_if_success revert b16); intro W b16 K) | ((fail_if_success revert b17); intro W b17 K) | ((fail_if_success revert b18); intro W b18 K) | ((fail_if_success revert b19); intro W b19 K) | ((fail_if_success revert b20); intro W b20 K) | ((fail_if_success revert b21); intro W b21 K)); have r := K.raw; simp only [Raw, RawC, and_true, true_and, Nat.zero_add, Nat.reduceAdd] at r) | (apply K.box; rfl; rfl; rfl; clear K r; (first | ((fail_if_success revert b0); intro W b0 K) | ((fail_if_success revert b1); intro W b1 K) | ((fail_if_success revert b2); intro W b2 K) | ((fail_if_success revert b3); intro W b3 K) | ((fail_if_success revert b4); intro W b4 K) | ((fail_if_success revert b5); intro W b5 K) | ((fail_if_success revert b6); intro W b6 K) | ((fail_if_success revert b7); intro W b7 K) | ((fail_if_success revert b8); intro W b8 K) | ((fail_if_success revert b9); intro W b9 K) | ((fail_if_success revert b10); intro W b10 K) | ((fail_if_success revert b11); intro W b11 K) | ((fail_if_success revert b12); intro W b12 K) | ((fail_if_success revert b13); intro W b13 K) | ((fail_if_success revert b14); intro W b14 K) | ((fail_if_success revert b15); intro W b15 K) | ((fail_if_success revert b16); intro W b16 K) | ((fail_if_success revert b17); intro W b17 K) | ((fail_if_success revert b18); intro W b18 K) | ((fail_if_success revert b19); intro W b19 K) | ((fail_if_success revert b20); intro W b20 K) | ((fail_if_success revert b21); intro W b21 K)); have r := K.raw; simp only [Raw, RawC, and_true, true_and, Nat.zero_add, Nat.reduceAdd] at r) | (apply K.storeA; rfl; rfl; rfl; rfl; rfl; (repeat (first | with_reducible exact Upd.head _ | with_reducible apply Upd.tail)); (first | with_reducible exact big_size | with_reducible exact frac_size); rfl; rfl; rfl; clear K r; intro W K; have r := K.raw; simp only [Raw, RawC, and_true, true_and, Nat.zero_add, Nat.reduceAdd] at r))
      refine (nAddT a b _ _ _ _ _ _ _ _ _ _ _ (by first | exact Rd.nil | exact K.rd (by repeat (first | with_reducible exact List.mem_cons_self | with_reducible apply List.mem_cons_of_mem))) (by first | exact Rd.nil | exact K.rd (by repeat (first | with_reducible exact List.mem_cons_self | with_reducible apply List.mem_cons_of_mem))) hs1 hs2 F1 F2 p1).mono ?_
      rintro e W' ⟨s3, A3, n3, c3, l3, rfl, hr, hs3, hf, hb⟩
      have hf3 := Lib.hid (hf.mono K.1.size)
      replace K := K.ret hb hr hf
      clear r
      have r := K.raw
      simp only [Raw, RawC, and_true, true_and, Nat.zero_add, Nat.reduceAdd, List.toList_toArray] at r
      clear hr hf hb
      go_wp2_with (first | (apply K.alloc; rfl; rfl; (first | with_reducible exact big_zero | with_reducible exact frac_zero); clear K r; (first | ((fail_if_success revert b0); intro W b0 K) | ((fail_if_success revert b1); intro W b1 K) | ((fail_if_success revert b2); intro W b2 K) | ((fail_if_success revert b3); intro W b3 K) | ((fail_if_success revert b4); intro W b4 K) | ((fail_if_success revert b5); intro W b5 K) | ((fail_if_success revert b6); intro W b6 K) | ((fail_if_success revert b7); intro W b7 K) | ((fail_if_success revert b8); intro W b8 K) | ((fail_if_success revert b9); intro W b9 K) | ((fail_if_success revert b10); intro W b10 K) | ((fail_if_success revert b11); intro W b11 K) | ((fail_if_success revert b12); intro W b12 K) | ((fail_if_success revert b13); intro W b13 K) | ((fail_if_success revert b14); intro W b14 K) | ((fail_if_success revert b15); intro W b15 K) | ((fail_if_success revert b16); intro W b16 K) | ((fail_if_success revert b17); intro W b17 K) | ((fail_if_success revert b18); intro W b18 K) | ((fail_if_success revert b19); intro W b19 K) | ((fail_if_success revert b20); intro W b20 K) | ((fail_if_success revert b21); intro W b21 K)); have r := K.raw; simp only [Raw, RawC, and_true, true_and, Nat.zero_add, Nat.reduceAdd] at r) | (apply K.box; rfl; rfl; rfl; clear K r; (first | ((fail_if_success revert b0); intro W b0 K) | ((fail_if_success revert b1); intro W b1 K) | ((fail_if_success revert b2); intro W b2 K) | ((fail_if_success revert b3); intro W b3 K) | ((fail_if_success revert b4); intro W b4 K) | ((fail_if_success revert b5); intro W b5 K) | ((fail_if_success revert b6); intro W b6 K) | ((fail_if_success revert b7); intro W b7 K) | ((fail_if_success revert b8); intro W b8 K) | ((fail_if_success revert b9); intro W b9 K) | ((fail_if_success revert b10); intro W b10 K) | ((fail_if_success revert b11); intro W b11 K) | ((fail_if_success revert b12); intro W b12 K) | ((fail_if_success revert b13); intro W b13 K) | ((fail_if_success revert b14); intro W b14 K) | ((fail_if_success revert b15); intro W b15 K) | ((fail_if_success revert b16); intro W b16 K) | ((fail_if_success revert b17); intro W b17 K) | ((fail_if_success revert b18); intro W b18 K) | ((fail_if_success revert b19); intro W b19 K) | ((fail_if_success revert b20); intro W b20 K) | ((fail_if_success revert b21); intro W b21 K)); have r := K.raw; simp only [Raw, RawC, and_true, true_and, Nat.zero_add, Nat.reduceAdd] at r) | (apply K.storeA; rfl; rfl; rfl; rfl; rfl; (repeat (first | with_reducible exact Upd.head _ | with_reducible apply Upd.tail)); (first | with_reducible exact big_size | with_reducible exact frac_size); rfl; rfl; rfl; clear K r; intro W K; have r := K.raw; simp only [Raw, RawC, and_true, true_and, Nat.zero_add, Nat.reduceAdd] at r))
      refine (nSubT (a) (b) _ _ _ _ _ _ _ _ _ _ _ (by first | exact Rd.nil | exact K.rd (by repeat (first | with_reducible exact List.mem_cons_self | with_reducible apply List.mem_cons_of_mem))) (by first | exact Rd.nil | exact K.rd (by repeat (first | with_reducible exact List.mem_cons_self | with_reducible apply List.mem_cons_of_mem))) hs1 hs2 F1 F2 p2).mono ?_
      rintro e W' ⟨s4, A4, n4, c4, l4, rfl, hr, hs4, hf, hb⟩
      have hf4 := Lib.hid (hf.mono K.1.size)
      replace K := K.ret hb hr hf
      clear r
      have r := K.raw
      simp only [Raw, RawC, and_true, true_and, Nat.zero_add, Nat.reduceAdd, List.toList_toArray] at r
      clear hr hf hb
      go_wp2_with (first | (apply K.alloc; rfl; rfl; (first | with_reducible exact big_zero | with_reducible exact frac_zero); clear K r; (first | ((fail_if_success revert b0); intro W b0 K) | ((fail_if_success revert b1); intro W b1 K) | ((fail_if_success revert b2); intro W b2 K) | ((fail_if_success revert b3); intro W b3 K) | ((fail_if_success revert b4); intro W b4 K) | ((fail_if_success revert b5); intro W b5 K) | ((fail_if_success revert b6); intro W b6 K) | ((fail_if_success revert b7); intro W b7 K) | ((fail_if_success revert b8); intro W b8 K) | ((fail_if_success revert b9); intro W b9 K) | ((fail_if_success revert b10); intro W b10 K) | ((fail_if_success revert b11); intro W b11 K) | ((fail_if_success revert b12); intro W b12 K) | ((fail_if_success revert b13); intro W b13 K) | ((fail_if_success revert b14); intro W b14 K) | ((fail_if_success revert b15); intro W b15 K) | ((fail_if_success revert b16); intro W b16 K) | ((fail_if_success revert b17); intro W b17 K) | ((fail_if_success revert b18); intro W b18 K) | ((fail_if_success revert b19); intro W b19 K) | ((fail_if_success revert b20); intro W b20 K) | ((fail_if_success revert b21); intro W b21 K)); have r := K.raw; simp only [Raw, RawC, and_true, true_and, Nat.zero_add, Nat.reduceAdd] at r) | (apply K.box; rfl; rfl; rfl; clear K r; (first | ((fail_if_success revert b0); intro W b0 K) | ((fail_if_success revert b1); intro W b1 K) | ((fail_if_success revert b2); intro W b2 K) | ((fail_if_success revert b3); intro W b3 K) | ((fail_if_success revert b4); intro W b4 K) | ((fail_if_success revert b5); intro W b5 K) | ((fail_if_success revert b6); intro W b6 K) | ((fail_if_success revert b7); intro W b7 K) | ((fail_if_success revert b8); intro W b8 K) | ((fail_if_success revert b9); intro W b9 K) | ((fail_if_success revert b10); intro W b10 K) | ((fail_if_success revert b11); intro W b11 K) | ((fail_if_success revert b12); intro W b12 K) | ((fail_if_success revert b13); intro W b13 K) | ((fail_if_success revert b14); intro W b14 K) | ((fail_if_success revert b15); intro W b15 K) | ((fail_if_success revert b16); intro W b16 K) | ((fail_if_success revert b17); intro W b17 K) | ((fail_if_success revert b18); intro W b18 K) | ((fail_if_success revert b19); intro W b19 K) | ((fail_if_success revert b20); intro W b20 K) | ((fail_if_success revert b21); intro W b21 K)); have r := K.raw; simp only [Raw, RawC, and_true, true_and, Nat.zero_add, Nat.reduceAdd] at r) | (apply K.storeA; rfl; rfl; rfl; rfl; rfl; (repeat (first | with_reducible exact Upd.head _ | with_reducible apply Upd.tail)); (first | with_reducible exact big_size | with_reducible exact frac_size); rfl; rfl; rfl; clear K r; intro W K; have r := K.raw; simp only [Raw, RawC, and_true, true_and, Nat.zero_add, Nat.reduceAdd] at r))
      refine (nMulT (a) (b) _ _ _ _ _ _ _ _ _ _ _ (by first | exact Rd.nil | exact K.rd (by repeat (first | with_reducible exact List.mem_cons_self | with_reducible apply List.mem_cons_of_mem))) (by first | exact Rd.nil | exact K.rd (by repeat (first | with_reducible exact List.mem_cons_self | with_reducible apply List.mem_cons_of_mem))) hs1 hs2 F1 F2 p3).mono ?_
      rintro e W' ⟨s5, A5, n5, c5, l5, rfl, hr, hs5, hf, hb⟩
      have hf5 := Lib.hid (hf.mono K.1.size)
      replace K := K.ret hb hr hf
      clear r
      have r := K.raw
      simp only [Raw, RawC, and_true, true_and, Nat.zero_add, Nat.reduceAdd, List.toList_toArray] at r
      clear hr hf hb
      go_wp2_with (first | (apply K.alloc; rfl; rfl; (first | with_reducible exact big_zero | with_reducible exact frac_zero); clear K r; (first | ((fail_if_success revert b0); intro W b0 K) | ((fail_if_success revert b1); intro W b1 K) | ((fail_if_success revert b2); intro W b2 K) | ((fail_if_success revert b3); intro W b3 K) | ((fail_if_success revert b4); intro W b4 K) | ((fail_if_success revert b5); intro W b5 K) | ((fail_if_success revert b6); intro W b6 K) | ((fail_if_success revert b7); intro W b7 K) | ((fail_if_success revert b8); intro W b8 K) | ((fail_if_success revert b9); intro W b9 K) | ((fail_if_success revert b10); intro W b10 K) | ((fail_if_success revert b11); intro W b11 K) | ((fail_if_success revert b12); intro W b12 K) | ((fail_if_success revert b13); intro W b13 K) | ((fail_if_success revert b14); intro W b14 K) | ((fail_if_success revert b15); intro W b15 K) | ((fail_if_success revert b16); intro W b16 K) | ((fail_if_success revert b17); intro W b17 K) | ((fail_if_success revert b18); intro W b18 K) | ((fail_if_success revert b19); intro W b19 K) | ((fail_if_success revert b20); intro W b20 K) | ((fail_if_success revert b21); intro W b21 K)); have r := K.raw; simp only [Raw, RawC, and_true, true_and, Nat.zero_add, Nat.reduceAdd] at r) | (apply K.box; rfl; rfl; rfl; clear K r; (first | ((fail_if_success revert b0); intro W b0 K) | ((fail_if_success revert b1); intro W b1 K) | ((fail_if_success revert b2); intro W b2 K) | ((fail_if_success revert b3); intro W b3 K) | ((fail_if_success revert b4); intro W b4 K) | ((fail_if_success revert b5); intro W b5 K) | ((fail_if_success revert b6); intro W b6 K) | ((fail_if_success revert b7); intro W b7 K) | ((fail_if_success revert b8); intro W b8 K) | ((fail_if_success revert b9); intro W b9 K) | ((fail_if_success revert b10); intro W b10 K) | ((fail_if_success revert b11); intro W b11 K) | ((fail_if_success revert b12); intro W b12 K) | ((fail_if_success revert b13); intro W b13 K) | ((fail_if_success revert b14); intro W b14 K) | ((fail_if_success revert b15); intro W b15 K) | ((fail_if_success revert b16); intro W b16 K) | ((fail_if_success revert b17); intro W b17 K) | ((fail_if_success revert b18); intro W b18 K) | ((fail_if_success revert b19); intro W b19 K) | ((fail_if_success revert b20); intro W b20 K) | ((fail_if_success revert b21); intro W b21 K)); have r := K.raw; simp only [Raw, RawC, and_true, true_and, Nat.zero_add, Nat.reduceAdd] at r) | (apply K.storeA; rfl; rfl; rfl; rfl; rfl; (repeat (first | with_reducible exact Upd.head _ | with_reducible apply Upd.tail)); (first | with_reducible exact big_size | with_reducible exact frac_size); rfl; rfl; rfl; clear K r; intro W K; have r := K.raw; simp only [Raw, RawC, and_true, true_and, Nat.zero_add, Nat.reduceAdd] at r))
      refine (nCompare a b _ _ _ _ _ _ _ _ _ _ _ (by first | exact Rd.nil | exact K.rd (by repeat (first | with_reducible exact List.mem_cons_self | with_reducible apply List.mem_cons_of_mem))) (by first | exact Rd.nil | exact K.rd (by repeat (first | with_reducible exact List.mem_cons_self | with_reducible apply List.mem_cons_of_mem))) hs1 hs2 F1 F2).mono ?_
      rintro e W' ⟨rfl, hb⟩
      replace K := K.keep hb
      clear r
      have r := K.raw
      simp only [Raw, RawC, and_true, true_and, Nat.zero_add, Nat.reduceAdd, List.toList_toArray] at r
      clear hb
      rw [HC.out]
      by_cases q1 : -1073741824 < a
      case neg =>
        have qd : decide (-1073741824 < a) = false := decide_eq_false q1
        clear q1 HT p1 p2 p3
        go_wp2
        go_ret
        exact ⟨rfl, K.1⟩
      by_cases q2 : a < 1073741824
      case neg =>
        have qd : decide (a < 1073741824) = false := decide_eq_false q2
        clear q2 HT p1 p2 p3
        go_wp2
        go_ret
        exact ⟨rfl, K.1⟩
      by_cases q3 : -1073741824 < b
      case neg =>
        have qd : decide (-1073741824 < b) = false := decide_eq_false q3
        clear q3 HT p1 p2 p3
        go_wp2
        go_ret
        exact ⟨rfl, K.1⟩
      by_cases q4 : b < 1073741824
      case neg =>
        have qd : decide (b < 1073741824) = false := decide_eq_false q4
        clear q4 HT p1 p2 p3
        go_wp2
        go_ret
        exact ⟨rfl, K.1⟩
      have HM := Lib.hid (mul_half ⟨q1, q2⟩ ⟨q3, q4⟩)
      have w1 : IntKind.i64.wrap (a + b) = a + b := IntWalk.i64_in _ (by omega)
      have w2 : IntKind.i64.wrap (a - b) = a - b := IntWalk.i64_in _ (by omega)
      have w3 : IntKind.i64.wrap (a * b) = a * b := IntWalk.i64_in _ HM.out
      go_wp2_with fail
      refine (nIntT (a + b) _ _ _ _ _ _ (by first | exact Rd.nil | exact K.rd (by repeat (first | with_reducible exact List.mem_cons_self | with_reducible apply List.mem_cons_of_mem))) hs3 p1 (by omega)).mono ?_
      rintro e W' ⟨rfl, hb⟩
      replace K := K.keep hb
      clear r
      have r := K.raw
      simp only [Raw, RawC, and_true, true_and, Nat.zero_add, Nat.reduceAdd, List.toList_toArray] at r
      clear hb
      go_wp2_with fail
      refine (nIntT (a - b) _ _ _ _ _ _ (by first | exact Rd.nil | exact K.rd (by repeat (first | with_reducible exact List.mem_cons_self | with_reducible apply List.mem_cons_of_mem))) hs4 p2 (by omega)).mono ?_
      rintro e W' ⟨rfl, hb⟩
      replace K := K.keep hb
      clear r
      have r := K.raw
      simp only [Raw, RawC, and_true, true_and, Nat.zero_add, Nat.reduceAdd, List.toList_toArray] at r
      clear hb
      go_wp2_with fail
      refine (nIntT (a * b) _ _ _ _ _ _ (by first | exact Rd.nil | exact K.rd (by repeat (first | with_reducible exact List.mem_cons_self | with_reducible apply List.mem_cons_of_mem))) hs5 p3 HM.out).mono ?_
      rintro e W' ⟨rfl, hb⟩
      replace K := K.keep hb
      clear r
      have r := K.raw
      simp only [Raw, RawC, and_true, true_and, Nat.zero_add, Nat.reduceAdd, List.toList_toArray] at r
      clear hb
      go_wp2
      go_ret
      exact ⟨rfl, K.1⟩
    · have HC := Lib.hid e
      have h1 : ¬ a < b := by omega
      clear e
      go_wp2_with (first | (apply K.alloc; rfl; rfl; (first | with_reducible exact big_zero | with_reducible exact frac_zero); clear K r; (first | ((fail_if_success revert b0); intro W b0 K) | ((fail_if_success revert b1); intro W b1 K) | ((fail_if_success revert b2); intro W b2 K) | ((fail_if_success revert b3); intro W b3 K) | ((fail_if_success revert b4); intro W b4 K) | ((fail_if_success revert b5); intro W b5 K) | ((fail_if_success revert b6); intro W b6 K) | ((fail_if_success revert b7); intro W b7 K) | ((fail_if_success revert b8); intro W b8 K) | ((fail_if_success revert b9); intro W b9 K) | ((fail_if_success revert b10); intro W b10 K) | ((fail_if_success revert b11); intro W b11 K) | ((fail_if_success revert b12); intro W b12 K) | ((fail_if_success revert b13); intro W b13 K) | ((fail_if_success revert b14); intro W b14 K) | ((fail_if_success revert b15); intro W b15 K) | ((fail_if_success revert b16); intro W b16 K) | ((fail_if_success revert b17); intro W b17 K) | ((fail_if_success revert b18); intro W b18 K) | ((fail_if_success revert b19); intro W b19 K) | ((fail_if_success revert b20); intro W b20 K) | ((fail_if_success revert b21); intro W b21 K)); have r := K.raw; simp only [Raw, RawC, and_true, true_and, Nat.zero_add, Nat.reduceAdd] at r) | (apply K.box; rfl; rfl; rfl; clear K r; (first | ((fail_if_success revert b0); intro W b0 K) | ((fail_if_success revert b1); intro W b1 K) | ((fail_if_success revert b2); intro W b2 K) | ((fail_if_success revert b3); intro W b3 K) | ((fail_if_success revert b4); intro W b4 K) | ((fail_if_success revert b5); intro W b5 K) | ((fail_if_success revert b6); intro W b6 K) | ((fail_if_success revert b7); intro W b7 K) | ((fail_if_success revert b8); intro W b8 K) | ((fail_if_success revert b9); intro W b9 K) | ((fail_if_success revert b10); intro W b10 K) | ((fail_if_success revert b11); intro W b11 K) | ((fail_if_success revert b12); intro W b12 K) | ((fail_if_success revert b13); intro W b13 K) | ((fail_if_success revert b14); intro W b14 K) | ((fail_if_success revert b15); intro W b15 K) | ((fail_if_success revert b16); intro W b16 K) | ((fail_if_success revert b17); intro W b17 K) | ((fail_if_success revert b18); intro W b18 K) | ((fail_if_success revert b19); intro W b19 K) | ((fail_if_success revert b20); intro W b20 K) | ((fail_if_success revert b21); intro W b21 K)); have r := K.raw; simp only [Raw, RawC, and_true, true_and, Nat.zero_add, Nat.reduceAdd] at r) | (apply K.storeA; rfl; rfl; rfl; rfl; rfl; (repeat (first | with_reducible exact Upd.head _ | with_reducible apply Upd.tail)); (first | with_reducible exact big_size | with_reducible exact frac_size); rfl; rfl; rfl; clear K r; intro W K; have r := K.raw; simp only [Raw, RawC, and_true, true_and, Nat.zero_add, Nat.reduceAdd] at r))
      refine (nAddT a b _ _ _ _ _ _ _ _ _ _ _ (by first | exact Rd.nil | exact K.rd (by repeat (first | with_reducible exact List.mem_cons_self | with_reducible apply List.mem_cons_of_mem))) (by first | exact Rd.nil | exact K.rd (by repeat (first | with_reducible exact List.mem_cons_self | with_reducible apply List.mem_cons_of_mem))) hs1 hs2 F1 F2 p1).mono ?_
      rintro e W' ⟨s3, A3, n3, c3, l3, rfl, hr, hs3, hf, hb⟩
      have hf3 := Lib.hid (hf.mono K.1.size)
      replace K := K.ret hb hr hf
      clear r
      have r := K.raw
      simp only [Raw, RawC, and_true, true_and, Nat.zero_add, Nat.reduceAdd, List.toList_toArray] at r
      clear hr hf hb
      go_wp2_with (first | (apply K.alloc; rfl; rfl; (first | with_reducible exact big_zero | with_reducible exact frac_zero); clear K r; (first | ((fail_if_success revert b0); intro W b0 K) | ((fail_if_success revert b1); intro W b1 K) | ((fail_if_success revert b2); intro W b2 K) | ((fail_if_success revert b3); intro W b3 K) | ((fail_if_success revert b4); intro W b4 K) | ((fail_if_success revert b5); intro W b5 K) | ((fail_if_success revert b6); intro W b6 K) | ((fail_if_success revert b7); intro W b7 K) | ((fail_if_success revert b8); intro W b8 K) | ((fail_if_success revert b9); intro W b9 K) | ((fail_if_success revert b10); intro W b10 K) | ((fail_if_success revert b11); intro W b11 K) | ((fail_if_success revert b12); intro W b12 K) | ((fail_if_success revert b13); intro W b13 K) | ((fail_if_success revert b14); intro W b14 K) | ((fail_if_success revert b15); intro W b15 K) | ((fail_if_success revert b16); intro W b16 K) | ((fail_if_success revert b17); intro W b17 K) | ((fail_if_success revert b18); intro W b18 K) | ((fail_if_success revert b19); intro W b19 K) | ((fail_if_success revert b20); intro W b20 K) | ((fail_if_success revert b21); intro W b21 K)); have r := K.raw; simp only [Raw, RawC, and_true, true_and, Nat.zero_add, Nat.reduceAdd] at r) | (apply K.box; rfl; rfl; rfl; clear K r; (first | ((fail_if_success revert b0); intro W b0 K) | ((fail_if_success revert b1); intro W b1 K) | ((fail_if_success revert b2); intro W b2 K) | ((fail_if_success revert b3); intro W b3 K) | ((fail_if_success revert b4); intro W b4 K) | ((fail_if_success revert b5); intro W b5 K) | ((fail_if_success revert b6); intro W b6 K) | ((fail_if_success revert b7); intro W b7 K) | ((fail_if_success revert b8); intro W b8 K) | ((fail_if_success revert b9); intro W b9 K) | ((fail_if_success revert b10); intro W b10 K) | ((fail_if_success revert b11); intro W b11 K) | ((fail_if_success revert b12); intro W b12 K) | ((fail_if_success revert b13); intro W b13 K) | ((fail_if_success revert b14); intro W b14 K) | ((fail_if_success revert b15); intro W b15 K) | ((fail_if_success revert b16); intro W b16 K) | ((fail_if_success revert b17); intro W b17 K) | ((fail_if_success revert b18); intro W b18 K) | ((fail_if_success revert b19); intro W b19 K) | ((fail_if_success revert b20); intro W b20 K) | ((fail_if_success revert b21); intro W b21 K)); have r := K.raw; simp only [Raw, RawC, and_true, true_and, Nat.zero_add, Nat.reduceAdd] at r) | (apply K.storeA; rfl; rfl; rfl; rfl; rfl; (repeat (first | with_reducible exact Upd.head _ | with_reducible apply Upd.tail)); (first | with_reducible exact big_size | with_reducible exact frac_size); rfl; rfl; rfl; clear K r; intro W K; have r := K.raw; simp only [Raw, RawC, and_true, true_and, Nat.zero_add, Nat.reduceAdd] at r))
      refine (nSubT (a) (b) _ _ _ _ _ _ _ _ _ _ _ (by first | exact Rd.nil | exact K.rd (by repeat (first | with_reducible exact List.mem_cons_self | with_reducible apply List.mem_cons_of_mem))) (by first | exact Rd.nil | exact K.rd (by repeat (first | with_reducible exact List.mem_cons_self | with_reducible apply List.mem_cons_of_mem))) hs1 hs2 F1 F2 p2).mono ?_
      rintro e W' ⟨s4, A4, n4, c4, l4, rfl, hr, hs4, hf, hb⟩
      have hf4 := Lib.hid (hf.mono K.1.size)
      replace K := K.ret hb hr hf
      clear r
      have r := K.raw
      simp only [Raw, RawC, and_true, true_and, Nat.zero_add, Nat.reduceAdd, List.toList_toArray] at r
      clear hr hf hb
      go_wp2_with (first | (apply K.alloc; rfl; rfl; (first | with_reducible exact big_zero | with_reducible exact frac_zero); clear K r; (first | ((fail_if_success revert b0); intro W b0 K) | ((fail_if_success revert b1); intro W b1 K) | ((fail_if_success revert b2); intro W b2 K) | ((fail_if_success revert b3); intro W b3 K) | ((fail_if_success revert b4); intro W b4 K) | ((fail_if_success revert b5); intro W b5 K) | ((fail_if_success revert b6); intro W b6 K) | ((fail_if_success revert b7); intro W b7 K) | ((fail_if_success revert b8); intro W b8 K) | ((fail_if_success revert b9); intro W b9 K) | ((fail_if_success revert b10); intro W b10 K) | ((fail_if_success revert b11); intro W b11 K) | ((fail_if_success revert b12); intro W b12 K) | ((fail_if_success revert b13); intro W b13 K) | ((fail_if_success revert b14); intro W b14 K) | ((fail_if_success revert b15); intro W b15 K) | ((fail_if_success revert b16); intro W b16 K) | ((fail_if_success revert b17); intro W b17 K) | ((fail_if_success revert b18); intro W b18 K) | ((fail_if_success revert b19); intro W b19 K) | ((fail_if_success revert b20); intro W b20 K) | ((fail_if_success revert b21); intro W b21 K)); have r := K.raw; simp only [Raw, RawC, and_true, true_and, Nat.zero_add, Nat.reduceAdd] at r) | (apply K.box; rfl; rfl; rfl; clear K r; (first | ((fail_if_success revert b0); intro W b0 K) | ((fail_if_success revert b1); intro W b1 K) | ((fail_if_success revert b2); intro W b2 K) | ((fail_if_success revert b3); intro W b3 K) | ((fail_if_success revert b4); intro W b4 K) | ((fail_if_success revert b5); intro W b5 K) | ((fail_if_success revert b6); intro W b6 K) | ((fail_if_success revert b7); intro W b7 K) | ((fail_if_success revert b8); intro W b8 K) | ((fail_if_success revert b9); intro W b9 K) | ((fail_if_success revert b10); intro W b10 K) | ((fail_if_success revert b11); intro W b11 K) | ((fail_if_success revert b12); intro W b12 K) | ((fail_if_success revert b13); intro W b13 K) | ((fail_if_success revert b14); intro W b14 K) | ((fail_if_success revert b15); intro W b15 K) | ((fail_if_success revert b16); intro W b16 K) | ((fail_if_success revert b17); intro W b17 K) | ((fail_if_success revert b18); intro W b18 K) | ((fail_if_success revert b19); intro W b19 K) | ((fail_if_success revert b20); intro W b20 K) | ((fail_if_success revert b21); intro W b21 K)); have r := K.raw; simp only [Raw, RawC, and_true, true_and, Nat.zero_add, Nat.reduceAdd] at r) | (apply K.storeA; rfl; rfl; rfl; rfl; rfl; (repeat (first | with_reducible exact Upd.head _ | with_reducible apply Upd.tail)); (first | with_reducible exact big_size | with_reducible exact frac_size); rfl; rfl; rfl; clear K r; intro W K; have r := K.raw; simp only [Raw, RawC, and_true, true_and, Nat.zero_add, Nat.reduceAdd] at r))
      refine (nMulT (a) (b) _ _ _ _ _ _ _ _ _ _ _ (by first | exact Rd.nil | exact K.rd (by repeat (first | with_reducible exact List.mem_cons_self | with_reducible apply List.mem_cons_of_mem))) (by first | exact Rd.nil | exact K.rd (by repeat (first | with_reducible exact List.mem_cons_self | with_reducible apply List.mem_cons_of_mem))) hs1 hs2 F1 F2 p3).mono ?_
      rintro e W' ⟨s5, A5, n5, c5, l5, rfl, hr, hs5, hf, hb⟩
      have hf5 := Lib.hid (hf.mono K.1.size)
      replace K := K.ret hb hr hf
      clear r
      have r := K.raw
      simp only [Raw, RawC, and_true, true_and, Nat.zero_add, Nat.reduceAdd, List.toList_toArray] at r
      clear hr hf hb
      go_wp2_with (first | (apply K.alloc; rfl; rfl; (first | with_reducible exact big_zero | with_reducible exact frac_zero); clear K r; (first | ((fail_if_success revert b0); intro W b0 K) | ((fail_if_success revert b1); intro W b1 K) | ((fail_if_success revert b2); intro W b2 K) | ((fail_if_success revert b3); intro W b3 K) | ((fail_if_success revert b4); intro W b4 K) | ((fail_if_success revert b5); intro W b5 K) | ((fail_if_success revert b6); intro W b6 K) | ((fail_if_success revert b7); intro W b7 K) | ((fail_if_success revert b8); intro W b8 K) | ((fail_if_success revert b9); intro W b9 K) | ((fail_if_success revert b10); intro W b10 K) | ((fail_if_success revert b11); intro W b11 K) | ((fail_if_success revert b12); intro W b12 K) | ((fail_if_success revert b13); intro W b13 K) | ((fail_if_success revert b14); intro W b14 K) | ((fail_if_success revert b15); intro W b15 K) | ((fail_if_success revert b16); intro W b16 K) | ((fail_if_success revert b17); intro W b17 K) | ((fail_if_success revert b18); intro W b18 K) | ((fail_if_success revert b19); intro W b19 K) | ((fail_if_success revert b20); intro W b20 K) | ((fail_if_success revert b21); intro W b21 K)); have r := K.raw; simp only [Raw, RawC, and_true, true_and, Nat.zero_add, Nat.reduceAdd] at r) | (apply K.box; rfl; rfl; rfl; clear K r; (first | ((fail_if_success revert b0); intro W b0 K) | ((fail_if_success revert b1); intro W b1 K) | ((fail_if_success revert b2); intro W b2 K) | ((fail_if_success revert b3); intro W b3 K) | ((fail_if_success revert b4); intro W b4 K) | ((fail_if_success revert b5); intro W b5 K) | ((fail_if_success revert b6); intro W b6 K) | ((fail_if_success revert b7); intro W b7 K) | ((fail_if_success revert b8); intro W b8 K) | ((fail_if_success revert b9); intro W b9 K) | ((fail_if_success revert b10); intro W b10 K) | ((fail_if_success revert b11); intro W b11 K) | ((fail_if_success revert b12); intro W b12 K) | ((fail_if_success revert b13); intro W b13 K) | ((fail_if_success revert b14); intro W b14 K) | ((fail_if_success revert b15); intro W b15 K) | ((fail_if_success revert b16); intro W b16 K) | ((fail_if_success revert b17); intro W b17 K) | ((fail_if_success revert b18); intro W b18 K) | ((fail_if_success revert b19); intro W b19 K) | ((fail_if_success revert b20); intro W b20 K) | ((fail_if_success revert b21); intro W b21 K)); have r := K.raw; simp only [Raw, RawC, and_true, true_and, Nat.zero_add, Nat.reduceAdd] at r) | (apply K.storeA; rfl; rfl; rfl; rfl; rfl; (repeat (first | with_reducible exact Upd.head _ | with_reducible apply Upd.tail)); (first | with_reducible exact big_size | with_reducible exact frac_size); rfl; rfl; rfl; clear K r; intro W K; have r := K.raw; simp only [Raw, RawC, and_true, true_and, Nat.zero_add, Nat.reduceAdd] at r))
      refine (nCompare a b _ _ _ _ _ _ _ _ _ _ _ (by first | exact Rd.nil | exact K.rd (by repeat (first | with_reducible exact List.mem_cons_self | with_reducible apply List.mem_cons_of_mem))) (by first | exact Rd.nil | exact K.rd (by repeat (first | with_reducible exact List.mem_cons_self | with_reducible apply List.mem_cons_of_mem))) hs1 hs2 F1 F2).mono ?_
      rintro e W' ⟨rfl, hb⟩
      replace K := K.keep hb
      clear r
      have r := K.raw
      simp only [Raw, RawC, and_true, true_and, Nat.zero_add, Nat.reduceAdd, List.toList_toArray] at r
      clear hb
      rw [HC.out]
      by_cases q1 : -1073741824 < a
      case neg =>
        have qd : decide (-1073741824 < a) = false := decide_eq_false q1
        clear q1 HT p1 p2 p3
        go_wp2
        go_ret
        exact ⟨rfl, K.1⟩
      by_cases q2 : a < 1073741824
      case neg =>
        have qd : decide (a < 1073741824) = false := decide_eq_false q2
        clear q2 HT p1 p2 p3
        go_wp2
        go_ret
        exact ⟨rfl, K.1⟩
      by_cases q3 : -1073741824 < b
      case neg =>
        have qd : decide (-1073741824 < b) = false := decide_eq_false q3
        clear q3 HT p1 p2 p3
        go_wp2
        go_ret
        exact ⟨rfl, K.1⟩
      by_cases q4 : b < 1073741824
      case neg =>
        have qd : decide (b < 1073741824) = false := decide_eq_false q4
        clear q4 HT p1 p2 p3
        go_wp2
        go_ret
        exact ⟨rfl, K.1⟩
      have HM := Lib.hid (mul_half ⟨q1, q2⟩ ⟨q3, q4⟩)
      have w1 : IntKind.i64.wrap (a + b) = a + b := IntWalk.i64_in _ (by omega)
      have w2 : IntKind.i64.wrap (a - b) = a - b := IntWalk.i64_in _ (by omega)
      have w3 : IntKind.i64.wrap (a * b) = a * b := IntWalk.i64_in _ HM.out
      go_wp2_with fail
      refine (nIntT (a + b) _ _ _ _ _ _ (by first | exact Rd.nil | exact K.rd (by repeat (first | with_reducible exact List.mem_cons_self | with_reducible apply List.mem_cons_of_mem))) hs3 p1 (by omega)).mono ?_
      rintro e W' ⟨rfl, hb⟩
      replace K := K.keep hb
      clear r
      have r := K.raw
      simp only [Raw, RawC, and_true, true_and, Nat.zero_add, Nat.reduceAdd, List.toList_toArray] at r
      clear hb
      go_wp2_with fail
      refine (nIntT (a - b) _ _ _ _ _ _ (by first | exact Rd.nil | exact K.rd (by repeat (first | with_reducible exact List.mem_cons_self | with_reducible apply List.mem_cons_of_mem))) hs4 p2 (by omega)).mono ?_
      rintro e W' ⟨rfl, hb⟩
      replace K := K.keep hb
      clear r
      have r := K.raw
      simp only [Raw, RawC, and_true, true_and, Nat.zero_add, Nat.reduceAdd, List.toList_toArray] at r
      clear hb
      go_wp2_with fail
      refine (nIntT (a * b) _ _ _ _ _ _ (by first | exact Rd.nil | exact K.rd (by repeat (first | with_reducible exact List.mem_cons_self | with_reducible apply List.mem_cons_of_mem))) hs5 p3 HM.out).mono ?_
      rintro e W' ⟨rfl, hb⟩
      replace K := K.keep hb
      clear r
      have r := K.raw
      simp only [Raw, RawC, and_true, true_and, Nat.zero_add, Nat.reduceAdd, List.toList_toArray] at r
      clear hb
      go_wp2
      go_ret
      exact ⟨rfl, K.1⟩
end Go.Proofs.YtkeajohkpmabcaaDoor
