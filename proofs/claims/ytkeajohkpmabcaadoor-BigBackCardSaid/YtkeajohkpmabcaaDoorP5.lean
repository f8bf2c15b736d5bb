
/- Walk over Read of package big. Conditions stand in the theorem. -/
import Derived.Test.YtkeajohkpmabcaaDoorP4
import Derived.Test.YtkeajohkpmabcaaDoorD4
import Derived.Lib.ConvBytes
import Derived.Lib.AtoiErrMem
namespace Go.Proofs.YtkeajohkpmabcaaDoor
open Go.RowKit
set_option linter.unusedVariables false
set_option linter.unusedSimpArgs false

theorem cutD (s : ByteArray) (w : World) : Calls Tryd.prog 34 #[.string s, .string ⟨#[45]⟩] w fun e w' => ∃ T : ByteArray, e = .returned (.tuple #[.string T, .bool (negL s.data.toList)]) ∧ T.data.toList = restL s.data.toList ∧ w = w' :=
  (Tryd.strings_CutPrefix s ⟨#[45]⟩ w).mono fun e w' ⟨he, hw⟩ => by
    obtain ⟨h1, h2⟩ := cut_neg s.data.toList
    have e1 : (⟨#[45]⟩ : ByteArray).data.toList = [45] := rfl
    rw [e1, h1, h2] at he
    exact ⟨_, he, rfl, hw.symm⟩
theorem trimD (T : ByteArray) (w : World) (hs : T.size ≤ 1000) : Calls Tryd.prog 35 #[.string T, .string ⟨#[48, 49, 50, 51, 52, 53, 54, 55, 56, 57]⟩] w fun e w' => ∃ R : ByteArray, e = .returned (.string R) ∧ R.data.toList = Lib.trimS T.data.toList ten ∧ Below w.heap.size w w' :=
  (Tryd.strings_Trim T ⟨#[48, 49, 50, 51, 52, 53, 54, 55, 56, 57]⟩ w (by omega) (by decide) (ascii_of_all (by decide))).mono fun e w' ⟨he, hb⟩ => ⟨_, he, rfl, hb⟩
theorem u8_small {d : Nat} (h : d < 256) : IntKind.u8.wrap ((d : Nat) : Int) = (d : Int) := by
  simp [IntKind.wrap, IntKind.bits, IntKind.signed]
  omega
theorem digs_ten {u : Nat} (h : (digs u).length ≤ 60) : (digs (10 * u)).length ≤ 61 := by
  have h1 := digs_len.1 h
  refine digs_len.2 ?_
  have h2 : pw 61 = 1048576 * pw 60 := rfl
  omega
theorem digs_ten_lt {d : Nat} (h : d < 10) : (digs d).length ≤ 1 := by
  refine digs_len.2 ?_
  have h2 : pw 1 = 1048576 := rfl
  omega
theorem wpList_conv {P : Program} {ops : Array Oper} {rest : List Oper} {o : Oper} {a : Act} {Q : Exit → Act → World → Prop} {w W' : World} (hgd : o.guard = none) (src dst : TypeId) (x : Operand) (ho : o.op = .convert src dst x) (v u : Value) (hx : a.eval x = u) (hrun : (convert src dst u).run P w = .ok v W') (h : wpList P ops Q rest (a.put o.dst v) W') : wpList P ops Q (o :: rest) a w := by
  refine wpList_plain hgd fun _ hK => ?_
  unfold Oper.wp execOp
  simp only [ho, hx, Sem.run_bind, Sem.run_pure, Result.andThen_ok, hrun]
  exact hK _ _ h
set_option maxRecDepth 100000 in
set_option maxHeartbeats 2000000 in
theorem bread_any (s : ByteArray) (w : World) (hs : s.size ≤ 1000) :
    Calls Tryd.prog 17 #[.string s] w (BigE w (readZ s.data.toList) (readE s.data.toList)) := by
  have K := St.start w
  have r := K.raw
  have HC := Lib.hid (fun W => cutD s W)
  by_cases h48 : s.data.toList = [48]
  · have hs48 : (s.toList == [48]) = true := by rw [Lib.toList_data, h48]; rfl
    rw [h48, zero_read.1, zero_read.2]
    clear h48
    go_enter Tryd.func17, Tryd.ntmps17
    go_wp2_with (first | (apply K.alloc; rfl; rfl; (first | with_reducible exact big_zero | with_reducible exact frac_zero); clear K r; (first | ((fail_if_success revert b0); intro W b0 K) | ((fail_if_success revert b1); intro W b1 K) | ((fail_if_success revert b2); intro W b2 K) | ((fail_if_success revert b3); intro W b3 K) | ((fail_if_success revert b4); intro W b4 K) | ((fail_if_success revert b5); intro W b5 K) | ((fail_if_success revert b6); intro W b6 K) | ((fail_if_success revert b7); intro W b7 K) | ((fail_if_success revert b8); intro W b8 K) | ((fail_if_success revert b9); intro W b9 K) | ((fail_if_success revert b10); intro W b10 K) | ((fail_if_success revert b11); intro W b11 K) | ((fail_if_success revert b12); intro W b12 K) | ((fail_if_success revert b13); intro W b13 K) | ((fail_if_success revert b14); intro W b14 K) | ((fail_if_success revert b15); intro W b15 K) | ((fail_if_success revert b16); intro W b16 K) | ((fail_if_success revert b17); intro W b17 K) | ((fail_if_success revert b18); intro W b18 K) | ((fail_if_success revert b19); intro W b19 K) | ((fail_if_success revert b20); intro W b20 K) | ((fail_if_success revert b21); intro W b21 K)); have r := K.raw; simp only [Raw, RawC, and_true, true_and, Nat.zero_add, Nat.reduceAdd] at r) | (apply K.box; rfl; rfl; rfl; clear K r; (first | ((fail_if_success revert b0); intro W b0 K) | ((fail_if_success revert b1); intro W b1 K) | ((fail_if_success revert b2); intro W b2 K) | ((fail_if_success revert b3); intro W b3 K) | ((fail_if_success revert b4); intro W b4 K) | ((fail_if_success revert b5); intro W b5 K) | ((fail_if_success revert b6); intro W b6 K) | ((fail_if_success revert b7); intro W b7 K) | ((fail_if_success revert b8); intro W b8 K) | ((fail_if_success revert b9); intro W b9 K) | ((fail_if_success revert b10); intro W b10 K) | ((fail_if_success revert b11); intro W b11 K) | ((fail_if_success revert b12); intro W b12 K) | ((fail_if_success revert b13); intro W b13 K) | ((fail_if_success revert b14); intro W b14 K) | ((fail_if_success revert b15); intro W b15 K) | ((fail_if_success revert b16); intro W b16 K) | ((fail_if_success revert b17); intro W b17 K) | ((fail_if_success revert b18); intro W b18 K) | ((fail_if_success revert b19); intro W b19 K) | ((fail_if_success revert b20); intro W b20 K) | ((fail_if_success revert b21); intro W b21 K)); have r := K.raw; simp only [Raw, RawC, and_true, true_and, Nat.zero_add, Nat.reduceAdd] at r) | (apply K.storeA; rfl; rfl; rfl; rfl; rfl; (repeat (first | with_reducible exact Upd.head _ | with_reducible apply Upd.tail)); (first | with_reducible exact big_size | with_reducible exact frac_size); rfl; rfl; rfl; clear K r; intro W K; have r := K.raw; simp only [Raw, RawC, and_true, true_and, Nat.zero_add, Nat.reduceAdd] at r))
    refine (HC.out _).mono ?_
    rintro e w1 ⟨T, rfl, hT, rfl⟩
    go_wp2_with (first | (apply K.alloc; rfl; rfl; (first | with_reducible exact big_zero | with_reducible exact frac_zero); clear K r; (first | ((fail_if_success revert b0); intro W b0 K) | ((fail_if_success revert b1); intro W b1 K) | ((fail_if_success revert b2); intro W b2 K) | ((fail_if_success revert b3); intro W b3 K) | ((fail_if_success revert b4); intro W b4 K) | ((fail_if_success revert b5); intro W b5 K) | ((fail_if_success revert b6); intro W b6 K) | ((fail_if_success revert b7); intro W b7 K) | ((fail_if_success revert b8); intro W b8 K) | ((fail_if_success revert b9); intro W b9 K) | ((fail_if_success revert b10); intro W b10 K) | ((fail_if_success revert b11); intro W b11 K) | ((fail_if_success revert b12); intro W b12 K) | ((fail_if_success revert b13); intro W b13 K) | ((fail_if_success revert b14); intro W b14 K) | ((fail_if_success revert b15); intro W b15 K) | ((fail_if_success revert b16); intro W b16 K) | ((fail_if_success revert b17); intro W b17 K) | ((fail_if_success revert b18); intro W b18 K) | ((fail_if_success revert b19); intro W b19 K) | ((fail_if_success revert b20); intro W b20 K) | ((fail_if_success revert b21); intro W b21 K)); have r := K.raw; simp only [Raw, RawC, and_true, true_and, Nat.zero_add, Nat.reduceAdd] at r) | (apply K.box; rfl; rfl; rfl; clear K r; (first | ((fail_if_success revert b0); intro W b0 K) | ((fail_if_success revert b1); intro W b1 K) | ((fail_if_success revert b2); intro W b2 K) | ((fail_if_success revert b3); intro W b3 K) | ((fail_if_success revert b4); intro W b4 K) | ((fail_if_success revert b5); intro W b5 K) | ((fail_if_success revert b6); intro W b6 K) | ((fail_if_success revert b7); intro W b7 K) | ((fail_if_success revert b8); intro W b8 K) | ((fail_if_success revert b9); intro W b9 K) | ((fail_if_success revert b10); intro W b10 K) | ((fail_if_success revert b11); intro W b11 K) | ((fail_if_success revert b12); intro W b12 K) | ((fail_if_success revert b13); intro W b13 K) | ((fail_if_success revert b14); intro W b14 K) | ((fail_if_success revert b15); intro W b15 K) | ((fail_if_success revert b16); intro W b16 K) | ((fail_if_success revert b17); intro W b17 K) | ((fail_if_success revert b18); intro W b18 K) | ((fail_if_success revert b19); intro W b19 K) | ((fail_if_success revert b20); intro W b20 K) | ((fail_if_success revert b21); intro W b21 K)); have r := K.raw; simp only [Raw, RawC, and_true, true_and, Nat.zero_add, Nat.reduceAdd] at r) | (apply K.storeA; rfl; rfl; rfl; rfl; rfl; (repeat (first | with_reducible exact Upd.head _ | with_reducible apply Upd.tail)); (first | with_reducible exact big_size | with_reducible exact frac_size); rfl; rfl; rfl; clear K r; intro W K; have r := K.raw; simp only [Raw, RawC, and_true, true_and, Nat.zero_add, Nat.reduceAdd] at r))
    exact bodyPost_ret (v := .tuple #[.agg #[.int .i64 0, .slice none 0 0], .int .i64 0]) (by simp [results, Tryd.results17, go_sem, r]) rfl ⟨0, none, 0, 0, [], rfl, Rd.nil, Std.zero, FrA.none, K.1⟩
  have hs48 : (s.toList == [48]) = false := by rw [Lib.toList_data]; exact beq_eq_false_iff_ne.2 h48
  have hfg := form_good h48
  have hsl : s.data.toList.length ≤ 1000 := by rw [← Lib.size_eq]; exact hs
  cases hf : formL s.data.toList
  · obtain ⟨e1, e2⟩ := bad_read hf
    rw [e1, e2]
    clear e1 e2
    rw [hf] at hfg
    replace hfg := Lib.hid hfg.symm
    clear h48 hf
    go_enter Tryd.func17, Tryd.ntmps17
    go_wp2_with (first | (apply K.alloc; rfl; rfl; (first | with_reducible exact big_zero | with_reducible exact frac_zero); clear K r; (first | ((fail_if_success revert b0); intro W b0 K) | ((fail_if_success revert b1); intro W b1 K) | ((fail_if_success revert b2); intro W b2 K) | ((fail_if_success revert b3); intro W b3 K) | ((fail_if_success revert b4); intro W b4 K) | ((fail_if_success revert b5); intro W b5 K) | ((fail_if_success revert b6); intro W b6 K) | ((fail_if_success revert b7); intro W b7 K) | ((fail_if_success revert b8); intro W b8 K) | ((fail_if_success revert b9); intro W b9 K) | ((fail_if_success revert b10); intro W b10 K) | ((fail_if_success revert b11); intro W b11 K) | ((fail_if_success revert b12); intro W b12 K) | ((fail_if_success revert b13); intro W b13 K) | ((fail_if_success revert b14); intro W b14 K) | ((fail_if_success revert b15); intro W b15 K) | ((fail_if_success revert b16); intro W b16 K) | ((fail_if_success revert b17); intro W b17 K) | ((fail_if_success revert b18); intro W b18 K) | ((fail_if_success revert b19); intro W b19 K) | ((fail_if_success revert b20); intro W b20 K) | ((fail_if_success revert b21); intro W b21 K)); have r := K.raw; simp only [Raw, RawC, and_true, true_and, Nat.zero_add, Nat.reduceAdd] at r) | (apply K.box; rfl; rfl; rfl; clear K r; (first | ((fail_if_success revert b0); intro W b0 K) | ((fail_if_success revert b1); intro W b1 K) | ((fail_if_success revert b2); intro W b2 K) | ((fail_if_success revert b3); intro W b3 K) | ((fail_if_success revert b4); intro W b4 K) | ((fail_if_success revert b5); intro W b5 K) | ((fail_if_success revert b6); intro W b6 K) | ((fail_if_success revert b7); intro W b7 K) | ((fail_if_success revert b8); intro W b8 K) | ((fail_if_success revert b9); intro W b9 K) | ((fail_if_success revert b10); intro W b10 K) | ((fail_if_success revert b11); intro W b11 K) | ((fail_if_success revert b12); intro W b12 K) | ((fail_if_success revert b13); intro W b13 K) | ((fail_if_success revert b14); intro W b14 K) | ((fail_if_success revert b15); intro W b15 K) | ((fail_if_success revert b16); intro W b16 K) | ((fail_if_success revert b17); intro W b17 K) | ((fail_if_success revert b18); intro W b18 K) | ((fail_if_success revert b19); intro W b19 K) | ((fail_if_success revert b20); intro W b20 K) | ((fail_if_success revert b21); intro W b21 K)); have r := K.raw; simp only [Raw, RawC, and_true, true_and, Nat.zero_add, Nat.reduceAdd] at r) | (apply K.storeA; rfl; rfl; rfl; rfl; rfl; (repeat (first | with_reducible exact Upd.head _ | with_reducible apply Upd.tail)); (first | with_reducible exact big_size | with_reducible exact frac_size); rfl; rfl; rfl; clear K r; intro W K; have r := K.raw; simp only [Raw, RawC, and_true, true_and, Nat.zero_add, Nat.reduceAdd] at r))
    refine (HC.out _).mono ?_
    rintro e w1 ⟨T, rfl, hT, rfl⟩
    generalize s.data.toList = l at *
    have hTs : T.size ≤ 1000 := by
      rw [Lib.size_eq, hT]
      refine Nat.le_trans ?_ hsl
      unfold restL
      cases l with
      | nil => exact Nat.le_refl _
      | cons b l => dsimp only; split <;> simp
    have hg := hfg.out
    rw [← hT] at hg
    cases hd : T.data.toList with
    | nil =>
      have h1 : T.toList = [] := by rw [Lib.toList_data, hd]
      clear hd hg hfg hT
      go_wp2_with (first | (apply K.alloc; rfl; rfl; (first | with_reducible exact big_zero | with_reducible exact frac_zero); clear K r; (first | ((fail_if_success revert b0); intro W b0 K) | ((fail_if_success revert b1); intro W b1 K) | ((fail_if_success revert b2); intro W b2 K) | ((fail_if_success revert b3); intro W b3 K) | ((fail_if_success revert b4); intro W b4 K) | ((fail_if_success revert b5); intro W b5 K) | ((fail_if_success revert b6); intro W b6 K) | ((fail_if_success revert b7); intro W b7 K) | ((fail_if_success revert b8); intro W b8 K) | ((fail_if_success revert b9); intro W b9 K) | ((fail_if_success revert b10); intro W b10 K) | ((fail_if_success revert b11); intro W b11 K) | ((fail_if_success revert b12); intro W b12 K) | ((fail_if_success revert b13); intro W b13 K) | ((fail_if_success revert b14); intro W b14 K) | ((fail_if_success revert b15); intro W b15 K) | ((fail_if_success revert b16); intro W b16 K) | ((fail_if_success revert b17); intro W b17 K) | ((fail_if_success revert b18); intro W b18 K) | ((fail_if_success revert b19); intro W b19 K) | ((fail_if_success revert b20); intro W b20 K) | ((fail_if_success revert b21); intro W b21 K)); have r := K.raw; simp only [Raw, RawC, and_true, true_and, Nat.zero_add, Nat.reduceAdd] at r) | (apply K.box; rfl; rfl; rfl; clear K r; (first | ((fail_if_success revert b0); intro W b0 K) | ((fail_if_success revert b1); intro W b1 K) | ((fail_if_success revert b2); intro W b2 K) | ((fail_if_success revert b3); intro W b3 K) | ((fail_if_success revert b4); intro W b4 K) | ((fail_if_success revert b5); intro W b5 K) | ((fail_if_success revert b6); intro W b6 K) | ((fail_if_success revert b7); intro W b7 K) | ((fail_if_success revert b8); intro W b8 K) | ((fail_if_success revert b9); intro W b9 K) | ((fail_if_success revert b10); intro W b10 K) | ((fail_if_success revert b11); intro W b11 K) | ((fail_if_success revert b12); intro W b12 K) | ((fail_if_success revert b13); intro W b13 K) | ((fail_if_success revert b14); intro W b14 K) | ((fail_if_success revert b15); intro W b15 K) | ((fail_if_success revert b16); intro W b16 K) | ((fail_if_success revert b17); intro W b17 K) | ((fail_if_success revert b18); intro W b18 K) | ((fail_if_success revert b19); intro W b19 K) | ((fail_if_success revert b20); intro W b20 K) | ((fail_if_success revert b21); intro W b21 K)); have r := K.raw; simp only [Raw, RawC, and_true, true_and, Nat.zero_add, Nat.reduceAdd] at r) | (apply K.storeA; rfl; rfl; rfl; rfl; rfl; (repeat (first | with_reducible exact Upd.head _ | with_reducible apply Upd.tail)); (first | with_reducible exact big_size | with_reducible exact frac_size); rfl; rfl; rfl; clear K r; intro W K; have r := K.raw; simp only [Raw, RawC, and_true, true_and, Nat.zero_add, Nat.reduceAdd] at r))
      exact bodyPost_ret (v := .tuple #[.agg #[.int .i64 0, .slice none 0 0], .int .i64 2]) (by simp [results, Tryd.results17, go_sem, r]) rfl ⟨0, none, 0, 0, [], rfl, Rd.nil, Std.zero, FrA.none, K.1⟩
    | cons b t =>
      have h1 : ¬ T.toList = [] := by rw [Lib.toList_data, hd]; simp
      have h2 : 0 < T.size := by rw [Lib.size_eq, hd]; simp
      have h3 : T[0]'h2 = b := by
        have := List.getElem_of_eq hd (i := 0) (by rw [← Lib.size_eq]; exact h2)
        simp only [Array.getElem_toList, List.getElem_cons_zero] at this
        exact this
      have h3' : ((T[0]'h2).toNat : Int) = (b.toNat : Int) := by rw [h3]
      by_cases hb : b = 48
      · have h4 : ((T[0]'h2).toNat : Int) = 48 := by rw [h3', hb]; rfl
        clear h3 h3' hd hg hfg hT
        go_wp2_with (first | (apply K.alloc; rfl; rfl; (first | with_reducible exact big_zero | with_reducible exact frac_zero); clear K r; (first | ((fail_if_success revert b0); intro W b0 K) | ((fail_if_success revert b1); intro W b1 K) | ((fail_if_success revert b2); intro W b2 K) | ((fail_if_success revert b3); intro W b3 K) | ((fail_if_success revert b4); intro W b4 K) | ((fail_if_success revert b5); intro W b5 K) | ((fail_if_success revert b6); intro W b6 K) | ((fail_if_success revert b7); intro W b7 K) | ((fail_if_success revert b8); intro W b8 K) | ((fail_if_success revert b9); intro W b9 K) | ((fail_if_success revert b10); intro W b10 K) | ((fail_if_success revert b11); intro W b11 K) | ((fail_if_success revert b12); intro W b12 K) | ((fail_if_success revert b13); intro W b13 K) | ((fail_if_success revert b14); intro W b14 K) | ((fail_if_success revert b15); intro W b15 K) | ((fail_if_success revert b16); intro W b16 K) | ((fail_if_success revert b17); intro W b17 K) | ((fail_if_success revert b18); intro W b18 K) | ((fail_if_success revert b19); intro W b19 K) | ((fail_if_success revert b20); intro W b20 K) | ((fail_if_success revert b21); intro W b21 K)); have r := K.raw; simp only [Raw, RawC, and_true, true_and, Nat.zero_add, Nat.reduceAdd] at r) | (apply K.box; rfl; rfl; rfl; clear K r; (first | ((fail_if_success revert b0); intro W b0 K) | ((fail_if_success revert b1); intro W b1 K) | ((fail_if_success revert b2); intro W b2 K) | ((fail_if_success revert b3); intro W b3 K) | ((fail_if_success revert b4); intro W b4 K) | ((fail_if_success revert b5); intro W b5 K) | ((fail_if_success revert b6); intro W b6 K) | ((fail_if_success revert b7); intro W b7 K) | ((fail_if_success revert b8); intro W b8 K) | ((fail_if_success revert b9); intro W b9 K) | ((fail_if_success revert b10); intro W b10 K) | ((fail_if_success revert b11); intro W b11 K) | ((fail_if_success revert b12); intro W b12 K) | ((fail_if_success revert b13); intro W b13 K) | ((fail_if_success revert b14); intro W b14 K) | ((fail_if_success revert b15); intro W b15 K) | ((fail_if_success revert b16); intro W b16 K) | ((fail_if_success revert b17); intro W b17 K) | ((fail_if_success revert b18); intro W b18 K) | ((fail_if_success revert b19); intro W b19 K) | ((fail_if_success revert b20); intro W b20 K) | ((fail_if_success revert b21); intro W b21 K)); have r := K.raw; simp only [Raw, RawC, and_true, true_and, Nat.zero_add, Nat.reduceAdd] at r) | (apply K.storeA; rfl; rfl; rfl; rfl; rfl; (repeat (first | with_reducible exact Upd.head _ | with_reducible apply Upd.tail)); (first | with_reducible exact big_size | with_reducible exact frac_size); rfl; rfl; rfl; clear K r; intro W K; have r := K.raw; simp only [Raw, RawC, and_true, true_and, Nat.zero_add, Nat.reduceAdd] at r))
        exact bodyPost_ret (v := .tuple #[.agg #[.int .i64 0, .slice none 0 0], .int .i64 2]) (by simp [results, Tryd.results17, go_sem, r]) rfl ⟨0, none, 0, 0, [], rfl, Rd.nil, Std.zero, FrA.none, K.1⟩
      · have h4 : ¬ ((T[0]'h2).toNat : Int) = 48 := by
          rw [h3']
          intro e
          apply hb
          have : b.toNat = (48 : UInt8).toNat := by have : (48 : UInt8).toNat = 48 := rfl; omega
          exact UInt8.toNat_inj.1 this
        have h5 : (((T[0]'h2).toNat : Int) == 48) = false := beq_eq_false_iff_ne.2 h4
        have h6 : T.toList.isEmpty = false := by cases h : T.toList with
          | nil => exact absurd h h1
          | cons x y => rfl
        have hna : ¬ T.data.toList.all isD = true := fun h => by
          rw [hd] at hg h
          have := (goodT_cons (b := b) (l := t)).2 ⟨hb, h⟩
          rw [hg] at this
          cases this
        have HTr := Lib.hid (fun W => trimD T W hTs)
        have Hna := Lib.hid (fun R : ByteArray => (show R.data.toList = Lib.trimS T.data.toList ten → ¬ R.toList = [] from fun h e => hna ((trim_ten _).1 (by rw [← h, ← Lib.toList_data]; exact e))))
        clear h3 h3' hd hg hfg hT hna
        go_wp2_with fail
        refine (HTr.out _).mono ?_
        rintro e w2 ⟨R, rfl, hR, hb⟩
        have hR0 := Hna.out R hR
        have hR1 : R.toList.isEmpty = false := by cases h : R.toList with
          | nil => exact absurd h hR0
          | cons x y => rfl
        clear hR Hna HTr
        replace K := K.keep hb
        clear r
        have r := K.raw
        simp only [Raw, RawC, and_true, true_and, Nat.zero_add, Nat.reduceAdd, List.toList_toArray] at r
        clear hb
        go_wp2_with (first | (apply K.alloc; rfl; rfl; (first | with_reducible exact big_zero | with_reducible exact frac_zero); clear K r; (first | ((fail_if_success revert b0); intro W b0 K) | ((fail_if_success revert b1); intro W b1 K) | ((fail_if_success revert b2); intro W b2 K) | ((fail_if_success revert b3); intro W b3 K) | ((fail_if_success revert b4); intro W b4 K) | ((fail_if_success revert b5); intro W b5 K) | ((fail_if_success revert b6); intro W b6 K) | ((fail_if_success revert b7); intro W b7 K) | ((fail_if_success revert b8); intro W b8 K) | ((fail_if_success revert b9); intro W b9 K) | ((fail_if_success revert b10); intro W b10 K) | ((fail_if_success revert b11); intro W b11 K) | ((fail_if_success revert b12); intro W b12 K) | ((fail_if_success revert b13); intro W b13 K) | ((fail_if_success revert b14); intro W b14 K) | ((fail_if_success revert b15); intro W b15 K) | ((fail_if_success revert b16); intro W b16 K) | ((fail_if_success revert b17); intro W b17 K) | ((fail_if_success revert b18); intro W b18 K) | ((fail_if_success revert b19); intro W b19 K) | ((fail_if_success revert b20); intro W b20 K) | ((fail_if_success revert b21); intro W b21 K)); have r := K.raw; simp only [Raw, RawC, and_true, true_and, Nat.zero_add, Nat.reduceAdd] at r) | (apply K.box; rfl; rfl; rfl; clear K r; (first | ((fail_if_success revert b0); intro W b0 K) | ((fail_if_success revert b1); intro W b1 K) | ((fail_if_success revert b2); intro W b2 K) | ((fail_if_success revert b3); intro W b3 K) | ((fail_if_success revert b4); intro W b4 K) | ((fail_if_success revert b5); intro W b5 K) | ((fail_if_success revert b6); intro W b6 K) | ((fail_if_success revert b7); intro W b7 K) | ((fail_if_success revert b8); intro W b8 K) | ((fail_if_success revert b9); intro W b9 K) | ((fail_if_success revert b10); intro W b10 K) | ((fail_if_success revert b11); intro W b11 K) | ((fail_if_success revert b12); intro W b12 K) | ((fail_if_success revert b13); intro W b13 K) | ((fail_if_success revert b14); intro W b14 K) | ((fail_if_success revert b15); intro W b15 K) | ((fail_if_success revert b16); intro W b16 K) | ((fail_if_success revert b17); intro W b17 K) | ((fail_if_success revert b18); intro W b18 K) | ((fail_if_success revert b19); intro W b19 K) | ((fail_if_success revert b20); intro W b20 K) | ((fail_if_success revert b21); intro W b21 K)); have r := K.raw; simp only [Raw, RawC, and_true, true_and, Nat.zero_add, Nat.reduceAdd] at r) | (apply K.storeA; rfl; rfl; rfl; rfl; rfl; (repeat (first | with_reducible exact Upd.head _ | with_reducible apply Upd.tail)); (first | with_reducible exact big_size | with_reducible exact frac_size); rfl; rfl; rfl; clear K r; intro W K; have r := K.raw; simp only [Raw, RawC, and_true, true_and, Nat.zero_add, Nat.reduceAdd] at r))
        exact bodyPost_ret (v := .tuple #[.agg #[.int .i64 0, .slice none 0 0], .int .i64 2]) (by simp [results, Tryd.results17, go_sem, r]) rfl ⟨0, none, 0, 0, [], rfl, Rd.nil, Std.zero, FrA.none, K.1⟩
  · obtain ⟨G1, G2⟩ := good_read hf
    rw [hf] at hfg
    have HG1 := Lib.hid G1
    have HG2 := Lib.hid G2
    replace hfg := hfg.symm
    generalize readZ s.data.toList = Z at *
    generalize readE s.data.toList = E at *
    clear h48 hf G1 G2
    go_enter Tryd.func17, Tryd.ntmps17
    go_wp2_with (first | (apply K.alloc; rfl; rfl; (first | with_reducible exact big_zero | with_reducible exact frac_zero); clear K r; (first | ((fail_if_success revert b0); intro W b0 K) | ((fail_if_success revert b1); intro W b1 K) | ((fail_if_success revert b2); intro W b2 K) | ((fail_if_success revert b3); intro W b3 K) | ((fail_if_success revert b4); intro W b4 K) | ((fail_if_success revert b5); intro W b5 K) | ((fail_if_success revert b6); intro W b6 K) | ((fail_if_success revert b7); intro W b7 K) | ((fail_if_success revert b8); intro W b8 K) | ((fail_if_success revert b9); intro W b9 K) | ((fail_if_success revert b10); intro W b10 K) | ((fail_if_success revert b11); intro W b11 K) | ((fail_if_success revert b12); intro W b12 K) | ((fail_if_success revert b13); intro W b13 K) | ((fail_if_success revert b14); intro W b14 K) | ((fail_if_success revert b15); intro W b15 K) | ((fail_if_success revert b16); intro W b16 K) | ((fail_if_success revert b17); intro W b17 K) | ((fail_if_success revert b18); intro W b18 K) | ((fail_if_success revert b19); intro W b19 K) | ((fail_if_success revert b20); intro W b20 K) | ((fail_if_success revert b21); intro W b21 K)); have r := K.raw; simp only [Raw, RawC, and_true, true_and, Nat.zero_add, Nat.reduceAdd] at r) | (apply K.box; rfl; rfl; rfl; clear K r; (first | ((fail_if_success revert b0); intro W b0 K) | ((fail_if_success revert b1); intro W b1 K) | ((fail_if_success revert b2); intro W b2 K) | ((fail_if_success revert b3); intro W b3 K) | ((fail_if_success revert b4); intro W b4 K) | ((fail_if_success revert b5); intro W b5 K) | ((fail_if_success revert b6); intro W b6 K) | ((fail_if_success revert b7); intro W b7 K) | ((fail_if_success revert b8); intro W b8 K) | ((fail_if_success revert b9); intro W b9 K) | ((fail_if_success revert b10); intro W b10 K) | ((fail_if_success revert b11); intro W b11 K) | ((fail_if_success revert b12); intro W b12 K) | ((fail_if_success revert b13); intro W b13 K) | ((fail_if_success revert b14); intro W b14 K) | ((fail_if_success revert b15); intro W b15 K) | ((fail_if_success revert b16); intro W b16 K) | ((fail_if_success revert b17); intro W b17 K) | ((fail_if_success revert b18); intro W b18 K) | ((fail_if_success revert b19); intro W b19 K) | ((fail_if_success revert b20); intro W b20 K) | ((fail_if_success revert b21); intro W b21 K)); have r := K.raw; simp only [Raw, RawC, and_true, true_and, Nat.zero_add, Nat.reduceAdd] at r) | (apply K.storeA; rfl; rfl; rfl; rfl; rfl; (repeat (first | with_reducible exact Upd.head _ | with_reducible apply Upd.tail)); (first | with_reducible exact big_size | with_reducible exact frac_size); rfl; rfl; rfl; clear K r; intro W K; have r := K.raw; simp only [Raw, RawC, and_true, true_and, Nat.zero_add, Nat.reduceAdd] at r))
    refine (HC.out _).mono ?_
    rintro e w1 ⟨T, rfl, hT, rfl⟩
    generalize s.data.toList = l at *
    have hTs : T.size ≤ 1000 := by
      rw [Lib.size_eq, hT]
      refine Nat.le_trans ?_ hsl
      unfold restL
      cases l with
      | nil => exact Nat.le_refl _
      | cons b l => dsimp only; split <;> simp
    rw [← hT] at hfg
    rw [← hT] at HG1 HG2
    have hall : T.data.toList.all isD = true := by
      cases hd : T.data.toList with
      | nil => rfl
      | cons b t => rw [hd] at hfg; exact (goodT_cons.1 hfg).2
    have h1 : ¬ T.toList = [] := by
      rw [Lib.toList_data]; intro h; rw [h] at hfg; cases hfg
    have h6 : T.toList.isEmpty = false := by cases h : T.toList with
      | nil => exact absurd h h1
      | cons x y => rfl
    have h2 : 0 < T.size := by
      rw [Lib.size_eq]; rw [Lib.toList_data] at h1; exact List.length_pos_iff.2 h1
    have h4 : ¬ ((T[0]'h2).toNat : Int) = 48 := by
      cases hd : T.data.toList with
      | nil => rw [Lib.toList_data, hd] at h1; exact absurd rfl h1
      | cons b t =>
        have h3 : T[0]'h2 = b := by
          have := List.getElem_of_eq hd (i := 0) (by rw [← Lib.size_eq]; exact h2)
          simp only [Array.getElem_toList, List.getElem_cons_zero] at this
          exact this
        rw [hd] at hfg
        intro e
        apply (goodT_cons.1 hfg).1
        rw [h3] at e
        have : b.toNat = (48 : UInt8).toNat := by have : (48 : UInt8).toNat = 48 := rfl; omega
        exact UInt8.toNat_inj.1 this
    have h5 : (((T[0]'h2).toNat : Int) == 48) = false := beq_eq_false_iff_ne.2 h4
    have HTr := Lib.hid (fun W => trimD T W hTs)
    have Hna := Lib.hid (fun R : ByteArray => (show R.data.toList = Lib.trimS T.data.toList ten → R = ⟨#[]⟩ from fun h => ByteArray.ext (Array.toList_inj.1 (h.trans ((trim_ten _).2 hall)))))
    have Hall := Lib.hid (show ∀ k c, T.data.toList[k]? = some c → isD c = true from fun k c h => List.all_eq_true.1 hall c (List.mem_of_getElem? h))
    clear hall hT hfg
    go_wp2_with fail
    refine (HTr.out _).mono ?_
    rintro e w2 ⟨R, rfl, hR, hb⟩
    have hR0 := Hna.out R hR
    subst hR0
    clear hR Hna HTr
    replace K := K.keep hb
    clear r
    have r := K.raw
    simp only [Raw, RawC, and_true, true_and, Nat.zero_add, Nat.reduceAdd, List.toList_toArray] at r
    clear hb
    have hcv := Lib.run_convert_string_bytes (P := Tryd.prog) w2 9 55 5 T (u := .string) Tryd.underlying9 Tryd.underlying55 Tryd.underlying5
    have hby := Lib.hid (fun j hj => Lib.bytesWorld_cell w2 5 T j hj)
    have hbb := Lib.bytesWorld_below w2 5 T
    have hbs := Lib.bytesWorld_size w2 5 T
    generalize Lib.bytesWorld w2 5 T = w3 at *
    generalize grownCap w2 T.size 0 5 = cp at *
    replace K := K.keep hbb
    clear r
    have r := K.raw
    simp only [Raw, RawC, and_true, true_and, Nat.zero_add, Nat.reduceAdd, List.toList_toArray] at r
    obtain ⟨g, hg⟩ : ∃ g, g = w2.heap.size := ⟨_, rfl⟩
    rw [← hg] at hby hcv hbs
    have hg3 : g < w3.heap.size := by omega
    clear hbb hbs hg
    have Hcv := Lib.hid hcv
    clear hcv
    go_wp2_with (apply wpList_conv; rfl; rfl; rfl; exact Hcv.out)
    have HL := Lib.hid (Lib.size_eq T)
    clear Hcv h1 h4 h5 h6 hs48 hsl
    go_loopg [6, 33] T.size (fun gk s6 s33 wr => ∃ (k : Nat) (A' : Option Addr) (n' c' : Nat), k ≤ T.size ∧ gk = T.size - k ∧ s6 = .slice A' n' c' ∧ s33 = .int .i64 k ∧ RdI wr wr.heap.size A' n' c' (digs (numF (T.data.toList.take k))) ∧ n' ≤ 60 ∧ Hid (FrA w3.heap.size A') ∧ Below w3.heap.size w3 wr)
    case atStart => exact ⟨0, none, 0, 0, Nat.zero_le _, rfl, rfl, rfl, by rw [List.take_zero]; exact (show RdI _ _ none 0 0 (digs 0) from by rw [digs_zero]; exact Rd.nil), by omega, Lib.hid FrA.none, Below.refl _ _⟩
    case round =>
      clear r
      obtain ⟨k, A', n', c', hk, rfl, rfl, rfl, hr, hn60, HF, hbel⟩ := hrel
      have hlen := hr.len
      have hcap := hr.caps
      by_cases hlt : k < T.size
      · obtain ⟨c, hc⟩ : ∃ c, T.data.toList[k]? = some c := ⟨_, List.getElem?_eq_getElem (by rw [← Lib.size_eq]; exact hlt)⟩
        have hD := Hall.out k c hc
        have hcell := (hbel.cell (p := ⟨g, k, none⟩) hg3).trans (hby.out k hlt)
        have hst := num_step hc
        rw [show T.data.toList.getD k 0 = c from by rw [List.getD_eq_getElem?_getD, hc]; rfl] at hcell
        obtain ⟨cn, hcn⟩ : ∃ cn, cn = c.toNat := ⟨_, rfl⟩
        rw [← hcn] at hcell hst
        have hcr : 48 ≤ cn ∧ cn ≤ 57 := by
          unfold isD at hD
          simp only [Bool.and_eq_true, decide_eq_true_eq] at hD
          omega
        obtain ⟨d, hd⟩ : ∃ d, d = cn - 48 := ⟨_, rfl⟩
        rw [← hd] at hst
        generalize numF (T.data.toList.take k) = u at *
        have Hst := Lib.hid hst
        have hw8 : IntKind.u8.wrap ((cn : Int) - 48) = (d : Int) := by
          rw [show (cn : Int) - 48 = ((d : Nat) : Int) by omega]
          exact u8_small (by omega)
        have hw64 : IntKind.i64.wrap (d : Int) = (d : Int) := IntWalk.i64_in _ (by omega)
        have hki : (k : Int) < (T.size : Int) := by omega
        have hk0 : (0 : Int) ≤ (k : Int) := by omega
        have hulen : (digs u).length ≤ 60 := by omega
        have h10 := digs_ten hulen
        have HM := Lib.hid (fun (W : World) (H : Nat) (hH : wr.heap.size = H) (hW : W = wr.alloc (.cells #[.int .i64 10] 3)) => (mulD A' (some ⟨H, 0, none⟩) n' c' 1 1 (digs u) [10] W (by rw [hW]; exact hr.up (flat_lasts _) ((Below.refl _ _).alloc (Nat.le_refl _) _)) (by rw [hW]; exact Rd.litG iSized (w := wr) 3 [10] #[.int .i64 10] 1 H hH rfl rfl (by omega)) (digs_cn u).1 (DgOk.cons.2 ⟨by omega, DgOk.nil⟩) (by omega) (by omega)).mono fun e W' hd => (show DigR W (digs (10 * u)) e W' from by
          rw [digs_val] at hd
          have e1 : ((u : Int) * val [10]).toNat = 10 * u := by simp [val]; omega
          rw [e1] at hd; exact hd))
        have HTr := Lib.hid (fun (w4 W : World) (H : Nat) (hH : w4.heap.size = H) (hW : W = w4.alloc (.cells #[.int .i64 (d : Int)] 3)) => (trim_any (some ⟨H, 0, none⟩) 1 1 [(d : Int)] W (by rw [hW]; exact Rd.litG iSized (w := w4) 3 [(d : Int)] #[.int .i64 (d : Int)] 1 H hH rfl rfl (by omega))))
        have HAd := Lib.hid (fun (A4 A5 : Option Addr) (n4 c4 n5 c5 : Nat) (W : World) (h1 : RdI W W.heap.size A4 n4 c4 (digs (10 * u))) (h2 : RdI W W.heap.size A5 n5 c5 (digs d)) => (addD A4 A5 n4 c4 n5 c5 (digs (10 * u)) (digs d) W h1 h2 (digs_cn _).1 (digs_cn _).1 (by have := h1.len; omega) (by have := h2.len; have := digs_ten_lt (show d < 10 by omega); omega)).mono fun e W' hd => (show DigR W (digs (numF (T.data.toList.take (k + 1)))) e W' from by
          rw [digs_val, digs_val] at hd
          rw [Hst.out]
          have e1 : (((10 * u : Nat) : Int) + (d : Int)).toNat = 10 * u + d := by omega
          rw [e1] at hd; exact hd))
        have Hd1 := Lib.hid (digs_one (d := d) (by omega))
        clear hst hc hD hcn hcr hd Hst
        go_wp2_with fail
        refine (HM.out _ _ rfl rfl).mono ?_
        rintro e w4 ⟨A4, n4, c4, rfl, hr4, hf4, hb4⟩
        have hba := hbel.alloc hbel.size (.cells #[.int .i64 10] 3)
        have hb34 := hba.trans (hb4.mono hba.size)
        clear HM hb4 hf4 hr
        go_wp2_with fail
        refine (HTr.out _ _ _ rfl rfl).mono ?_
        rintro e _ ⟨⟨j, hj, rfl, htl⟩, rfl⟩
        have hbb := hb34.alloc hb34.size (.cells #[.int .i64 (d : Int)] 3)
        have hrt : RdI (w4.alloc (.cells #[.int .i64 (d : Int)] 3)) (w4.alloc (.cells #[.int .i64 (d : Int)] 3)).heap.size (some ⟨w4.heap.size, 0, none⟩) j 1 (digs d) := by
          rw [← Hd1.out, htl]
          exact (Rd.litG iSized (w := w4) 3 [(d : Int)] #[.int .i64 (d : Int)] 1 _ rfl rfl rfl (by omega)).take hj
        have hr4' := hr4.up (w' := w4.alloc (.cells #[.int .i64 (d : Int)] 3)) (flat_lasts _) ((Below.refl _ _).alloc (Nat.le_refl _) _)
        clear HTr htl hr4
        go_wp2_with fail
        refine (HAd.out _ _ _ _ _ _ _ hr4' hrt).mono ?_
        rintro e w6 ⟨A6, n6, c6, rfl, hr6, hf6, hb6⟩
        have hF6 := Lib.hid (hf6.mono hbb.size)
        have hb36 := hbb.trans (hb6.mono hbb.size)
        have hn6 := hr6.len
        clear HAd hf6 hb6 hr4' hrt hba hbb hb34 hbel hcell
        by_cases h60 : n6 ≤ 60
        · have hd6 : decide ((60 : Int) < (n6 : Int)) = false := decide_eq_false (by omega)
          clear hn6
          go_wp2
          go_roundg (T.size - (k + 1))
          case rel => exact ⟨k + 1, A6, n6, c6, hlt, rfl, rfl, by go_num, hr6, h60, hF6, hb36⟩
          case measure => omega
        · have hd6 : decide ((60 : Int) < (n6 : Int)) = true := decide_eq_true (by omega)
          obtain ⟨rfl, rfl⟩ := HG2.out ⟨k + 1, by omega⟩
          replace K := K.keep hb36
          have r := K.raw
          simp only [Raw, RawC, and_true, true_and, Nat.zero_add, Nat.reduceAdd, List.toList_toArray] at r
          clear hn6
          go_wp2_with (first | (apply K.alloc; rfl; rfl; (first | with_reducible exact big_zero | with_reducible exact frac_zero); clear K r; (first | ((fail_if_success revert b0); intro W b0 K) | ((fail_if_success revert b1); intro W b1 K) | ((fail_if_success revert b2); intro W b2 K) | ((fail_if_success revert b3); intro W b3 K) | ((fail_if_success revert b4); intro W b4 K) | ((fail_if_success revert b5); intro W b5 K) | ((fail_if_success revert b6); intro W b6 K) | ((fail_if_success revert b7); intro W b7 K) | ((fail_if_success revert b8); intro W b8 K) | ((fail_if_success revert b9); intro W b9 K) | ((fail_if_success revert b10); intro W b10 K) | ((fail_if_success revert b11); intro W b11 K) | ((fail_if_success revert b12); intro W b12 K) | ((fail_if_success revert b13); intro W b13 K) | ((fail_if_success revert b14); intro W b14 K) | ((fail_if_success revert b15); intro W b15 K) | ((fail_if_success revert b16); intro W b16 K) | ((fail_if_success revert b17); intro W b17 K) | ((fail_if_success revert b18); intro W b18 K) | ((fail_if_success revert b19); intro W b19 K) | ((fail_if_success revert b20); intro W b20 K) | ((fail_if_success revert b21); intro W b21 K)); have r := K.raw; simp only [Raw, RawC, and_true, true_and, Nat.zero_add, Nat.reduceAdd] at r) | (apply K.box; rfl; rfl; rfl; clear K r; (first | ((fail_if_success revert b0); intro W b0 K) | ((fail_if_success revert b1); intro W b1 K) | ((fail_if_success revert b2); intro W b2 K) | ((fail_if_success revert b3); intro W b3 K) | ((fail_if_success revert b4); intro W b4 K) | ((fail_if_success revert b5); intro W b5 K) | ((fail_if_success revert b6); intro W b6 K) | ((fail_if_success revert b7); intro W b7 K) | ((fail_if_success revert b8); intro W b8 K) | ((fail_if_success revert b9); intro W b9 K) | ((fail_if_success revert b10); intro W b10 K) | ((fail_if_success revert b11); intro W b11 K) | ((fail_if_success revert b12); intro W b12 K) | ((fail_if_success revert b13); intro W b13 K) | ((fail_if_success revert b14); intro W b14 K) | ((fail_if_success revert b15); intro W b15 K) | ((fail_if_success revert b16); intro W b16 K) | ((fail_if_success revert b17); intro W b17 K) | ((fail_if_success revert b18); intro W b18 K) | ((fail_if_success revert b19); intro W b19 K) | ((fail_if_success revert b20); intro W b20 K) | ((fail_if_success revert b21); intro W b21 K)); have r := K.raw; simp only [Raw, RawC, and_true, true_and, Nat.zero_add, Nat.reduceAdd] at r) | (apply K.storeA; rfl; rfl; rfl; rfl; rfl; (repeat (first | with_reducible exact Upd.head _ | with_reducible apply Upd.tail)); (first | with_reducible exact big_size | with_reducible exact frac_size); rfl; rfl; rfl; clear K r; intro W K; have r := K.raw; simp only [Raw, RawC, and_true, true_and, Nat.zero_add, Nat.reduceAdd] at r))
          exact bodyPost_ret (v := .tuple #[.agg #[.int .i64 0, .slice none 0 0], .int .i64 6]) (by simp [results, Tryd.results17, go_sem, r]) rfl ⟨0, none, 0, 0, [], rfl, Rd.nil, Std.zero, FrA.none, K.1⟩
      · have ee : k = T.size := by omega
        subst ee
        have hd0 : decide (T.size < T.size) = false := by simp
        have hfull : T.data.toList.take T.size = T.data.toList := List.take_of_length_le (by rw [← Lib.size_eq]; exact Nat.le_refl _)
        rw [hfull] at hr hlen
        have hfit : ∀ s0 : Int, s0 = 1 ∨ s0 = -1 → fits (s0 * (numF T.data.toList : Int)) = true := by
          intro s0 hs0
          have := digs_len.1 (show (digs (numF T.data.toList)).length ≤ 60 by omega)
          refine fits_iff.2 ?_
          rcases hs0 with rfl | rfl <;> simp <;> exact this
        generalize numF T.data.toList = u at *
        clear hfull Hall hby
        cases hneg : negL l
        · obtain ⟨rfl, rfl⟩ := HG1.out 1 (by rw [hneg]; rfl) (hfit 1 (Or.inl rfl))
          have HS := Lib.hid (fun W hl => signedD 1 A' n' c' (digs u) (1 * (u : Int)) W hl (digs_cn u) (Or.inl rfl) (by rw [digs_val]))
          clear HG1 HG2 hfit
          go_wp2_with fail
          refine (HS.out _ hr).mono ?_
          rintro e w7 ⟨s7, A7, n7, c7, l7, rfl, hr7, hs7, hf7, hb7⟩
          have hF7 := hf7 _ HF.out
          have hG7 := Lib.hid (hF7.mono K.1.size)
          replace K := K.ret (hbel.trans (hb7.mono hbel.size)) hr7 hF7
          have r := K.raw
          simp only [Raw, RawC, and_true, true_and, Nat.zero_add, Nat.reduceAdd, List.toList_toArray] at r
          clear hr7 hF7 hf7 hb7 hbel HF HS hr
          go_wp2_with (first | (apply K.alloc; rfl; rfl; (first | with_reducible exact big_zero | with_reducible exact frac_zero); clear K r; (first | ((fail_if_success revert b0); intro W b0 K) | ((fail_if_success revert b1); intro W b1 K) | ((fail_if_success revert b2); intro W b2 K) | ((fail_if_success revert b3); intro W b3 K) | ((fail_if_success revert b4); intro W b4 K) | ((fail_if_success revert b5); intro W b5 K) | ((fail_if_success revert b6); intro W b6 K) | ((fail_if_success revert b7); intro W b7 K) | ((fail_if_success revert b8); intro W b8 K) | ((fail_if_success revert b9); intro W b9 K) | ((fail_if_success revert b10); intro W b10 K) | ((fail_if_success revert b11); intro W b11 K) | ((fail_if_success revert b12); intro W b12 K) | ((fail_if_success revert b13); intro W b13 K) | ((fail_if_success revert b14); intro W b14 K) | ((fail_if_success revert b15); intro W b15 K) | ((fail_if_success revert b16); intro W b16 K) | ((fail_if_success revert b17); intro W b17 K) | ((fail_if_success revert b18); intro W b18 K) | ((fail_if_success revert b19); intro W b19 K) | ((fail_if_success revert b20); intro W b20 K) | ((fail_if_success revert b21); intro W b21 K)); have r := K.raw; simp only [Raw, RawC, and_true, true_and, Nat.zero_add, Nat.reduceAdd] at r) | (apply K.box; rfl; rfl; rfl; clear K r; (first | ((fail_if_success revert b0); intro W b0 K) | ((fail_if_success revert b1); intro W b1 K) | ((fail_if_success revert b2); intro W b2 K) | ((fail_if_success revert b3); intro W b3 K) | ((fail_if_success revert b4); intro W b4 K) | ((fail_if_success revert b5); intro W b5 K) | ((fail_if_success revert b6); intro W b6 K) | ((fail_if_success revert b7); intro W b7 K) | ((fail_if_success revert b8); intro W b8 K) | ((fail_if_success revert b9); intro W b9 K) | ((fail_if_success revert b10); intro W b10 K) | ((fail_if_success revert b11); intro W b11 K) | ((fail_if_success revert b12); intro W b12 K) | ((fail_if_success revert b13); intro W b13 K) | ((fail_if_success revert b14); intro W b14 K) | ((fail_if_success revert b15); intro W b15 K) | ((fail_if_success revert b16); intro W b16 K) | ((fail_if_success revert b17); intro W b17 K) | ((fail_if_success revert b18); intro W b18 K) | ((fail_if_success revert b19); intro W b19 K) | ((fail_if_success revert b20); intro W b20 K) | ((fail_if_success revert b21); intro W b21 K)); have r := K.raw; simp only [Raw, RawC, and_true, true_and, Nat.zero_add, Nat.reduceAdd] at r) | (apply K.storeA; rfl; rfl; rfl; rfl; rfl; (repeat (first | with_reducible exact Upd.head _ | with_reducible apply Upd.tail)); (first | with_reducible exact big_size | with_reducible exact frac_size); rfl; rfl; rfl; clear K r; intro W K; have r := K.raw; simp only [Raw, RawC, and_true, true_and, Nat.zero_add, Nat.reduceAdd] at r))
          have HE := Lib.hid (⟨s7, A7, n7, c7, l7, rfl, (by first | exact Rd.nil | exact K.rd (by repeat (first | with_reducible exact List.mem_cons_self | with_reducible apply List.mem_cons_of_mem))), hs7, hG7.out, K.1⟩ : BigE w _ 0 (.returned (.tuple #[.agg #[.int .i64 s7, .slice A7 n7 c7], .int .i64 0])) W)
          clear hs7
          exact bodyPost_ret (v := .tuple #[.agg #[.int .i64 s7, .slice A7 n7 c7], .int .i64 0]) (by simp [results, Tryd.results17, go_sem, r]) rfl HE.out
        · obtain ⟨rfl, rfl⟩ := HG1.out (-1) (by rw [hneg]; rfl) (hfit (-1) (Or.inr rfl))
          have HS := Lib.hid (fun W hl => signedD (-1) A' n' c' (digs u) (-1 * (u : Int)) W hl (digs_cn u) (Or.inr (Or.inl rfl)) (by rw [digs_val]))
          clear HG1 HG2 hfit
          go_wp2_with fail
          refine (HS.out _ hr).mono ?_
          rintro e w7 ⟨s7, A7, n7, c7, l7, rfl, hr7, hs7, hf7, hb7⟩
          have hF7 := hf7 _ HF.out
          have hG7 := Lib.hid (hF7.mono K.1.size)
          replace K := K.ret (hbel.trans (hb7.mono hbel.size)) hr7 hF7
          have r := K.raw
          simp only [Raw, RawC, and_true, true_and, Nat.zero_add, Nat.reduceAdd, List.toList_toArray] at r
          clear hr7 hF7 hf7 hb7 hbel HF HS hr
          go_wp2_with (first | (apply K.alloc; rfl; rfl; (first | with_reducible exact big_zero | with_reducible exact frac_zero); clear K r; (first | ((fail_if_success revert b0); intro W b0 K) | ((fail_if_success revert b1); intro W b1 K) | ((fail_if_success revert b2); intro W b2 K) | ((fail_if_success revert b3); intro W b3 K) | ((fail_if_success revert b4); intro W b4 K) | ((fail_if_success revert b5); intro W b5 K) | ((fail_if_success revert b6); intro W b6 K) | ((fail_if_success revert b7); intro W b7 K) | ((fail_if_success revert b8); intro W b8 K) | ((fail_if_success revert b9); intro W b9 K) | ((fail_if_success revert b10); intro W b10 K) | ((fail_if_success revert b11); intro W b11 K) | ((fail_if_success revert b12); intro W b12 K) | ((fail_if_success revert b13); intro W b13 K) | ((fail_if_success revert b14); intro W b14 K) | ((fail_if_success revert b15); intro W b15 K) | ((fail_if_success revert b16); intro W b16 K) | ((fail_if_success revert b17); intro W b17 K) | ((fail_if_success revert b18); intro W b18 K) | ((fail_if_success revert b19); intro W b19 K) | ((fail_if_success revert b20); intro W b20 K) | ((fail_if_success revert b21); intro W b21 K)); have r := K.raw; simp only [Raw, RawC, and_true, true_and, Nat.zero_add, Nat.reduceAdd] at r) | (apply K.box; rfl; rfl; rfl; clear K r; (first | ((fail_if_success revert b0); intro W b0 K) | ((fail_if_success revert b1); intro W b1 K) | ((fail_if_success revert b2); intro W b2 K) | ((fail_if_success revert b3); intro W b3 K) | ((fail_if_success revert b4); intro W b4 K) | ((fail_if_success revert b5); intro W b5 K) | ((fail_if_success revert b6); intro W b6 K) | ((fail_if_success revert b7); intro W b7 K) | ((fail_if_success revert b8); intro W b8 K) | ((fail_if_success revert b9); intro W b9 K) | ((fail_if_success revert b10); intro W b10 K) | ((fail_if_success revert b11); intro W b11 K) | ((fail_if_success revert b12); intro W b12 K) | ((fail_if_success revert b13); intro W b13 K) | ((fail_if_success revert b14); intro W b14 K) | ((fail_if_success revert b15); intro W b15 K) | ((fail_if_success revert b16); intro W b16 K) | ((fail_if_success revert b17); intro W b17 K) | ((fail_if_success revert b18); intro W b18 K) | ((fail_if_success revert b19); intro W b19 K) | ((fail_if_success revert b20); intro W b20 K) | ((fail_if_success revert b21); intro W b21 K)); have r := K.raw; simp only [Raw, RawC, and_true, true_and, Nat.zero_add, Nat.reduceAdd] at r) | (apply K.storeA; rfl; rfl; rfl; rfl; rfl; (repeat (first | with_reducible exact Upd.head _ | with_reducible apply Upd.tail)); (first | with_reducible exact big_size | with_reducible exact frac_size); rfl; rfl; rfl; clear K r; intro W K; have r := K.raw; simp only [Raw, RawC, and_true, true_and, Nat.zero_add, Nat.reduceAdd] at r))
          have HE := Lib.hid (⟨s7, A7, n7, c7, l7, rfl, (by first | exact Rd.nil | exact K.rd (by repeat (first | with_reducible exact List.mem_cons_self | with_reducible apply List.mem_cons_of_mem))), hs7, hG7.out, K.1⟩ : BigE w _ 0 (.returned (.tuple #[.agg #[.int .i64 s7, .slice A7 n7 c7], .int .i64 0])) W)
          clear hs7
          exact bodyPost_ret (v := .tuple #[.agg #[.int .i64 s7, .slice A7 n7 c7], .int .i64 0]) (by simp [results, Tryd.results17, go_sem, r]) rfl HE.out
end Go.Proofs.YtkeajohkpmabcaaDoor
