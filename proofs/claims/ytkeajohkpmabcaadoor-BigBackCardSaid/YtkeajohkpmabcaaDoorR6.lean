
/- Walk over the law BigBack. Conditions stand in the theorem. -/
import Derived.Test.YtkeajohkpmabcaaDoorR2
import Derived.Test.YtkeajohkpmabcaaDoorR5
namespace Go.Proofs.YtkeajohkpmabcaaDoor
open Go.RowKit
set_option linter.unusedVariables false
set_option linter.unusedSimpArgs false

theorem St.hide0 {w W : World} {L : List Blk} {D : List Hl} (K : St w L D W) : ∃ R : World → Prop, ∀ W', R W' ↔ St w L D W' := ⟨_, fun _ => Iff.rfl⟩
theorem fits_res (z : Int) : fits (resZ true z) = true := by
  unfold resZ
  split
  · rename_i h; exact h.2
  · exact fits_i64 (by decide)
theorem back_facts {x : Int} (h0 : x ≠ 0) : ∃ E1 Z1 E2 Z2 RE RZ, (errZ true (x * 10) = E1 ∧ resZ true (x * 10) = Z1 ∧ errZ true (Z1 + 7 * sgI x) = E2 ∧ resZ true (Z1 + 7 * sgI x) = Z2 ∧ readE (Lib.itoa x ++ [55]) = RE ∧ readZ (Lib.itoa x ++ [55]) = RZ ∧ fits Z1 = true) ∧ ((E1 = 0 ∧ E2 = 0 ∧ RE = 0 ∧ Z2 = RZ) ∨ (E1 = 0 ∧ E2 = 6 ∧ RE = 6) ∨ (E1 = 6 ∧ RE = 6)) := by
  refine ⟨_, _, _, _, _, _, ⟨rfl, rfl, rfl, rfl, rfl, rfl, fits_res _⟩, ?_⟩
  obtain ⟨h1, h2⟩ := itoa_more h0 (b := 55) (by decide)
  have h3 : ((55 : UInt8).toNat : Int) - 48 = 7 := by decide
  rw [h3] at h2
  have hE : readE (Lib.itoa x ++ [55]) = errZ true (10 * x + sgI x * 7) := by unfold readE; rw [if_pos h1, h2]
  have hZ : readZ (Lib.itoa x ++ [55]) = resZ true (10 * x + sgI x * 7) := by unfold readZ; rw [if_pos h1, h2]
  rw [hE, hZ]
  have e6 : ∀ z, fits z = false → errZ true z = 6 := fun z h => by unfold errZ; rw [if_neg (by simp), if_neg (by rw [h]; simp)]
  have ev : x * 10 + 7 * sgI x = 10 * x + sgI x * 7 := by omega
  cases f1 : fits (x * 10)
  · right; right
    refine ⟨e6 _ f1, e6 _ ?_⟩
    cases f2 : fits (10 * x + sgI x * 7)
    · rfl
    · exfalso
      have h4 := fits_iff.1 f2
      have h5 : ¬ ((x * 10).natAbs : Int) < pw 60 := fun h => by rw [fits_iff.2 h] at f1; cases f1
      rcases sgI_cases x with ⟨hx, e⟩ | ⟨hx, e⟩ | ⟨hx, e⟩
      · rw [e] at h4; omega
      · exact h0 hx
      · rw [e] at h4; omega
  · rw [resT f1, ev, errT f1]
    cases f2 : fits (10 * x + sgI x * 7)
    · right; left
      exact ⟨rfl, e6 _ f2, e6 _ f2⟩
    · left
      rw [errT f2]
      exact ⟨rfl, rfl, rfl, rfl⟩
set_option maxRecDepth 1000000 in
set_option maxHeartbeats 16000000 in
theorem bigBack_walk (s : Int) (A : Option Addr) (n cap : Nat) (a : List Int) (S : ByteArray) (w : World) (ha : RdI w w.heap.size A n cap a) (hS : S.size ≤ maxLen) (htab : Tab w) :
    Calls Tryd.prog 4 #[.agg #[.int .i64 s, .slice A n cap], .string S] w fun e w' => e = .returned (.bool true) ∧ Below w.heap.size w w' := by
  have K := (St.start w).oldRd ha
  have r := K.raw
  have HS := Lib.hid (fun W (h : Below w.heap.size w W) => small_any W (htab.on h))
  have HT := Lib.hid htab
  have HRa := Lib.hid (fun W hl => bright_any s A n cap a W hl)
  clear htab
  by_cases h400 : S.size ≤ 400
  case neg =>
    have hd : decide ((400 : Int) < (S.size : Int)) = true := decide_eq_true (by omega)
    clear ha h400 hS
    go_enter Tryd.func4, Tryd.ntmps4
    go_wp2_with (first | (first | (apply K.alloc; rfl; rfl; (first | with_reducible exact big_zero | with_reducible exact frac_zero); clear K r; (first | ((fail_if_success revert b0); intro W b0 K) | ((fail_if_success revert b1); intro W b1 K) | ((fail_if_success revert b2); intro W b2 K) | ((fail_if_success revert b3); intro W b3 K) | ((fail_if_success revert b4); intro W b4 K) | ((fail_if_success revert b5); intro W b5 K) | ((fail_if_success revert b6); intro W b6 K) | ((fail_if_success revert b7); intro W b7 K) | ((fail_if_success revert b8); intro W b8 K) | ((fail_if_success revert b9); intro W b9 K) | ((fail_if_success revert b10); intro W b10 K) | ((fail_if_success revert b11); intro W b11 K) | ((fail_if_success revert b12); intro W b12 K) | ((fail_if_success revert b13); intro W b13 K) | ((fail_if_success revert b14); intro W b14 K) | ((fail_if_success revert b15); intro W b15 K) | ((fail_if_success revert b16); intro W b16 K) | ((fail_if_success revert b17); intro W b17 K) | ((fail_if_success revert b18); intro W b18 K) | ((fail_if_success revert b19); intro W b19 K) | ((fail_if_success revert b20); intro W b20 K) | ((fail_if_success revert b21); intro W b21 K)); have r := K.raw; simp only [Raw, RawC, and_true, true_and, Nat.zero_add, Nat.reduceAdd] at r) | (apply K.box; rfl; rfl; rfl; clear K r; (first | ((fail_if_success revert b0); intro W b0 K) | ((fail_if_success revert b1); intro W b1 K) | ((fail_if_success revert b2); intro W b2 K) | ((fail_if_success revert b3); intro W b3 K) | ((fail_if_success revert b4); intro W b4 K) | ((fail_if_success revert b5); intro W b5 K) | ((fail_if_success revert b6); intro W b6 K) | ((fail_if_success revert b7); intro W b7 K) | ((fail_if_success revert b8); intro W b8 K) | ((fail_if_success revert b9); intro W b9 K) | ((fail_if_success revert b10); intro W b10 K) | ((fail_if_success revert b11); intro W b11 K) | ((fail_if_success revert b12); intro W b12 K) | ((fail_if_success revert b13); intro W b13 K) | ((fail_if_success revert b14); intro W b14 K) | ((fail_if_success revert b15); intro W b15 K) | ((fail_if_success revert b16); intro W b16 K) | ((fail_if_success revert b17); intro W b17 K) | ((fail_if_success revert b18); intro W b18 K) | ((fail_if_success revert b19); intro W b19 K) | ((fail_if_success revert b20); intro W b20 K) | ((fail_if_success revert b21); intro W b21 K)); have r := K.raw; simp only [Raw, RawC, and_true, true_and, Nat.zero_add, Nat.reduceAdd] at r) | (apply K.storeA; rfl; rfl; rfl; rfl; rfl; (repeat (first | with_reducible exact Upd.head _ | with_reducible apply Upd.tail)); (first | with_reducible exact big_size | with_reducible exact frac_size); rfl; rfl; rfl; clear K r; intro W K; have r := K.raw; simp only [Raw, RawC, and_true, true_and, Nat.zero_add, Nat.reduceAdd] at r)) | (go_at_call 9; (with_reducible refine (HS.out _ K.bel).mono ?_); rintro e W' ⟨rfl, hb⟩; replace K := K.keep hb; clear r; have r := K.raw; simp only [Raw, RawC, and_true, true_and, Nat.zero_add, Nat.reduceAdd, List.toList_toArray] at r; clear hb))
    go_ret
    exact ⟨rfl, K.1⟩
  have hd : decide ((400 : Int) < (S.size : Int)) = false := decide_eq_false (by omega)
  have HR0 := Lib.hid (fun W => bread_any S W (by omega))
  have hfit := read_fits S.data.toList
  obtain ⟨E, hE⟩ : ∃ E, E = readE S.data.toList := ⟨_, rfl⟩
  obtain ⟨z, hz⟩ : ∃ z, z = readZ S.data.toList := ⟨_, rfl⟩
  rw [← hE, ← hz] at HR0
  rw [← hz] at hfit
  have Hyes := Lib.hid (show E = 0 → (⟨(Lib.itoa z).toArray⟩ : ByteArray) = S from fun he => by
    rw [hz, text_read (by rw [← hE]; exact he)])
  have Hno := Lib.hid (show E ≠ 0 → z = 0 ∧ (E = 2 ∨ E = 6) from fun he => by
    have := read_no (s := S.data.toList) (by rw [← hE]; exact he)
    rw [← hz, ← hE] at this
    exact this)
  clear hE hz h400 hS
  go_enter Tryd.func4, Tryd.ntmps4
  go_wp2_with (first | (first | (apply K.alloc; rfl; rfl; (first | with_reducible exact big_zero | with_reducible exact frac_zero); clear K r; (first | ((fail_if_success revert b0); intro W b0 K) | ((fail_if_success revert b1); intro W b1 K) | ((fail_if_success revert b2); intro W b2 K) | ((fail_if_success revert b3); intro W b3 K) | ((fail_if_success revert b4); intro W b4 K) | ((fail_if_success revert b5); intro W b5 K) | ((fail_if_success revert b6); intro W b6 K) | ((fail_if_success revert b7); intro W b7 K) | ((fail_if_success revert b8); intro W b8 K) | ((fail_if_success revert b9); intro W b9 K) | ((fail_if_success revert b10); intro W b10 K) | ((fail_if_success revert b11); intro W b11 K) | ((fail_if_success revert b12); intro W b12 K) | ((fail_if_success revert b13); intro W b13 K) | ((fail_if_success revert b14); intro W b14 K) | ((fail_if_success revert b15); intro W b15 K) | ((fail_if_success revert b16); intro W b16 K) | ((fail_if_success revert b17); intro W b17 K) | ((fail_if_success revert b18); intro W b18 K) | ((fail_if_success revert b19); intro W b19 K) | ((fail_if_success revert b20); intro W b20 K) | ((fail_if_success revert b21); intro W b21 K)); have r := K.raw; simp only [Raw, RawC, and_true, true_and, Nat.zero_add, Nat.reduceAdd] at r) | (apply K.box; rfl; rfl; rfl; clear K r; (first | ((fail_if_success revert b0); intro W b0 K) | ((fail_if_success revert b1); intro W b1 K) | ((fail_if_success revert b2); intro W b2 K) | ((fail_if_success revert b3); intro W b3 K) | ((fail_if_success revert b4); intro W b4 K) | ((fail_if_success revert b5); intro W b5 K) | ((fail_if_success revert b6); intro W b6 K) | ((fail_if_success revert b7); intro W b7 K) | ((fail_if_success revert b8); intro W b8 K) | ((fail_if_success revert b9); intro W b9 K) | ((fail_if_success revert b10); intro W b10 K) | ((fail_if_success revert b11); intro W b11 K) | ((fail_if_success revert b12); intro W b12 K) | ((fail_if_success revert b13); intro W b13 K) | ((fail_if_success revert b14); intro W b14 K) | ((fail_if_success revert b15); intro W b15 K) | ((fail_if_success revert b16); intro W b16 K) | ((fail_if_success revert b17); intro W b17 K) | ((fail_if_success revert b18); intro W b18 K) | ((fail_if_success revert b19); intro W b19 K) | ((fail_if_success revert b20); intro W b20 K) | ((fail_if_success revert b21); intro W b21 K)); have r := K.raw; simp only [Raw, RawC, and_true, true_and, Nat.zero_add, Nat.reduceAdd] at r) | (apply K.storeA; rfl; rfl; rfl; rfl; rfl; (repeat (first | with_reducible exact Upd.head _ | with_reducible apply Upd.tail)); (first | with_reducible exact big_size | with_reducible exact frac_size); rfl; rfl; rfl; clear K r; intro W K; have r := K.raw; simp only [Raw, RawC, and_true, true_and, Nat.zero_add, Nat.reduceAdd] at r)) | (go_at_call 9; (with_reducible refine (HS.out _ K.bel).mono ?_); rintro e W' ⟨rfl, hb⟩; replace K := K.keep hb; clear r; have r := K.raw; simp only [Raw, RawC, and_true, true_and, Nat.zero_add, Nat.reduceAdd, List.toList_toArray] at r; clear hb))
  refine (HR0.out _).mono ?_
  rintro e W' ⟨s3, A3, n3, c3, l3, rfl, hr, hs3, hf, hb⟩
  have hf3 := Lib.hid (hf.mono K.1.size)
  replace K := K.ret hb hr hf
  clear r
  have r := K.raw
  simp only [Raw, RawC, and_true, true_and, Nat.zero_add, Nat.reduceAdd, List.toList_toArray] at r
  clear hr hf hb
  clear HS HR0 hd
  go_upto_region 5 with (first | (apply K.alloc; rfl; rfl; (first | with_reducible exact big_zero | with_reducible exact frac_zero); clear K r; (first | ((fail_if_success revert b0); intro W b0 K) | ((fail_if_success revert b1); intro W b1 K) | ((fail_if_success revert b2); intro W b2 K) | ((fail_if_success revert b3); intro W b3 K) | ((fail_if_success revert b4); intro W b4 K) | ((fail_if_success revert b5); intro W b5 K) | ((fail_if_success revert b6); intro W b6 K) | ((fail_if_success revert b7); intro W b7 K) | ((fail_if_success revert b8); intro W b8 K) | ((fail_if_success revert b9); intro W b9 K) | ((fail_if_success revert b10); intro W b10 K) | ((fail_if_success revert b11); intro W b11 K) | ((fail_if_success revert b12); intro W b12 K) | ((fail_if_success revert b13); intro W b13 K) | ((fail_if_success revert b14); intro W b14 K) | ((fail_if_success revert b15); intro W b15 K) | ((fail_if_success revert b16); intro W b16 K) | ((fail_if_success revert b17); intro W b17 K) | ((fail_if_success revert b18); intro W b18 K) | ((fail_if_success revert b19); intro W b19 K) | ((fail_if_success revert b20); intro W b20 K) | ((fail_if_success revert b21); intro W b21 K)); have r := K.raw; simp only [Raw, RawC, and_true, true_and, Nat.zero_add, Nat.reduceAdd] at r) | (apply K.box; rfl; rfl; rfl; clear K r; (first | ((fail_if_success revert b0); intro W b0 K) | ((fail_if_success revert b1); intro W b1 K) | ((fail_if_success revert b2); intro W b2 K) | ((fail_if_success revert b3); intro W b3 K) | ((fail_if_success revert b4); intro W b4 K) | ((fail_if_success revert b5); intro W b5 K) | ((fail_if_success revert b6); intro W b6 K) | ((fail_if_success revert b7); intro W b7 K) | ((fail_if_success revert b8); intro W b8 K) | ((fail_if_success revert b9); intro W b9 K) | ((fail_if_success revert b10); intro W b10 K) | ((fail_if_success revert b11); intro W b11 K) | ((fail_if_success revert b12); intro W b12 K) | ((fail_if_success revert b13); intro W b13 K) | ((fail_if_success revert b14); intro W b14 K) | ((fail_if_success revert b15); intro W b15 K) | ((fail_if_success revert b16); intro W b16 K) | ((fail_if_success revert b17); intro W b17 K) | ((fail_if_success revert b18); intro W b18 K) | ((fail_if_success revert b19); intro W b19 K) | ((fail_if_success revert b20); intro W b20 K) | ((fail_if_success revert b21); intro W b21 K)); have r := K.raw; simp only [Raw, RawC, and_true, true_and, Nat.zero_add, Nat.reduceAdd] at r) | (apply K.storeA; rfl; rfl; rfl; rfl; rfl; (repeat (first | with_reducible exact Upd.head _ | with_reducible apply Upd.tail)); (first | with_reducible exact big_size | with_reducible exact frac_size); rfl; rfl; rfl; clear K r; intro W K; have r := K.raw; simp only [Raw, RawC, and_true, true_and, Nat.zero_add, Nat.reduceAdd] at r))
  obtain ⟨RX, HX⟩ := K.hide0
  go_cut [57] from 27 to 56 (fun p wx => p = .bool false ∧ RX wx)
  case first =>
    by_cases he : E = 0
    · have HTz := Lib.hid (fun s2 A2 n2 c2 l2 W hl h1 ht => nTextV z s2 A2 n2 c2 l2 W hl h1 hfit ht)
      rw [Hyes.out he] at HTz
      subst he
      go_wp2_with (first | (apply K.alloc; rfl; rfl; (first | with_reducible exact big_zero | with_reducible exact frac_zero); clear K r; (first | ((fail_if_success revert b0); intro W b0 K) | ((fail_if_success revert b1); intro W b1 K) | ((fail_if_success revert b2); intro W b2 K) | ((fail_if_success revert b3); intro W b3 K) | ((fail_if_success revert b4); intro W b4 K) | ((fail_if_success revert b5); intro W b5 K) | ((fail_if_success revert b6); intro W b6 K) | ((fail_if_success revert b7); intro W b7 K) | ((fail_if_success revert b8); intro W b8 K) | ((fail_if_success revert b9); intro W b9 K) | ((fail_if_success revert b10); intro W b10 K) | ((fail_if_success revert b11); intro W b11 K) | ((fail_if_success revert b12); intro W b12 K) | ((fail_if_success revert b13); intro W b13 K) | ((fail_if_success revert b14); intro W b14 K) | ((fail_if_success revert b15); intro W b15 K) | ((fail_if_success revert b16); intro W b16 K) | ((fail_if_success revert b17); intro W b17 K) | ((fail_if_success revert b18); intro W b18 K) | ((fail_if_success revert b19); intro W b19 K) | ((fail_if_success revert b20); intro W b20 K) | ((fail_if_success revert b21); intro W b21 K)); have r := K.raw; simp only [Raw, RawC, and_true, true_and, Nat.zero_add, Nat.reduceAdd] at r) | (apply K.box; rfl; rfl; rfl; clear K r; (first | ((fail_if_success revert b0); intro W b0 K) | ((fail_if_success revert b1); intro W b1 K) | ((fail_if_success revert b2); intro W b2 K) | ((fail_if_success revert b3); intro W b3 K) | ((fail_if_success revert b4); intro W b4 K) | ((fail_if_success revert b5); intro W b5 K) | ((fail_if_success revert b6); intro W b6 K) | ((fail_if_success revert b7); intro W b7 K) | ((fail_if_success revert b8); intro W b8 K) | ((fail_if_success revert b9); intro W b9 K) | ((fail_if_success revert b10); intro W b10 K) | ((fail_if_success revert b11); intro W b11 K) | ((fail_if_success revert b12); intro W b12 K) | ((fail_if_success revert b13); intro W b13 K) | ((fail_if_success revert b14); intro W b14 K) | ((fail_if_success revert b15); intro W b15 K) | ((fail_if_success revert b16); intro W b16 K) | ((fail_if_success revert b17); intro W b17 K) | ((fail_if_success revert b18); intro W b18 K) | ((fail_if_success revert b19); intro W b19 K) | ((fail_if_success revert b20); intro W b20 K) | ((fail_if_success revert b21); intro W b21 K)); have r := K.raw; simp only [Raw, RawC, and_true, true_and, Nat.zero_add, Nat.reduceAdd] at r) | (apply K.storeA; rfl; rfl; rfl; rfl; rfl; (repeat (first | with_reducible exact Upd.head _ | with_reducible apply Upd.tail)); (first | with_reducible exact big_size | with_reducible exact frac_size); rfl; rfl; rfl; clear K r; intro W K; have r := K.raw; simp only [Raw, RawC, and_true, true_and, Nat.zero_add, Nat.reduceAdd] at r))
      refine (nRight z _ _ _ _ _ _ (by first | exact Rd.nil | exact K.rd (by repeat (first | with_reducible exact List.mem_cons_self | with_reducible apply List.mem_cons_of_mem))) hs3 hfit).mono ?_
      rintro e W' ⟨rfl, hb⟩
      replace K := K.keep hb
      clear r
      have r := K.raw
      simp only [Raw, RawC, and_true, true_and, Nat.zero_add, Nat.reduceAdd, List.toList_toArray] at r
      clear hb
      go_wp2_with fail
      refine (HTz.out _ _ _ _ _ _ (by first | exact Rd.nil | exact K.rd (by repeat (first | with_reducible exact List.mem_cons_self | with_reducible apply List.mem_cons_of_mem))) hs3 (HT.out.on K.1)).mono ?_
      rintro e W' ⟨rfl, hb⟩
      replace K := K.keep hb
      clear r
      have r := K.raw
      simp only [Raw, RawC, and_true, true_and, Nat.zero_add, Nat.reduceAdd, List.toList_toArray] at r
      clear hb
      go_wp2_with fail
      go_meet
      exact ⟨rfl, (HX _).2 K⟩
    · obtain ⟨hz, hc⟩ := Hno.out he
      rw [hz] at hs3
      clear he Hno Hyes hfit hz
      rcases hc with rfl | rfl
      · go_wp2_with fail
        refine (vSameT 0 _ _ _ _ _ _ _ _ _ _ _ (by first | exact Rd.nil | exact K.rd (by repeat (first | with_reducible exact List.mem_cons_self | with_reducible apply List.mem_cons_of_mem))) Rd.nil hs3 Std.zero).mono ?_
        rintro e W' ⟨rfl, hb⟩
        replace K := K.keep hb
        clear r
        have r := K.raw
        simp only [Raw, RawC, and_true, true_and, Nat.zero_add, Nat.reduceAdd, List.toList_toArray] at r
        clear hb
        go_wp2_with fail
        go_meet
        exact ⟨rfl, (HX _).2 K⟩
      · go_wp2_with fail
        refine (vSameT 0 _ _ _ _ _ _ _ _ _ _ _ (by first | exact Rd.nil | exact K.rd (by repeat (first | with_reducible exact List.mem_cons_self | with_reducible apply List.mem_cons_of_mem))) Rd.nil hs3 Std.zero).mono ?_
        rintro e W' ⟨rfl, hb⟩
        replace K := K.keep hb
        clear r
        have r := K.raw
        simp only [Raw, RawC, and_true, true_and, Nat.zero_add, Nat.reduceAdd, List.toList_toArray] at r
        clear hb
        go_wp2_with fail
        go_meet
        exact ⟨rfl, (HX _).2 K⟩
  case rest =>
    obtain ⟨rfl, hk⟩ := hcut
    replace K := (HX _).1 hk
    clear r hk HX Hyes Hno hs3 hfit
    have r := K.raw
    simp only [Raw, RawC, and_true, true_and, Nat.zero_add, Nat.reduceAdd, List.toList_toArray] at r
    cases h1 : rightB s a
    · rw [h1] at HRa
      have HTx := Lib.hid (fun W hl ht => (show Calls Tryd.prog 18 #[.agg #[.int .i64 s, .slice A n cap]] W fun e w' => e = .returned (.string ⟨#[]⟩) ∧ Below W.heap.size W w' from by
        have h := btext_any s A n cap a W hl ht
        have e : textB s a = ⟨#[]⟩ := by unfold textB; rw [if_neg (by rw [h1]; simp)]
        rw [e] at h
        exact h))
      clear h1 ha
      go_wp2_with (first | (apply K.alloc; rfl; rfl; (first | with_reducible exact big_zero | with_reducible exact frac_zero); clear K r; (first | ((fail_if_success revert b0); intro W b0 K) | ((fail_if_success revert b1); intro W b1 K) | ((fail_if_success revert b2); intro W b2 K) | ((fail_if_success revert b3); intro W b3 K) | ((fail_if_success revert b4); intro W b4 K) | ((fail_if_success revert b5); intro W b5 K) | ((fail_if_success revert b6); intro W b6 K) | ((fail_if_success revert b7); intro W b7 K) | ((fail_if_success revert b8); intro W b8 K) | ((fail_if_success revert b9); intro W b9 K) | ((fail_if_success revert b10); intro W b10 K) | ((fail_if_success revert b11); intro W b11 K) | ((fail_if_success revert b12); intro W b12 K) | ((fail_if_success revert b13); intro W b13 K) | ((fail_if_success revert b14); intro W b14 K) | ((fail_if_success revert b15); intro W b15 K) | ((fail_if_success revert b16); intro W b16 K) | ((fail_if_success revert b17); intro W b17 K) | ((fail_if_success revert b18); intro W b18 K) | ((fail_if_success revert b19); intro W b19 K) | ((fail_if_success revert b20); intro W b20 K) | ((fail_if_success revert b21); intro W b21 K)); have r := K.raw; simp only [Raw, RawC, and_true, true_and, Nat.zero_add, Nat.reduceAdd] at r) | (apply K.box; rfl; rfl; rfl; clear K r; (first | ((fail_if_success revert b0); intro W b0 K) | ((fail_if_success revert b1); intro W b1 K) | ((fail_if_success revert b2); intro W b2 K) | ((fail_if_success revert b3); intro W b3 K) | ((fail_if_success revert b4); intro W b4 K) | ((fail_if_success revert b5); intro W b5 K) | ((fail_if_success revert b6); intro W b6 K) | ((fail_if_success revert b7); intro W b7 K) | ((fail_if_success revert b8); intro W b8 K) | ((fail_if_success revert b9); intro W b9 K) | ((fail_if_success revert b10); intro W b10 K) | ((fail_if_success revert b11); intro W b11 K) | ((fail_if_success revert b12); intro W b12 K) | ((fail_if_success revert b13); intro W b13 K) | ((fail_if_success revert b14); intro W b14 K) | ((fail_if_success revert b15); intro W b15 K) | ((fail_if_success revert b16); intro W b16 K) | ((fail_if_success revert b17); intro W b17 K) | ((fail_if_success revert b18); intro W b18 K) | ((fail_if_success revert b19); intro W b19 K) | ((fail_if_success revert b20); intro W b20 K) | ((fail_if_success revert b21); intro W b21 K)); have r := K.raw; simp only [Raw, RawC, and_true, true_and, Nat.zero_add, Nat.reduceAdd] at r) | (apply K.storeA; rfl; rfl; rfl; rfl; rfl; (repeat (first | with_reducible exact Upd.head _ | with_reducible apply Upd.tail)); (first | with_reducible exact big_size | with_reducible exact frac_size); rfl; rfl; rfl; clear K r; intro W K; have r := K.raw; simp only [Raw, RawC, and_true, true_and, Nat.zero_add, Nat.reduceAdd] at r))
      refine (HRa.out _ (by first | exact Rd.nil | exact K.rd (by repeat (first | with_reducible exact List.mem_cons_self | with_reducible apply List.mem_cons_of_mem)))).mono ?_
      rintro e W' ⟨rfl, hb⟩
      replace K := K.keep hb
      clear r
      have r := K.raw
      simp only [Raw, RawC, and_true, true_and, Nat.zero_add, Nat.reduceAdd, List.toList_toArray] at r
      clear hb
      go_wp2_with fail
      refine (HTx.out _ (by first | exact Rd.nil | exact K.rd (by repeat (first | with_reducible exact List.mem_cons_self | with_reducible apply List.mem_cons_of_mem))) (HT.out.on K.1)).mono ?_
      rintro e W' ⟨rfl, hb⟩
      replace K := K.keep hb
      clear r
      have r := K.raw
      simp only [Raw, RawC, and_true, true_and, Nat.zero_add, Nat.reduceAdd, List.toList_toArray] at r
      clear hb
      go_wp2
      go_ret
      exact ⟨rfl, K.1⟩
    rw [h1] at HRa
    have S1 := Std.of_right h1
    have F1 := fits_of_right h1
    generalize bval s a = x at *
    have HTx := Lib.hid (fun W hl ht => nTextV x s A n cap a W hl S1 F1 ht)
    obtain ⟨T, hT⟩ : ∃ T : ByteArray, T = ⟨(Lib.itoa x).toArray⟩ := ⟨_, rfl⟩
    rw [← hT] at HTx
    have hTl : T.data.toList = Lib.itoa x := by rw [hT]
    have hTn : T.size ≤ 363 := by
      rw [Lib.size_eq, hTl]
      have hd := dec_fits F1
      unfold Lib.itoa
      split
      · rw [List.length_cons]; omega
      · rw [show x.toNat = x.natAbs by omega]; omega
    have HRT := Lib.hid (fun W => bread_any T W (by omega))
    rw [hTl, (read_text F1).1, (read_text F1).2] at HRT
    clear h1 ha hT
    go_wp2_with (first | (apply K.alloc; rfl; rfl; (first | with_reducible exact big_zero | with_reducible exact frac_zero); clear K r; (first | ((fail_if_success revert b0); intro W b0 K) | ((fail_if_success revert b1); intro W b1 K) | ((fail_if_success revert b2); intro W b2 K) | ((fail_if_success revert b3); intro W b3 K) | ((fail_if_success revert b4); intro W b4 K) | ((fail_if_success revert b5); intro W b5 K) | ((fail_if_success revert b6); intro W b6 K) | ((fail_if_success revert b7); intro W b7 K) | ((fail_if_success revert b8); intro W b8 K) | ((fail_if_success revert b9); intro W b9 K) | ((fail_if_success revert b10); intro W b10 K) | ((fail_if_success revert b11); intro W b11 K) | ((fail_if_success revert b12); intro W b12 K) | ((fail_if_success revert b13); intro W b13 K) | ((fail_if_success revert b14); intro W b14 K) | ((fail_if_success revert b15); intro W b15 K) | ((fail_if_success revert b16); intro W b16 K) | ((fail_if_success revert b17); intro W b17 K) | ((fail_if_success revert b18); intro W b18 K) | ((fail_if_success revert b19); intro W b19 K) | ((fail_if_success revert b20); intro W b20 K) | ((fail_if_success revert b21); intro W b21 K)); have r := K.raw; simp only [Raw, RawC, and_true, true_and, Nat.zero_add, Nat.reduceAdd] at r) | (apply K.box; rfl; rfl; rfl; clear K r; (first | ((fail_if_success revert b0); intro W b0 K) | ((fail_if_success revert b1); intro W b1 K) | ((fail_if_success revert b2); intro W b2 K) | ((fail_if_success revert b3); intro W b3 K) | ((fail_if_success revert b4); intro W b4 K) | ((fail_if_success revert b5); intro W b5 K) | ((fail_if_success revert b6); intro W b6 K) | ((fail_if_success revert b7); intro W b7 K) | ((fail_if_success revert b8); intro W b8 K) | ((fail_if_success revert b9); intro W b9 K) | ((fail_if_success revert b10); intro W b10 K) | ((fail_if_success revert b11); intro W b11 K) | ((fail_if_success revert b12); intro W b12 K) | ((fail_if_success revert b13); intro W b13 K) | ((fail_if_success revert b14); intro W b14 K) | ((fail_if_success revert b15); intro W b15 K) | ((fail_if_success revert b16); intro W b16 K) | ((fail_if_success revert b17); intro W b17 K) | ((fail_if_success revert b18); intro W b18 K) | ((fail_if_success revert b19); intro W b19 K) | ((fail_if_success revert b20); intro W b20 K) | ((fail_if_success revert b21); intro W b21 K)); have r := K.raw; simp only [Raw, RawC, and_true, true_and, Nat.zero_add, Nat.reduceAdd] at r) | (apply K.storeA; rfl; rfl; rfl; rfl; rfl; (repeat (first | with_reducible exact Upd.head _ | with_reducible apply Upd.tail)); (first | with_reducible exact big_size | with_reducible exact frac_size); rfl; rfl; rfl; clear K r; intro W K; have r := K.raw; simp only [Raw, RawC, and_true, true_and, Nat.zero_add, Nat.reduceAdd] at r))
    refine (HRa.out _ (by first | exact Rd.nil | exact K.rd (by repeat (first | with_reducible exact List.mem_cons_self | with_reducible apply List.mem_cons_of_mem)))).mono ?_
    rintro e W' ⟨rfl, hb⟩
    replace K := K.keep hb
    clear r
    have r := K.raw
    simp only [Raw, RawC, and_true, true_and, Nat.zero_add, Nat.reduceAdd, List.toList_toArray] at r
    clear hb
    go_wp2_with fail
    refine (HTx.out _ (by first | exact Rd.nil | exact K.rd (by repeat (first | with_reducible exact List.mem_cons_self | with_reducible apply List.mem_cons_of_mem))) (HT.out.on K.1)).mono ?_
    rintro e W' ⟨rfl, hb⟩
    replace K := K.keep hb
    clear r
    have r := K.raw
    simp only [Raw, RawC, and_true, true_and, Nat.zero_add, Nat.reduceAdd, List.toList_toArray] at r
    clear hb
    go_wp2_with (first | (apply K.alloc; rfl; rfl; (first | with_reducible exact big_zero | with_reducible exact frac_zero); clear K r; (first | ((fail_if_success revert b0); intro W b0 K) | ((fail_if_success revert b1); intro W b1 K) | ((fail_if_success revert b2); intro W b2 K) | ((fail_if_success revert b3); intro W b3 K) | ((fail_if_success revert b4); intro W b4 K) | ((fail_if_success revert b5); intro W b5 K) | ((fail_if_success revert b6); intro W b6 K) | ((fail_if_success revert b7); intro W b7 K) | ((fail_if_success revert b8); intro W b8 K) | ((fail_if_success revert b9); intro W b9 K) | ((fail_if_success revert b10); intro W b10 K) | ((fail_if_success revert b11); intro W b11 K) | ((fail_if_success revert b12); intro W b12 K) | ((fail_if_success revert b13); intro W b13 K) | ((fail_if_success revert b14); intro W b14 K) | ((fail_if_success revert b15); intro W b15 K) | ((fail_if_success revert b16); intro W b16 K) | ((fail_if_success revert b17); intro W b17 K) | ((fail_if_success revert b18); intro W b18 K) | ((fail_if_success revert b19); intro W b19 K) | ((fail_if_success revert b20); intro W b20 K) | ((fail_if_success revert b21); intro W b21 K)); have r := K.raw; simp only [Raw, RawC, and_true, true_and, Nat.zero_add, Nat.reduceAdd] at r) | (apply K.box; rfl; rfl; rfl; clear K r; (first | ((fail_if_success revert b0); intro W b0 K) | ((fail_if_success revert b1); intro W b1 K) | ((fail_if_success revert b2); intro W b2 K) | ((fail_if_success revert b3); intro W b3 K) | ((fail_if_success revert b4); intro W b4 K) | ((fail_if_success revert b5); intro W b5 K) | ((fail_if_success revert b6); intro W b6 K) | ((fail_if_success revert b7); intro W b7 K) | ((fail_if_success revert b8); intro W b8 K) | ((fail_if_success revert b9); intro W b9 K) | ((fail_if_success revert b10); intro W b10 K) | ((fail_if_success revert b11); intro W b11 K) | ((fail_if_success revert b12); intro W b12 K) | ((fail_if_success revert b13); intro W b13 K) | ((fail_if_success revert b14); intro W b14 K) | ((fail_if_success revert b15); intro W b15 K) | ((fail_if_success revert b16); intro W b16 K) | ((fail_if_success revert b17); intro W b17 K) | ((fail_if_success revert b18); intro W b18 K) | ((fail_if_success revert b19); intro W b19 K) | ((fail_if_success revert b20); intro W b20 K) | ((fail_if_success revert b21); intro W b21 K)); have r := K.raw; simp only [Raw, RawC, and_true, true_and, Nat.zero_add, Nat.reduceAdd] at r) | (apply K.storeA; rfl; rfl; rfl; rfl; rfl; (repeat (first | with_reducible exact Upd.head _ | with_reducible apply Upd.tail)); (first | with_reducible exact big_size | with_reducible exact frac_size); rfl; rfl; rfl; clear K r; intro W K; have r := K.raw; simp only [Raw, RawC, and_true, true_and, Nat.zero_add, Nat.reduceAdd] at r))
    refine (HRT.out _).mono ?_
    rintro e W' ⟨s4, A4, n4, c4, l4, rfl, hr, hs4, hf, hb⟩
    have hf4 := Lib.hid (hf.mono K.1.size)
    replace K := K.ret hb hr hf
    clear r
    have r := K.raw
    simp only [Raw, RawC, and_true, true_and, Nat.zero_add, Nat.reduceAdd, List.toList_toArray] at r
    clear hr hf hb
    go_wp2_with (first | (apply K.alloc; rfl; rfl; (first | with_reducible exact big_zero | with_reducible exact frac_zero); clear K r; (first | ((fail_if_success revert b0); intro W b0 K) | ((fail_if_success revert b1); intro W b1 K) | ((fail_if_success revert b2); intro W b2 K) | ((fail_if_success revert b3); intro W b3 K) | ((fail_if_success revert b4); intro W b4 K) | ((fail_if_success revert b5); intro W b5 K) | ((fail_if_success revert b6); intro W b6 K) | ((fail_if_success revert b7); intro W b7 K) | ((fail_if_success revert b8); intro W b8 K) | ((fail_if_success revert b9); intro W b9 K) | ((fail_if_success revert b10); intro W b10 K) | ((fail_if_success revert b11); intro W b11 K) | ((fail_if_success revert b12); intro W b12 K) | ((fail_if_success revert b13); intro W b13 K) | ((fail_if_success revert b14); intro W b14 K) | ((fail_if_success revert b15); intro W b15 K) | ((fail_if_success revert b16); intro W b16 K) | ((fail_if_success revert b17); intro W b17 K) | ((fail_if_success revert b18); intro W b18 K) | ((fail_if_success revert b19); intro W b19 K) | ((fail_if_success revert b20); intro W b20 K) | ((fail_if_success revert b21); intro W b21 K)); have r := K.raw; simp only [Raw, RawC, and_true, true_and, Nat.zero_add, Nat.reduceAdd] at r) | (apply K.box; rfl; rfl; rfl; clear K r; (first | ((fail_if_success revert b0); intro W b0 K) | ((fail_if_success revert b1); intro W b1 K) | ((fail_if_success revert b2); intro W b2 K) | ((fail_if_success revert b3); intro W b3 K) | ((fail_if_success revert b4); intro W b4 K) | ((fail_if_success revert b5); intro W b5 K) | ((fail_if_success revert b6); intro W b6 K) | ((fail_if_success revert b7); intro W b7 K) | ((fail_if_success revert b8); intro W b8 K) | ((fail_if_success revert b9); intro W b9 K) | ((fail_if_success revert b10); intro W b10 K) | ((fail_if_success revert b11); intro W b11 K) | ((fail_if_success revert b12); intro W b12 K) | ((fail_if_success revert b13); intro W b13 K) | ((fail_if_success revert b14); intro W b14 K) | ((fail_if_success revert b15); intro W b15 K) | ((fail_if_success revert b16); intro W b16 K) | ((fail_if_success revert b17); intro W b17 K) | ((fail_if_success revert b18); intro W b18 K) | ((fail_if_success revert b19); intro W b19 K) | ((fail_if_success revert b20); intro W b20 K) | ((fail_if_success revert b21); intro W b21 K)); have r := K.raw; simp only [Raw, RawC, and_true, true_and, Nat.zero_add, Nat.reduceAdd] at r) | (apply K.storeA; rfl; rfl; rfl; rfl; rfl; (repeat (first | with_reducible exact Upd.head _ | with_reducible apply Upd.tail)); (first | with_reducible exact big_size | with_reducible exact frac_size); rfl; rfl; rfl; clear K r; intro W K; have r := K.raw; simp only [Raw, RawC, and_true, true_and, Nat.zero_add, Nat.reduceAdd] at r))
    refine (vSameT x _ _ _ _ _ _ _ _ _ _ _ (by first | exact Rd.nil | exact K.rd (by repeat (first | with_reducible exact List.mem_cons_self | with_reducible apply List.mem_cons_of_mem))) (by first | exact Rd.nil | exact K.rd (by repeat (first | with_reducible exact List.mem_cons_self | with_reducible apply List.mem_cons_of_mem))) hs4 S1).mono ?_
    rintro e W' ⟨rfl, hb⟩
    replace K := K.keep hb
    clear r
    have r := K.raw
    simp only [Raw, RawC, and_true, true_and, Nat.zero_add, Nat.reduceAdd, List.toList_toArray] at r
    clear hb
    by_cases hx0 : x = 0
    · have hs0 : s = 0 := by rcases S1.signs with ⟨-, h, -⟩ | ⟨-, -, h⟩ | ⟨-, -, h⟩ <;> omega
      subst hs0
      have h48 : (T.toList == [48]) = true := by rw [Lib.toList_data, hTl, hx0, itoa_zero]; rfl
      clear hTl hx0
      go_wp2
      go_ret
      exact ⟨rfl, K.1⟩
    have hs0 : ¬ s = 0 := by rcases S1.signs with ⟨-, -, h⟩ | ⟨-, h, -⟩ | ⟨-, h, -⟩ <;> omega
    have hs1 : (s == 0) = false := beq_eq_false_iff_ne.2 hs0
    have hsx : s = sgI x := S1.1
    obtain ⟨E1, Z1, E2, Z2, RE, RZ, ⟨q1, q2, q3, q4, q5, q6, q7⟩, DJ⟩ := back_facts hx0
    rw [← hsx] at q3 q4
    have hsb : -1 ≤ s ∧ s ≤ 1 := by rcases S1.signs with ⟨-, h, -⟩ | ⟨-, h, -⟩ | ⟨-, h, -⟩ <;> omega
    have hw7 : IntKind.i64.wrap (7 * s) = 7 * s := IntWalk.i64_in _ (by omega)
    have H7 := Lib.hid (show -9223372036854775808 ≤ 7 * s ∧ 7 * s ≤ 9223372036854775807 from by omega)
    have f7 : fits (7 * s) = true := fits_i64 (by omega)
    have f10 : fits 10 = true := fits_i64 (by decide)
    have HM := Lib.hid (fun s2 A2 n2 c2 l2 W hl hm hs => nMul x 10 s A n cap a s2 A2 n2 c2 l2 W hl hm S1 hs F1 f10)
    rw [q1, q2] at HM
    have HA := Lib.hid (fun s1 A1 n1 c1 l1 s2 A2 n2 c2 l2 W hl hm h1 h2 => nAdd Z1 (7 * s) s1 A1 n1 c1 l1 s2 A2 n2 c2 l2 W hl hm h1 h2 q7 f7)
    rw [q3, q4] at HA
    have hsz : (T ++ (⟨#[55]⟩ : ByteArray)).data.toList = Lib.itoa x ++ [55] := by rw [ByteArray.data_append, Array.toList_append, hTl]
    have HRS := Lib.hid (fun W => bread_any (T ++ (⟨#[55]⟩ : ByteArray)) W (by
      rw [Lib.size_eq, hsz, List.length_append, ← hTl, ← Lib.size_eq]
      simp only [List.length_singleton]
      omega))
    rw [hsz, q5, q6] at HRS
    have hno : ¬ (9223372036854775807 < T.size + 1) := by omega
    have DH := Lib.hid DJ
    clear DJ q1 q2 q3 q4 q5 q6 hsz hTl hTn HRT HTx HRa hsx hx0 hs4
    go_upto_region 15 with (first | (apply K.alloc; rfl; rfl; (first | with_reducible exact big_zero | with_reducible exact frac_zero); clear K r; (first | ((fail_if_success revert b0); intro W b0 K) | ((fail_if_success revert b1); intro W b1 K) | ((fail_if_success revert b2); intro W b2 K) | ((fail_if_success revert b3); intro W b3 K) | ((fail_if_success revert b4); intro W b4 K) | ((fail_if_success revert b5); intro W b5 K) | ((fail_if_success revert b6); intro W b6 K) | ((fail_if_success revert b7); intro W b7 K) | ((fail_if_success revert b8); intro W b8 K) | ((fail_if_success revert b9); intro W b9 K) | ((fail_if_success revert b10); intro W b10 K) | ((fail_if_success revert b11); intro W b11 K) | ((fail_if_success revert b12); intro W b12 K) | ((fail_if_success revert b13); intro W b13 K) | ((fail_if_success revert b14); intro W b14 K) | ((fail_if_success revert b15); intro W b15 K) | ((fail_if_success revert b16); intro W b16 K) | ((fail_if_success revert b17); intro W b17 K) | ((fail_if_success revert b18); intro W b18 K) | ((fail_if_success revert b19); intro W b19 K) | ((fail_if_success revert b20); intro W b20 K) | ((fail_if_success revert b21); intro W b21 K)); have r := K.raw; simp only [Raw, RawC, and_true, true_and, Nat.zero_add, Nat.reduceAdd] at r) | (apply K.box; rfl; rfl; rfl; clear K r; (first | ((fail_if_success revert b0); intro W b0 K) | ((fail_if_success revert b1); intro W b1 K) | ((fail_if_success revert b2); intro W b2 K) | ((fail_if_success revert b3); intro W b3 K) | ((fail_if_success revert b4); intro W b4 K) | ((fail_if_success revert b5); intro W b5 K) | ((fail_if_success revert b6); intro W b6 K) | ((fail_if_success revert b7); intro W b7 K) | ((fail_if_success revert b8); intro W b8 K) | ((fail_if_success revert b9); intro W b9 K) | ((fail_if_success revert b10); intro W b10 K) | ((fail_if_success revert b11); intro W b11 K) | ((fail_if_success revert b12); intro W b12 K) | ((fail_if_success revert b13); intro W b13 K) | ((fail_if_success revert b14); intro W b14 K) | ((fail_if_success revert b15); intro W b15 K) | ((fail_if_success revert b16); intro W b16 K) | ((fail_if_success revert b17); intro W b17 K) | ((fail_if_success revert b18); intro W b18 K) | ((fail_if_success revert b19); intro W b19 K) | ((fail_if_success revert b20); intro W b20 K) | ((fail_if_success revert b21); intro W b21 K)); have r := K.raw; simp only [Raw, RawC, and_true, true_and, Nat.zero_add, Nat.reduceAdd] at r) | (apply K.storeA; rfl; rfl; rfl; rfl; rfl; (repeat (first | with_reducible exact Upd.head _ | with_reducible apply Upd.tail)); (first | with_reducible exact big_size | with_reducible exact frac_size); rfl; rfl; rfl; clear K r; intro W K; have r := K.raw; simp only [Raw, RawC, and_true, true_and, Nat.zero_add, Nat.reduceAdd] at r))
    obtain ⟨RR, HR0⟩ := K.hide 24
    go_cut [12, 11] from 90 to 95 (fun e p wx => ∃ g s8 A8 n8 c8 l8, e = .int .i64 E1 ∧ p = .pointer (some ⟨g, 0, none⟩) ∧ Std s8 l8 (Z1) ∧ RR g #[.int .i64 s8, .slice A8 n8 c8] A8 n8 c8 l8 wx)
    case first =>
      obtain ⟨g1, hg1, KA⟩ := K.newEx #[.int .i64 0, .slice none 0 0] 24
      have rA := KA.raw
      have Kd := K.drew
      have KAd := KA.drew
      simp only [Raw, RawC, and_true, true_and, Nat.zero_add, Nat.reduceAdd] at rA
      go_region_with (first
        | (go_at_call 19; (with_reducible refine (bOf_any 10 _ ?qz).mono ?_); (case qz => decide); rintro e W ⟨s30, A30, n30, c30, l30, rfl, hr, hs30, hf, hb⟩; (first | with_reducible replace K := Kd.ret hb hr hf | with_reducible replace K := KAd.ret hb hr hf); clear r rA KA hr hf hb; have r := K.raw; obtain ⟨g2, hg2, KA⟩ := K.newEx #[.int .i64 0, .slice none 0 0] 24; have rA := KA.raw; simp only [Raw, RawC, and_true, true_and, Nat.zero_add, Nat.reduceAdd] at r rA)
        | (go_at_call 16; (with_reducible refine (HM.out _ _ _ _ _ _ ?qa ?qb hs30).mono ?_); (case qa => (first | with_reducible exact K.rd (by repeat (first | with_reducible exact List.mem_cons_self | with_reducible apply List.mem_cons_of_mem)) | with_reducible exact KA.rd (by repeat (first | with_reducible exact List.mem_cons_self | with_reducible apply List.mem_cons_of_mem)))); (case qb => (first | with_reducible exact K.rd (by repeat (first | with_reducible exact List.mem_cons_self | with_reducible apply List.mem_cons_of_mem)) | with_reducible exact KA.rd (by repeat (first | with_reducible exact List.mem_cons_self | with_reducible apply List.mem_cons_of_mem)))); skip; rintro e W ⟨s31, A31, n31, c31, l31, rfl, hr, hs31, hf, hb⟩; (first | with_reducible replace K := K.ret hb hr hf | with_reducible replace K := KA.ret hb hr hf); clear r rA KA hr hf hb; have r := K.raw; have z := K.rawz; simp only [Raw, RawC, RawZ, and_true, true_and, Nat.zero_add, Nat.reduceAdd] at r z))
      all_goals
        replace hs31 : Std s31 l31 (Z1) := hs31
        go_wp2_with fail
        go_meet
        first
          | with_reducible exact ⟨_, s31, A31, n31, c31, l31, rfl, rfl, hs31, (HR0 _ _ _ _ _ _ _).2 (K.new #[.int .i64 s31, .slice A31 n31 c31] 24).skip2⟩
          | with_reducible exact ⟨_, s31, A31, n31, c31, l31, rfl, rfl, hs31, (HR0 _ _ _ _ _ _ _).2 (K.set2 (u := .int .i64 s31) (v := .slice A31 n31 c31) (by repeat (first | with_reducible exact Upd.head _ | with_reducible apply Upd.tail))).skip2⟩
          | exact ⟨_, s31, A31, n31, c31, l31, rfl, rfl, hs31, (HR0 _ _ _ _ _ _ _).2 (K.new #[.int .i64 s31, .slice A31 n31 c31] 24).skip2⟩
          | exact ⟨_, s31, A31, n31, c31, l31, rfl, rfl, hs31, (HR0 _ _ _ _ _ _ _).2 (K.set2 (u := .int .i64 s31) (v := .slice A31 n31 c31) (by repeat (first | with_reducible exact Upd.head _ | with_reducible apply Upd.tail))).skip2⟩
    case rest =>
      obtain ⟨g20, s20, A20, n20, c20, l20, rfl, rfl, hs20, hk⟩ := hcut
      replace K := (HR0 _ _ _ _ _ _ _).1 hk
      clear r hk HR0
      have r := K.raw
      simp only [Raw, RawC, and_true, true_and, Nat.zero_add, Nat.reduceAdd, List.toList_toArray] at r
      go_upto_region 16 with (first | (apply K.alloc; rfl; rfl; (first | with_reducible exact big_zero | with_reducible exact frac_zero); clear K r; (first | ((fail_if_success revert b0); intro W b0 K) | ((fail_if_success revert b1); intro W b1 K) | ((fail_if_success revert b2); intro W b2 K) | ((fail_if_success revert b3); intro W b3 K) | ((fail_if_success revert b4); intro W b4 K) | ((fail_if_success revert b5); intro W b5 K) | ((fail_if_success revert b6); intro W b6 K) | ((fail_if_success revert b7); intro W b7 K) | ((fail_if_success revert b8); intro W b8 K) | ((fail_if_success revert b9); intro W b9 K) | ((fail_if_success revert b10); intro W b10 K) | ((fail_if_success revert b11); intro W b11 K) | ((fail_if_success revert b12); intro W b12 K) | ((fail_if_success revert b13); intro W b13 K) | ((fail_if_success revert b14); intro W b14 K) | ((fail_if_success revert b15); intro W b15 K) | ((fail_if_success revert b16); intro W b16 K) | ((fail_if_success revert b17); intro W b17 K) | ((fail_if_success revert b18); intro W b18 K) | ((fail_if_success revert b19); intro W b19 K) | ((fail_if_success revert b20); intro W b20 K) | ((fail_if_success revert b21); intro W b21 K)); have r := K.raw; simp only [Raw, RawC, and_true, true_and, Nat.zero_add, Nat.reduceAdd] at r) | (apply K.box; rfl; rfl; rfl; clear K r; (first | ((fail_if_success revert b0); intro W b0 K) | ((fail_if_success revert b1); intro W b1 K) | ((fail_if_success revert b2); intro W b2 K) | ((fail_if_success revert b3); intro W b3 K) | ((fail_if_success revert b4); intro W b4 K) | ((fail_if_success revert b5); intro W b5 K) | ((fail_if_success revert b6); intro W b6 K) | ((fail_if_success revert b7); intro W b7 K) | ((fail_if_success revert b8); intro W b8 K) | ((fail_if_success revert b9); intro W b9 K) | ((fail_if_success revert b10); intro W b10 K) | ((fail_if_success revert b11); intro W b11 K) | ((fail_if_success revert b12); intro W b12 K) | ((fail_if_success revert b13); intro W b13 K) | ((fail_if_success revert b14); intro W b14 K) | ((fail_if_success revert b15); intro W b15 K) | ((fail_if_success revert b16); intro W b16 K) | ((fail_if_success revert b17); intro W b17 K) | ((fail_if_success revert b18); intro W b18 K) | ((fail_if_success revert b19); intro W b19 K) | ((fail_if_success revert b20); intro W b20 K) | ((fail_if_success revert b21); intro W b21 K)); have r := K.raw; simp only [Raw, RawC, and_true, true_and, Nat.zero_add, Nat.reduceAdd] at r) | (apply K.storeA; rfl; rfl; rfl; rfl; rfl; (repeat (first | with_reducible exact Upd.head _ | with_reducible apply Upd.tail)); (first | with_reducible exact big_size | with_reducible exact frac_size); rfl; rfl; rfl; clear K r; intro W K; have r := K.raw; simp only [Raw, RawC, and_true, true_and, Nat.zero_add, Nat.reduceAdd] at r))
      obtain ⟨RR, HR0⟩ := K.hide 24
      go_cut [14, 13] from 96 to 104 (fun e p wx => ∃ g s8 A8 n8 c8 l8, e = .int .i64 E2 ∧ p = .pointer (some ⟨g, 0, none⟩) ∧ Std s8 l8 (Z2) ∧ RR g #[.int .i64 s8, .slice A8 n8 c8] A8 n8 c8 l8 wx)
      case first =>
        obtain ⟨g1, hg1, KA⟩ := K.newEx #[.int .i64 0, .slice none 0 0] 24
        have rA := KA.raw
        have Kd := K.drew
        have KAd := KA.drew
        simp only [Raw, RawC, and_true, true_and, Nat.zero_add, Nat.reduceAdd] at rA
        go_region_with (first
          | (go_at_call 19; (with_reducible refine (bOf_any (7 * s) _ ?qz).mono ?_); (case qz => exact H7.out); rintro e W ⟨s30, A30, n30, c30, l30, rfl, hr, hs30, hf, hb⟩; (first | with_reducible replace K := Kd.ret hb hr hf | with_reducible replace K := KAd.ret hb hr hf); clear r rA KA hr hf hb; have r := K.raw; obtain ⟨g2, hg2, KA⟩ := K.newEx #[.int .i64 0, .slice none 0 0] 24; have rA := KA.raw; simp only [Raw, RawC, and_true, true_and, Nat.zero_add, Nat.reduceAdd] at r rA)
          | (go_at_call 20; (with_reducible refine (HA.out _ _ _ _ _ _ _ _ _ _ _ ?qa ?qb hs20 hs30).mono ?_); (case qa => (first | with_reducible exact K.rd (by repeat (first | with_reducible exact List.mem_cons_self | with_reducible apply List.mem_cons_of_mem)) | with_reducible exact KA.rd (by repeat (first | with_reducible exact List.mem_cons_self | with_reducible apply List.mem_cons_of_mem)))); (case qb => (first | with_reducible exact K.rd (by repeat (first | with_reducible exact List.mem_cons_self | with_reducible apply List.mem_cons_of_mem)) | with_reducible exact KA.rd (by repeat (first | with_reducible exact List.mem_cons_self | with_reducible apply List.mem_cons_of_mem)))); skip; rintro e W ⟨s31, A31, n31, c31, l31, rfl, hr, hs31, hf, hb⟩; (first | with_reducible replace K := K.ret hb hr hf | with_reducible replace K := KA.ret hb hr hf); clear r rA KA hr hf hb; have r := K.raw; have z := K.rawz; simp only [Raw, RawC, RawZ, and_true, true_and, Nat.zero_add, Nat.reduceAdd] at r z))
        all_goals
          replace hs31 : Std s31 l31 (Z2) := hs31
          go_wp2_with fail
          go_meet
          first
            | with_reducible exact ⟨_, s31, A31, n31, c31, l31, rfl, rfl, hs31, (HR0 _ _ _ _ _ _ _).2 (K.new #[.int .i64 s31, .slice A31 n31 c31] 24).skip2⟩
            | with_reducible exact ⟨_, s31, A31, n31, c31, l31, rfl, rfl, hs31, (HR0 _ _ _ _ _ _ _).2 (K.set2 (u := .int .i64 s31) (v := .slice A31 n31 c31) (by repeat (first | with_reducible exact Upd.head _ | with_reducible apply Upd.tail))).skip2⟩
            | exact ⟨_, s31, A31, n31, c31, l31, rfl, rfl, hs31, (HR0 _ _ _ _ _ _ _).2 (K.new #[.int .i64 s31, .slice A31 n31 c31] 24).skip2⟩
            | exact ⟨_, s31, A31, n31, c31, l31, rfl, rfl, hs31, (HR0 _ _ _ _ _ _ _).2 (K.set2 (u := .int .i64 s31) (v := .slice A31 n31 c31) (by repeat (first | with_reducible exact Upd.head _ | with_reducible apply Upd.tail))).skip2⟩
      case rest =>
        obtain ⟨g21, s21, A21, n21, c21, l21, rfl, rfl, hs21, hk⟩ := hcut
        replace K := (HR0 _ _ _ _ _ _ _).1 hk
        clear r hk HR0
        have r := K.raw
        simp only [Raw, RawC, and_true, true_and, Nat.zero_add, Nat.reduceAdd, List.toList_toArray] at r
        go_wp2_with (first | (apply K.alloc; rfl; rfl; (first | with_reducible exact big_zero | with_reducible exact frac_zero); clear K r; (first | ((fail_if_success revert b0); intro W b0 K) | ((fail_if_success revert b1); intro W b1 K) | ((fail_if_success revert b2); intro W b2 K) | ((fail_if_success revert b3); intro W b3 K) | ((fail_if_success revert b4); intro W b4 K) | ((fail_if_success revert b5); intro W b5 K) | ((fail_if_success revert b6); intro W b6 K) | ((fail_if_success revert b7); intro W b7 K) | ((fail_if_success revert b8); intro W b8 K) | ((fail_if_success revert b9); intro W b9 K) | ((fail_if_success revert b10); intro W b10 K) | ((fail_if_success revert b11); intro W b11 K) | ((fail_if_success revert b12); intro W b12 K) | ((fail_if_success revert b13); intro W b13 K) | ((fail_if_success revert b14); intro W b14 K) | ((fail_if_success revert b15); intro W b15 K) | ((fail_if_success revert b16); intro W b16 K) | ((fail_if_success revert b17); intro W b17 K) | ((fail_if_success revert b18); intro W b18 K) | ((fail_if_success revert b19); intro W b19 K) | ((fail_if_success revert b20); intro W b20 K) | ((fail_if_success revert b21); intro W b21 K)); have r := K.raw; simp only [Raw, RawC, and_true, true_and, Nat.zero_add, Nat.reduceAdd] at r) | (apply K.box; rfl; rfl; rfl; clear K r; (first | ((fail_if_success revert b0); intro W b0 K) | ((fail_if_success revert b1); intro W b1 K) | ((fail_if_success revert b2); intro W b2 K) | ((fail_if_success revert b3); intro W b3 K) | ((fail_if_success revert b4); intro W b4 K) | ((fail_if_success revert b5); intro W b5 K) | ((fail_if_success revert b6); intro W b6 K) | ((fail_if_success revert b7); intro W b7 K) | ((fail_if_success revert b8); intro W b8 K) | ((fail_if_success revert b9); intro W b9 K) | ((fail_if_success revert b10); intro W b10 K) | ((fail_if_success revert b11); intro W b11 K) | ((fail_if_success revert b12); intro W b12 K) | ((fail_if_success revert b13); intro W b13 K) | ((fail_if_success revert b14); intro W b14 K) | ((fail_if_success revert b15); intro W b15 K) | ((fail_if_success revert b16); intro W b16 K) | ((fail_if_success revert b17); intro W b17 K) | ((fail_if_success revert b18); intro W b18 K) | ((fail_if_success revert b19); intro W b19 K) | ((fail_if_success revert b20); intro W b20 K) | ((fail_if_success revert b21); intro W b21 K)); have r := K.raw; simp only [Raw, RawC, and_true, true_and, Nat.zero_add, Nat.reduceAdd] at r) | (apply K.storeA; rfl; rfl; rfl; rfl; rfl; (repeat (first | with_reducible exact Upd.head _ | with_reducible apply Upd.tail)); (first | with_reducible exact big_size | with_reducible exact frac_size); rfl; rfl; rfl; clear K r; intro W K; have r := K.raw; simp only [Raw, RawC, and_true, true_and, Nat.zero_add, Nat.reduceAdd] at r))
        refine (HRS.out _).mono ?_
        rintro e W' ⟨s22, A22, n22, c22, l22, rfl, hr, hs22, hf, hb⟩
        have hf22 := Lib.hid (hf.mono K.1.size)
        replace K := K.ret hb hr hf
        clear r
        have r := K.raw
        simp only [Raw, RawC, and_true, true_and, Nat.zero_add, Nat.reduceAdd, List.toList_toArray] at r
        clear hr hf hb
        rcases DH.out with ⟨rfl, rfl, rfl, h⟩ | ⟨rfl, rfl, rfl⟩ | ⟨rfl, rfl⟩
        · rw [← h] at hs22
          clear h
          go_wp2_with (first | (apply K.alloc; rfl; rfl; (first | with_reducible exact big_zero | with_reducible exact frac_zero); clear K r; (first | ((fail_if_success revert b0); intro W b0 K) | ((fail_if_success revert b1); intro W b1 K) | ((fail_if_success revert b2); intro W b2 K) | ((fail_if_success revert b3); intro W b3 K) | ((fail_if_success revert b4); intro W b4 K) | ((fail_if_success revert b5); intro W b5 K) | ((fail_if_success revert b6); intro W b6 K) | ((fail_if_success revert b7); intro W b7 K) | ((fail_if_success revert b8); intro W b8 K) | ((fail_if_success revert b9); intro W b9 K) | ((fail_if_success revert b10); intro W b10 K) | ((fail_if_success revert b11); intro W b11 K) | ((fail_if_success revert b12); intro W b12 K) | ((fail_if_success revert b13); intro W b13 K) | ((fail_if_success revert b14); intro W b14 K) | ((fail_if_success revert b15); intro W b15 K) | ((fail_if_success revert b16); intro W b16 K) | ((fail_if_success revert b17); intro W b17 K) | ((fail_if_success revert b18); intro W b18 K) | ((fail_if_success revert b19); intro W b19 K) | ((fail_if_success revert b20); intro W b20 K) | ((fail_if_success revert b21); intro W b21 K)); have r := K.raw; simp only [Raw, RawC, and_true, true_and, Nat.zero_add, Nat.reduceAdd] at r) | (apply K.box; rfl; rfl; rfl; clear K r; (first | ((fail_if_success revert b0); intro W b0 K) | ((fail_if_success revert b1); intro W b1 K) | ((fail_if_success revert b2); intro W b2 K) | ((fail_if_success revert b3); intro W b3 K) | ((fail_if_success revert b4); intro W b4 K) | ((fail_if_success revert b5); intro W b5 K) | ((fail_if_success revert b6); intro W b6 K) | ((fail_if_success revert b7); intro W b7 K) | ((fail_if_success revert b8); intro W b8 K) | ((fail_if_success revert b9); intro W b9 K) | ((fail_if_success revert b10); intro W b10 K) | ((fail_if_success revert b11); intro W b11 K) | ((fail_if_success revert b12); intro W b12 K) | ((fail_if_success revert b13); intro W b13 K) | ((fail_if_success revert b14); intro W b14 K) | ((fail_if_success revert b15); intro W b15 K) | ((fail_if_success revert b16); intro W b16 K) | ((fail_if_success revert b17); intro W b17 K) | ((fail_if_success revert b18); intro W b18 K) | ((fail_if_success revert b19); intro W b19 K) | ((fail_if_success revert b20); intro W b20 K) | ((fail_if_success revert b21); intro W b21 K)); have r := K.raw; simp only [Raw, RawC, and_true, true_and, Nat.zero_add, Nat.reduceAdd] at r) | (apply K.storeA; rfl; rfl; rfl; rfl; rfl; (repeat (first | with_reducible exact Upd.head _ | with_reducible apply Upd.tail)); (first | with_reducible exact big_size | with_reducible exact frac_size); rfl; rfl; rfl; clear K r; intro W K; have r := K.raw; simp only [Raw, RawC, and_true, true_and, Nat.zero_add, Nat.reduceAdd] at r))
          refine (vSameT Z2 _ _ _ _ _ _ _ _ _ _ _ (by first | exact Rd.nil | exact K.rd (by repeat (first | with_reducible exact List.mem_cons_self | with_reducible apply List.mem_cons_of_mem))) (by first | exact Rd.nil | exact K.rd (by repeat (first | with_reducible exact List.mem_cons_self | with_reducible apply List.mem_cons_of_mem))) hs22 hs21).mono ?_
          rintro e W' ⟨rfl, hb⟩
          replace K := K.keep hb
          clear r
          have r := K.raw
          simp only [Raw, RawC, and_true, true_and, Nat.zero_add, Nat.reduceAdd, List.toList_toArray] at r
          clear hb
          go_wp2
          go_ret
          exact ⟨rfl, K.1⟩
        · go_wp2_with (first | (apply K.alloc; rfl; rfl; (first | with_reducible exact big_zero | with_reducible exact frac_zero); clear K r; (first | ((fail_if_success revert b0); intro W b0 K) | ((fail_if_success revert b1); intro W b1 K) | ((fail_if_success revert b2); intro W b2 K) | ((fail_if_success revert b3); intro W b3 K) | ((fail_if_success revert b4); intro W b4 K) | ((fail_if_success revert b5); intro W b5 K) | ((fail_if_success revert b6); intro W b6 K) | ((fail_if_success revert b7); intro W b7 K) | ((fail_if_success revert b8); intro W b8 K) | ((fail_if_success revert b9); intro W b9 K) | ((fail_if_success revert b10); intro W b10 K) | ((fail_if_success revert b11); intro W b11 K) | ((fail_if_success revert b12); intro W b12 K) | ((fail_if_success revert b13); intro W b13 K) | ((fail_if_success revert b14); intro W b14 K) | ((fail_if_success revert b15); intro W b15 K) | ((fail_if_success revert b16); intro W b16 K) | ((fail_if_success revert b17); intro W b17 K) | ((fail_if_success revert b18); intro W b18 K) | ((fail_if_success revert b19); intro W b19 K) | ((fail_if_success revert b20); intro W b20 K) | ((fail_if_success revert b21); intro W b21 K)); have r := K.raw; simp only [Raw, RawC, and_true, true_and, Nat.zero_add, Nat.reduceAdd] at r) | (apply K.box; rfl; rfl; rfl; clear K r; (first | ((fail_if_success revert b0); intro W b0 K) | ((fail_if_success revert b1); intro W b1 K) | ((fail_if_success revert b2); intro W b2 K) | ((fail_if_success revert b3); intro W b3 K) | ((fail_if_success revert b4); intro W b4 K) | ((fail_if_success revert b5); intro W b5 K) | ((fail_if_success revert b6); intro W b6 K) | ((fail_if_success revert b7); intro W b7 K) | ((fail_if_success revert b8); intro W b8 K) | ((fail_if_success revert b9); intro W b9 K) | ((fail_if_success revert b10); intro W b10 K) | ((fail_if_success revert b11); intro W b11 K) | ((fail_if_success revert b12); intro W b12 K) | ((fail_if_success revert b13); intro W b13 K) | ((fail_if_success revert b14); intro W b14 K) | ((fail_if_success revert b15); intro W b15 K) | ((fail_if_success revert b16); intro W b16 K) | ((fail_if_success revert b17); intro W b17 K) | ((fail_if_success revert b18); intro W b18 K) | ((fail_if_success revert b19); intro W b19 K) | ((fail_if_success revert b20); intro W b20 K) | ((fail_if_success revert b21); intro W b21 K)); have r := K.raw; simp only [Raw, RawC, and_true, true_and, Nat.zero_add, Nat.reduceAdd] at r) | (apply K.storeA; rfl; rfl; rfl; rfl; rfl; (repeat (first | with_reducible exact Upd.head _ | with_reducible apply Upd.tail)); (first | with_reducible exact big_size | with_reducible exact frac_size); rfl; rfl; rfl; clear K r; intro W K; have r := K.raw; simp only [Raw, RawC, and_true, true_and, Nat.zero_add, Nat.reduceAdd] at r))
          go_ret
          exact ⟨rfl, K.1⟩
        · go_wp2_with (first | (apply K.alloc; rfl; rfl; (first | with_reducible exact big_zero | with_reducible exact frac_zero); clear K r; (first | ((fail_if_success revert b0); intro W b0 K) | ((fail_if_success revert b1); intro W b1 K) | ((fail_if_success revert b2); intro W b2 K) | ((fail_if_success revert b3); intro W b3 K) | ((fail_if_success revert b4); intro W b4 K) | ((fail_if_success revert b5); intro W b5 K) | ((fail_if_success revert b6); intro W b6 K) | ((fail_if_success revert b7); intro W b7 K) | ((fail_if_success revert b8); intro W b8 K) | ((fail_if_success revert b9); intro W b9 K) | ((fail_if_success revert b10); intro W b10 K) | ((fail_if_success revert b11); intro W b11 K) | ((fail_if_success revert b12); intro W b12 K) | ((fail_if_success revert b13); intro W b13 K) | ((fail_if_success revert b14); intro W b14 K) | ((fail_if_success revert b15); intro W b15 K) | ((fail_if_success revert b16); intro W b16 K) | ((fail_if_success revert b17); intro W b17 K) | ((fail_if_success revert b18); intro W b18 K) | ((fail_if_success revert b19); intro W b19 K) | ((fail_if_success revert b20); intro W b20 K) | ((fail_if_success revert b21); intro W b21 K)); have r := K.raw; simp only [Raw, RawC, and_true, true_and, Nat.zero_add, Nat.reduceAdd] at r) | (apply K.box; rfl; rfl; rfl; clear K r; (first | ((fail_if_success revert b0); intro W b0 K) | ((fail_if_success revert b1); intro W b1 K) | ((fail_if_success revert b2); intro W b2 K) | ((fail_if_success revert b3); intro W b3 K) | ((fail_if_success revert b4); intro W b4 K) | ((fail_if_success revert b5); intro W b5 K) | ((fail_if_success revert b6); intro W b6 K) | ((fail_if_success revert b7); intro W b7 K) | ((fail_if_success revert b8); intro W b8 K) | ((fail_if_success revert b9); intro W b9 K) | ((fail_if_success revert b10); intro W b10 K) | ((fail_if_success revert b11); intro W b11 K) | ((fail_if_success revert b12); intro W b12 K) | ((fail_if_success revert b13); intro W b13 K) | ((fail_if_success revert b14); intro W b14 K) | ((fail_if_success revert b15); intro W b15 K) | ((fail_if_success revert b16); intro W b16 K) | ((fail_if_success revert b17); intro W b17 K) | ((fail_if_success revert b18); intro W b18 K) | ((fail_if_success revert b19); intro W b19 K) | ((fail_if_success revert b20); intro W b20 K) | ((fail_if_success revert b21); intro W b21 K)); have r := K.raw; simp only [Raw, RawC, and_true, true_and, Nat.zero_add, Nat.reduceAdd] at r) | (apply K.storeA; rfl; rfl; rfl; rfl; rfl; (repeat (first | with_reducible exact Upd.head _ | with_reducible apply Upd.tail)); (first | with_reducible exact big_size | with_reducible exact frac_size); rfl; rfl; rfl; clear K r; intro W K; have r := K.raw; simp only [Raw, RawC, and_true, true_and, Nat.zero_add, Nat.reduceAdd] at r))
          go_ret
          exact ⟨rfl, K.1⟩
end Go.Proofs.YtkeajohkpmabcaaDoor
