
/- Walk over Read of the reference of layer 5. Conditions stand in the theorem. -/
import Derived.Test.YtkeajohkpmabcaaGreatDoorF11
import Derived.Test.YtkeajohkpmabcaaGreatDoorE18
import Derived.Test.YtkeajohkpmabcaaGreatDoorT
import Derived.Test.YtkeajohkpmabcaaGreatDoorD6
namespace Go.Proofs.YtkeajohkpmabcaaGreatDoor
open Go.RowKit
set_option linter.unusedVariables false
set_option linter.unusedSimpArgs false

set_option maxRecDepth 100000 in
set_option maxHeartbeats 4000000 in
theorem gRead_any (s : ByteArray) (w : World) (hs : s.size ≤ 1000) : Calls Tryz.prog 51 #[.string s] w (ReadF w s.data.toList) := by
  have K := St.start w
  have r := K.raw
  have HL := Lib.hid (Lib.size_eq s)
  have Hin := Lib.hid (show ∀ (k : Nat) (c : UInt8), s.data.toList[k]? = some c → ∀ h : k < s.size, s[k]'h = c from fun k c hc h => by
    have h' : k < s.data.toList.length := by rw [← Lib.size_eq]; exact h
    rw [List.getElem?_eq_getElem h'] at hc
    injection hc)
  go_enter Tryz.func51, Tryz.ntmps51
  go_wp2_with (first | ((first | (apply K.alloc; rfl; rfl; (first | with_reducible exact big_zero | with_reducible exact frac_zero)) | (apply K.box; rfl; rfl; rfl)); clear K r; intro W b K; have r := K.rawS) | (apply K.storeA; rfl; rfl; rfl; rfl; rfl; (repeat (first | with_reducible exact Upd.head _ | with_reducible apply Upd.tail)); (first | with_reducible exact big_size | with_reducible exact frac_size); rfl; rfl; rfl; clear K r; intro W K; have r := K.rawS))
  go_loopg [4] s.size (fun gk sa wr => ∃ k : Nat, k ≤ s.size ∧ gk = s.size - k ∧ sa = .int .i64 k ∧ Hid (∀ j : Nat, j < k → s.data.toList[j]? ≠ some 47) ∧ wr = W)
  case atStart => exact ⟨0, Nat.zero_le _, rfl, rfl, Lib.hid (fun j h => absurd h (by omega)), rfl⟩
  case round =>
    obtain ⟨k, hk, rfl, rfl, HA, hw⟩ := hrel
    subst hw
    by_cases hlt : k < s.size
    · obtain ⟨c, hc⟩ : ∃ c, s.data.toList[k]? = some c := ⟨_, List.getElem?_eq_getElem (by rw [← Lib.size_eq]; exact hlt)⟩
      have hi := Hin.out k c hc hlt
      have hki : (k : Int) < (s.size : Int) := by omega
      have hk0 : (0 : Int) ≤ (k : Int) := by omega
      by_cases h47 : c = 47
      case neg =>
        have hd : ¬ ((s[k]'hlt).toNat : Int) = 47 := by
          rw [hi]
          intro e
          apply h47
          have : c.toNat = (47 : UInt8).toNat := by have : (47 : UInt8).toNat = 47 := rfl; omega
          exact UInt8.toNat_inj.1 this
        have HA2 := Lib.hid (show ∀ j : Nat, j < k + 1 → s.data.toList[j]? ≠ some 47 from fun j hj e => by
          by_cases ej : j = k
          · subst ej; rw [hc] at e; injection e with e; exact h47 e
          · exact HA.out j (by omega) e)
        clear hi h47 HA hc
        go_wp2
        go_roundg (s.size - (k + 1))
        case rel => exact ⟨k + 1, hlt, rfl, by go_num, HA2, rfl⟩
        case measure => omega
      have hd : ((s[k]'hlt).toNat : Int) = 47 := by rw [hi, h47]; rfl
      have hcut := cut_at HA.out (show s.data.toList[k]? = some 47 from by rw [hc, h47])
      have HPn := Lib.hid (fun q (h1 : fitsF q = true) (h2 : textQ q = s.data.toList) => text_parts h1 h2)
      rw [hcut] at HPn
      have HP := Lib.hid (fun W => eread_any (s.extract 0 k) W (by rw [Lib.size_eq, ext_to, List.length_take]; omega))
      rw [ext_to] at HP
      have HQ := Lib.hid (fun W => eread_any (s.extract (k + 1) s.size) W (by rw [Lib.size_eq, ext_from, List.length_drop, ← HL.out]; omega))
      rw [ext_from] at HQ
      generalize readE (s.data.toList.take k) = E1 at *
      generalize readZ (s.data.toList.take k) = Z1 at *
      generalize readE (s.data.toList.drop (k + 1)) = E2 at *
      generalize readZ (s.data.toList.drop (k + 1)) = Z2 at *
      have Hs0 := Lib.hid (show s ≠ ⟨#[]⟩ from fun e => by rw [e] at hlt; exact absurd hlt (Nat.not_lt_zero _))
      have hne : ¬ (k : Int) = (s.size : Int) := by omega
      have hk1 : (k : Int) + 1 ≤ (s.size : Int) := by omega
      have hwk : IntKind.i64.wrap ((k : Int) + 1) = (k : Int) + 1 := IntWalk.i64_in _ (by omega)
      have htn : ((k : Int) + 1).toNat = k + 1 := by omega
      clear hi h47 HA hc hcut HL Hin hs
      go_wp2_with (first | ((first | (apply K.alloc; rfl; rfl; (first | with_reducible exact big_zero | with_reducible exact frac_zero)) | (apply K.box; rfl; rfl; rfl)); clear K r; intro W b K; have r := K.rawS) | (apply K.storeA; rfl; rfl; rfl; rfl; rfl; (repeat (first | with_reducible exact Upd.head _ | with_reducible apply Upd.tail)); (first | with_reducible exact big_size | with_reducible exact frac_size); rfl; rfl; rfl; clear K r; intro W K; have r := K.rawS))
      refine (HP.out _).mono ?_
      rintro e W' ⟨s3, A3, n3, c3, l3, rfl, hr, hs3, hf, hb⟩
      have hf3 := Lib.hid (hf.mono K.1.size)
      replace K := K.ret hb hr hf
      clear r
      have r := K.rawS
      clear hr hf hb
      go_wp2_with (first | ((first | (apply K.alloc; rfl; rfl; (first | with_reducible exact big_zero | with_reducible exact frac_zero)) | (apply K.box; rfl; rfl; rfl)); clear K r; intro W b K; have r := K.rawS) | (apply K.storeA; rfl; rfl; rfl; rfl; rfl; (repeat (first | with_reducible exact Upd.head _ | with_reducible apply Upd.tail)); (first | with_reducible exact big_size | with_reducible exact frac_size); rfl; rfl; rfl; clear K r; intro W K; have r := K.rawS))
      refine (HQ.out _).mono ?_
      rintro e W' ⟨s4, A4, n4, c4, l4, rfl, hr, hs4, hf, hb⟩
      have hf4 := Lib.hid (hf.mono K.1.size)
      replace K := K.ret hb hr hf
      clear r
      have r := K.rawS
      clear hr hf hb
      clear HP HQ hwk htn hk1 hne hki hk0 hd
      by_cases e1 : E1 = 0
      case neg =>
        have h1 : (E1 != 0) = true := by simp [e1]
        have HN := Lib.hid (ReadO.no (L := s.data.toList) fun q a b => e1 (HPn.out q a b).1.1)
        clear e1 HPn hs3 hs4
        go_wp2_with (first | ((first | (apply K.alloc; rfl; rfl; (first | with_reducible exact big_zero | with_reducible exact frac_zero)) | (apply K.box; rfl; rfl; rfl)); clear K r; intro W b K; have r := K.rawS) | (apply K.storeA; rfl; rfl; rfl; rfl; rfl; (repeat (first | with_reducible exact Upd.head _ | with_reducible apply Upd.tail)); (first | with_reducible exact big_size | with_reducible exact frac_size); rfl; rfl; rfl; clear K r; intro W K; have r := K.rawS))
        exact bodyPost_ret (v := .tuple #[.agg #[.int .i64 0, .slice none 0 0, .int .i64 0, .slice none 0 0], .int .i64 2]) (by simp [results, Tryz.results51, go_sem, r]) rfl ⟨none, HN.out, 0, none, 0, 0, [], 0, none, 0, 0, [], rfl, ⟨Rd.nil, Rd.nil⟩, ⟨rfl, rfl, rfl, rfl⟩, ⟨FrA.none, FrA.none⟩, K.1⟩
      subst e1
      by_cases e2 : E2 = 0
      case neg =>
        have h1 : (E2 != 0) = true := by simp [e2]
        have HN := Lib.hid (ReadO.no (L := s.data.toList) fun q a b => e2 (HPn.out q a b).2.1)
        clear e2 HPn hs3 hs4
        go_wp2_with (first | ((first | (apply K.alloc; rfl; rfl; (first | with_reducible exact big_zero | with_reducible exact frac_zero)) | (apply K.box; rfl; rfl; rfl)); clear K r; intro W b K; have r := K.rawS) | (apply K.storeA; rfl; rfl; rfl; rfl; rfl; (repeat (first | with_reducible exact Upd.head _ | with_reducible apply Upd.tail)); (first | with_reducible exact big_size | with_reducible exact frac_size); rfl; rfl; rfl; clear K r; intro W K; have r := K.rawS))
        exact bodyPost_ret (v := .tuple #[.agg #[.int .i64 0, .slice none 0 0, .int .i64 0, .slice none 0 0], .int .i64 2]) (by simp [results, Tryz.results51, go_sem, r]) rfl ⟨none, HN.out, 0, none, 0, 0, [], 0, none, 0, 0, [], rfl, ⟨Rd.nil, Rd.nil⟩, ⟨rfl, rfl, rfl, rfl⟩, ⟨FrA.none, FrA.none⟩, K.1⟩
      subst e2
      have HT := Lib.hid (fun W a b => gText_any s3 s4 A3 A4 n3 c3 n4 c4 l3 l4 W a b)
      obtain ⟨T, hT⟩ : ∃ T, textF (rightF s3 l3 s4 l4) (ratF s3 l3 s4 l4) = T := ⟨_, rfl⟩
      rw [hT] at HT
      have HNo := Lib.hid (show T ≠ s → ReadO s.data.toList none from fun hne => ReadO.no fun q a b => by
        obtain ⟨⟨-, p1⟩, -, p2⟩ := HPn.out q a b
        have S : StdF s3 l3 s4 l4 q := ⟨by rw [← p1]; exact hs3, by rw [← p2]; exact hs4⟩
        apply hne
        rw [← hT, StdF.right S a, StdF.rat S]
        unfold textF
        rw [if_pos rfl]
        apply ByteArray.ext
        apply Array.toList_inj.1
        exact b)
      have HYes := Lib.hid (show T = s → ∃ q, ReadO s.data.toList (some q) ∧ StdF s3 l3 s4 l4 q from fun e => by
        cases h1 : rightF s3 l3 s4 l4
        · rw [h1] at hT
          exact absurd (e.symm.trans hT.symm) Hs0.out
        · obtain ⟨S, F⟩ := rightF_std h1
          have h2 : textQ (ratF s3 l3 s4 l4) = s.data.toList := by rw [← e, ← hT, h1]; rfl
          exact ⟨_, by rw [← h2]; exact ReadO.of_text F, S⟩)
      clear hT HPn hs3 hs4 Hs0
      go_wp2_with (first | ((first | (apply K.alloc; rfl; rfl; (first | with_reducible exact big_zero | with_reducible exact frac_zero)) | (apply K.box; rfl; rfl; rfl)); clear K r; intro W b K; have r := K.rawS) | (apply K.storeA; rfl; rfl; rfl; rfl; rfl; (repeat (first | with_reducible exact Upd.head _ | with_reducible apply Upd.tail)); (first | with_reducible exact big_size | with_reducible exact frac_size); rfl; rfl; rfl; clear K r; intro W K; have r := K.rawS))
      refine (HT.out _ (by first | exact Rd.nil | exact K.rda) (by first | exact Rd.nil | exact K.rda)).mono ?_
      rintro e W' ⟨rfl, hb⟩
      replace K := K.keep hb
      clear r
      have r := K.rawS
      clear hb
      by_cases hq : T = s
      · obtain ⟨q0, hO, S⟩ := HYes.out hq
        have HO := Lib.hid hO
        subst hq
        clear HNo HYes hO HT
        go_wp2_with (first | ((first | (apply K.alloc; rfl; rfl; (first | with_reducible exact big_zero | with_reducible exact frac_zero)) | (apply K.box; rfl; rfl; rfl)); clear K r; intro W b K; have r := K.rawS) | (apply K.storeA; rfl; rfl; rfl; rfl; rfl; (repeat (first | with_reducible exact Upd.head _ | with_reducible apply Upd.tail)); (first | with_reducible exact big_size | with_reducible exact frac_size); rfl; rfl; rfl; clear K r; intro W K; have r := K.rawS))
        have HE := Lib.hid (⟨some q0, HO.out, s3, A3, n3, c3, l3, s4, A4, n4, c4, l4, rfl, ⟨(by first | exact Rd.nil | exact K.rda), (by first | exact Rd.nil | exact K.rda)⟩, S, ⟨hf3.out, hf4.out⟩, K.1⟩ : ReadF w T.data.toList (.returned (.tuple #[.agg #[.int .i64 s3, .slice A3 n3 c3, .int .i64 s4, .slice A4 n4 c4], .int .i64 0])) W)
        exact bodyPost_ret (v := .tuple #[.agg #[.int .i64 s3, .slice A3 n3 c3, .int .i64 s4, .slice A4 n4 c4], .int .i64 0]) (by simp [results, Tryz.results51, go_sem, r]) rfl HE.out
      · have hTs : (T.toList == s.toList) = false := by
          rw [Lib.toList_data, Lib.toList_data]
          exact beq_eq_false_iff_ne.2 (fun e => hq (ByteArray.ext (Array.toList_inj.1 e)))
        have HN := Lib.hid (HNo.out hq)
        clear HNo HYes HT hq
        go_wp2_with (first | ((first | (apply K.alloc; rfl; rfl; (first | with_reducible exact big_zero | with_reducible exact frac_zero)) | (apply K.box; rfl; rfl; rfl)); clear K r; intro W b K; have r := K.rawS) | (apply K.storeA; rfl; rfl; rfl; rfl; rfl; (repeat (first | with_reducible exact Upd.head _ | with_reducible apply Upd.tail)); (first | with_reducible exact big_size | with_reducible exact frac_size); rfl; rfl; rfl; clear K r; intro W K; have r := K.rawS))
        exact bodyPost_ret (v := .tuple #[.agg #[.int .i64 0, .slice none 0 0, .int .i64 0, .slice none 0 0], .int .i64 2]) (by simp [results, Tryz.results51, go_sem, r]) rfl ⟨none, HN.out, 0, none, 0, 0, [], 0, none, 0, 0, [], rfl, ⟨Rd.nil, Rd.nil⟩, ⟨rfl, rfl, rfl, rfl⟩, ⟨FrA.none, FrA.none⟩, K.1⟩
    · have ee : k = s.size := by omega
      subst ee
      have HN := Lib.hid (ReadO.noslash (L := s.data.toList) fun j e => HA.out j (by
        have := (List.getElem?_eq_some_iff.1 e).1
        rw [Lib.size_eq]; exact this) e)
      clear HA Hin HL
      go_wp2_with (first | ((first | (apply K.alloc; rfl; rfl; (first | with_reducible exact big_zero | with_reducible exact frac_zero)) | (apply K.box; rfl; rfl; rfl)); clear K r; intro W b K; have r := K.rawS) | (apply K.storeA; rfl; rfl; rfl; rfl; rfl; (repeat (first | with_reducible exact Upd.head _ | with_reducible apply Upd.tail)); (first | with_reducible exact big_size | with_reducible exact frac_size); rfl; rfl; rfl; clear K r; intro W K; have r := K.rawS))
      exact bodyPost_ret (v := .tuple #[.agg #[.int .i64 0, .slice none 0 0, .int .i64 0, .slice none 0 0], .int .i64 2]) (by simp [results, Tryz.results51, go_sem, r]) rfl ⟨none, HN.out, 0, none, 0, 0, [], 0, none, 0, 0, [], rfl, ⟨Rd.nil, Rd.nil⟩, ⟨rfl, rfl, rfl, rfl⟩, ⟨FrA.none, FrA.none⟩, K.1⟩
end Go.Proofs.YtkeajohkpmabcaaGreatDoor
