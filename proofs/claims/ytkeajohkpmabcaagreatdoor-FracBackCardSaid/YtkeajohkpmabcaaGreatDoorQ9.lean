
/- Walk over the law FracBack. Conditions stand in the theorem. -/
import Derived.Test.YtkeajohkpmabcaaGreatDoorQ5
import Derived.Test.YtkeajohkpmabcaaGreatDoorU
import Derived.Test.YtkeajohkpmabcaaGreatDoorU
import Derived.Test.YtkeajohkpmabcaaGreatDoorQo
import Derived.Maps.RangeWalk
namespace Go.Proofs.YtkeajohkpmabcaaGreatDoor
open Go.RowKit
set_option linter.unusedVariables false
set_option linter.unusedSimpArgs false

theorem resZ_fits (z : Int) : fits (resZ true z) = true := by
  cases h : fits z
  · rw [resZ_f h]; decide +kernel
  · rw [resZ_t h]; exact h
theorem errZ_ok {z : Int} (h : errZ true z = 0) : fits z = true := by
  cases h1 : fits z
  · rw [errZ_f h1] at h; omega
  · rfl
theorem back_new {x : Rat} {c : Int} (hc : c ≠ 0) (h1 : errZ true (x.num * c) = 0) (h2 : errZ true ((x.den : Int) * c) = 0) : newO true (resZ true (x.num * c)) (resZ true ((x.den : Int) * c)) = some x ∧ newE true (resZ true ((x.den : Int) * c)) = 0 := by
  have hd : (x.den : Int) * c ≠ 0 := Int.mul_ne_zero (by have := x.den_nz; omega) hc
  rw [resZ_t (errZ_ok h1), resZ_t (errZ_ok h2), newO_yes hd, newE_yes hd, Rat.divInt_mul_right hc, rat_parts]
  exact ⟨rfl, rfl⟩
theorem textQ_len {q : Rat} (h : fitsF q = true) : (textQ q).length ≤ 1000 := by
  have h1 := itoa_len (fitsF_num h)
  have h2 := itoa_len (fitsF_den h)
  unfold textQ
  rw [List.length_append, List.length_cons]
  omega
set_option maxRecDepth 1000000 in
set_option maxHeartbeats 16000000 in
theorem fracBack_walk (s1 t1 : Int) (A1 B1 : Option Addr) (n1 c1 m1 d1 : Nat) (l1 k1 : List Int) (c : Int) (s : ByteArray) (w : World) (r1 : RdI w w.heap.size A1 n1 c1 l1) (q1 : RdI w w.heap.size B1 m1 d1 k1) (hc : -9223372036854775808 ≤ c ∧ c ≤ 9223372036854775807) (hS : s.size ≤ maxLen) (htab : TabM w) :
    Calls Tryz.prog 7 #[.agg #[.int .i64 s1, .slice A1 n1 c1, .int .i64 t1, .slice B1 m1 d1], .int .i64 c, .string s] w fun e w' => e = .returned (.bool true) ∧ Below w.heap.size w w' := by
  have K := ((St.start w).oldRd r1).oldRd q1
  have r := K.raw
  have HT := Lib.hid htab
  have HS := Lib.hid (fun W (h : Below w.heap.size w W) => small5_any W (htab.on h))
  have HF1 := Lib.hid (fun W => gfew_any s1 t1 A1 B1 n1 c1 m1 d1 40 W)
  clear htab
  cases x1 : fewF n1 m1 40
  · rw [x1] at HF1
    clear x1
    clear r1 q1
    go_enter Tryz.func7, Tryz.ntmps7
    go_wp2_with (first | (first | ((first | (apply K.alloc; rfl; rfl; (first | with_reducible exact big_zero | with_reducible exact frac_zero)) | (apply K.box; rfl; rfl; rfl)); clear K r; (first | ((fail_if_success revert b0); intro W b0 K) | ((fail_if_success revert b1); intro W b1 K) | ((fail_if_success revert b2); intro W b2 K) | ((fail_if_success revert b3); intro W b3 K) | ((fail_if_success revert b4); intro W b4 K) | ((fail_if_success revert b5); intro W b5 K) | ((fail_if_success revert b6); intro W b6 K) | ((fail_if_success revert b7); intro W b7 K) | ((fail_if_success revert b8); intro W b8 K) | ((fail_if_success revert b9); intro W b9 K) | ((fail_if_success revert b10); intro W b10 K) | ((fail_if_success revert b11); intro W b11 K) | ((fail_if_success revert b12); intro W b12 K) | ((fail_if_success revert b13); intro W b13 K) | ((fail_if_success revert b14); intro W b14 K) | ((fail_if_success revert b15); intro W b15 K)); have r := K.rawS) | (apply K.storeA; rfl; rfl; rfl; rfl; rfl; (repeat (first | with_reducible exact Upd.head _ | with_reducible apply Upd.tail)); (first | with_reducible exact big_size | with_reducible exact frac_size); rfl; rfl; rfl; clear K r; intro W K; have r := K.rawS)) | (go_at_call 37; (with_reducible refine (HS.out _ K.bel).mono ?_); rintro e W' ⟨rfl, hb⟩; replace K := K.keep hb; clear r; have r := K.rawS; clear hb) | (go_at_call 38; (with_reducible refine (HF1.out _).mono ?_); rintro e W' ⟨rfl, hb⟩; replace K := K.keep hb; clear r; have r := K.rawS; clear hb))
    go_ret
    exact ⟨rfl, K.1⟩
  rw [x1] at HF1
  clear x1
  by_cases x3 : (300 : Int) < (s.size : Int)
  · clear r1 q1
    go_enter Tryz.func7, Tryz.ntmps7
    go_wp2_with (first | (first | ((first | (apply K.alloc; rfl; rfl; (first | with_reducible exact big_zero | with_reducible exact frac_zero)) | (apply K.box; rfl; rfl; rfl)); clear K r; (first | ((fail_if_success revert b0); intro W b0 K) | ((fail_if_success revert b1); intro W b1 K) | ((fail_if_success revert b2); intro W b2 K) | ((fail_if_success revert b3); intro W b3 K) | ((fail_if_success revert b4); intro W b4 K) | ((fail_if_success revert b5); intro W b5 K) | ((fail_if_success revert b6); intro W b6 K) | ((fail_if_success revert b7); intro W b7 K) | ((fail_if_success revert b8); intro W b8 K) | ((fail_if_success revert b9); intro W b9 K) | ((fail_if_success revert b10); intro W b10 K) | ((fail_if_success revert b11); intro W b11 K) | ((fail_if_success revert b12); intro W b12 K) | ((fail_if_success revert b13); intro W b13 K) | ((fail_if_success revert b14); intro W b14 K) | ((fail_if_success revert b15); intro W b15 K)); have r := K.rawS) | (apply K.storeA; rfl; rfl; rfl; rfl; rfl; (repeat (first | with_reducible exact Upd.head _ | with_reducible apply Upd.tail)); (first | with_reducible exact big_size | with_reducible exact frac_size); rfl; rfl; rfl; clear K r; intro W K; have r := K.rawS)) | (go_at_call 37; (with_reducible refine (HS.out _ K.bel).mono ?_); rintro e W' ⟨rfl, hb⟩; replace K := K.keep hb; clear r; have r := K.rawS; clear hb) | (go_at_call 38; (with_reducible refine (HF1.out _).mono ?_); rintro e W' ⟨rfl, hb⟩; replace K := K.keep hb; clear r; have r := K.rawS; clear hb))
    go_ret
    exact ⟨rfl, K.1⟩
  have hs3 : s.size ≤ 1000 := by omega
  have HRd := Lib.hid (fun W (h : Below w.heap.size w W) => fRead_any s W hs3 (HT.out.on h))
  have HX := Lib.hid (fun W a b t => fText_any s1 t1 A1 B1 n1 c1 m1 d1 l1 k1 W a b t)
  have HG := Lib.hid (fun W a b => fRight_any s1 t1 A1 B1 n1 c1 m1 d1 l1 k1 W a b)
  have HRight := Lib.hid (show rightF s1 l1 t1 k1 = true → StdF s1 l1 t1 k1 (ratF s1 l1 t1 k1) ∧ fitsF (ratF s1 l1 t1 k1) = true from fun h => rightF_std h)
  have HC := Lib.hid hc
  clear hs3 hc r1 q1
  go_enter Tryz.func7, Tryz.ntmps7
  go_wp2_with (first | (first | ((first | (apply K.alloc; rfl; rfl; (first | with_reducible exact big_zero | with_reducible exact frac_zero)) | (apply K.box; rfl; rfl; rfl)); clear K r; (first | ((fail_if_success revert b0); intro W b0 K) | ((fail_if_success revert b1); intro W b1 K) | ((fail_if_success revert b2); intro W b2 K) | ((fail_if_success revert b3); intro W b3 K) | ((fail_if_success revert b4); intro W b4 K) | ((fail_if_success revert b5); intro W b5 K) | ((fail_if_success revert b6); intro W b6 K) | ((fail_if_success revert b7); intro W b7 K) | ((fail_if_success revert b8); intro W b8 K) | ((fail_if_success revert b9); intro W b9 K) | ((fail_if_success revert b10); intro W b10 K) | ((fail_if_success revert b11); intro W b11 K) | ((fail_if_success revert b12); intro W b12 K) | ((fail_if_success revert b13); intro W b13 K) | ((fail_if_success revert b14); intro W b14 K) | ((fail_if_success revert b15); intro W b15 K)); have r := K.rawS) | (apply K.storeA; rfl; rfl; rfl; rfl; rfl; (repeat (first | with_reducible exact Upd.head _ | with_reducible apply Upd.tail)); (first | with_reducible exact big_size | with_reducible exact frac_size); rfl; rfl; rfl; clear K r; intro W K; have r := K.rawS)) | (go_at_call 37; (with_reducible refine (HS.out _ K.bel).mono ?_); rintro e W' ⟨rfl, hb⟩; replace K := K.keep hb; clear r; have r := K.rawS; clear hb) | (go_at_call 38; (with_reducible refine (HF1.out _).mono ?_); rintro e W' ⟨rfl, hb⟩; replace K := K.keep hb; clear r; have r := K.rawS; clear hb))
  clear HS HF1 x3
  refine (HRd.out _ K.1).mono ?_
  rintro e W' ⟨o3, ho3, s3, A3, n3, c3, l3, t3, B3, m3, d3, k3, rfl, ⟨hra, hrb⟩, hs3, ⟨hfa, hfb⟩, hb⟩
  clear HRd
  replace K := K.retF hb hra hrb hfa hfb
  clear r
  have r := K.rawS
  clear hra hrb hfa hfb hb
  go_upto_region 5 with (first | ((first | (apply K.alloc; rfl; rfl; (first | with_reducible exact big_zero | with_reducible exact frac_zero)) | (apply K.box; rfl; rfl; rfl)); clear K r; (first | ((fail_if_success revert b0); intro W b0 K) | ((fail_if_success revert b1); intro W b1 K) | ((fail_if_success revert b2); intro W b2 K) | ((fail_if_success revert b3); intro W b3 K) | ((fail_if_success revert b4); intro W b4 K) | ((fail_if_success revert b5); intro W b5 K) | ((fail_if_success revert b6); intro W b6 K) | ((fail_if_success revert b7); intro W b7 K) | ((fail_if_success revert b8); intro W b8 K) | ((fail_if_success revert b9); intro W b9 K) | ((fail_if_success revert b10); intro W b10 K) | ((fail_if_success revert b11); intro W b11 K) | ((fail_if_success revert b12); intro W b12 K) | ((fail_if_success revert b13); intro W b13 K) | ((fail_if_success revert b14); intro W b14 K) | ((fail_if_success revert b15); intro W b15 K)); have r := K.rawS) | (apply K.storeA; rfl; rfl; rfl; rfl; rfl; (repeat (first | with_reducible exact Upd.head _ | with_reducible apply Upd.tail)); (first | with_reducible exact big_size | with_reducible exact frac_size); rfl; rfl; rfl; clear K r; intro W K; have r := K.rawS))
  obtain ⟨RX, HXX⟩ := K.hide1
  trace "BACK A"
  go_cut [62] from 36 to 61 (fun p wx => p = .bool false ∧ RX wx)
  case first =>
    cases o3 with
    | none =>
      have hc0 : readC none = 2 := rfl
      rw [hc0]
      clear ho3 hc0
      go_wp2_with fail
      refine (gSameO none _ _ _ _ _ _ _ _ _ _ _ _ _ _ _ _ _ _ _ _ _ (by first | exact Rd.nil | exact K.rda) (by first | exact Rd.nil | exact K.rda) (by first | exact Rd.nil | exact K.rda) (by first | exact Rd.nil | exact K.rda) hs3 ⟨rfl, rfl, rfl, rfl⟩).mono ?_
      rintro e W' ⟨rfl, hb⟩
      replace K := K.keep hb
      clear r
      have r := K.rawS
      clear hb
      go_wp2_with fail
      go_meet
      exact ⟨rfl, (HXX _).2 K⟩
    | some q0 =>
      have hc0 : readC (some q0) = 0 := rfl
      rw [hc0]
      obtain ⟨f0, tx⟩ := ho3.1 q0 rfl
      replace hs3 : StdF s3 l3 t3 k3 q0 := hs3
      have HG3 := Lib.hid (fun W a b => nRightF q0 s3 t3 A3 B3 n3 c3 m3 d3 l3 k3 W a b hs3 f0)
      have HX3 := Lib.hid (fun W a b t => nTextF q0 s3 t3 A3 B3 n3 c3 m3 d3 l3 k3 W a b hs3 f0 t)
      rw [show (⟨(textQ q0).toArray⟩ : ByteArray) = s from ByteArray.ext (Array.toList_inj.1 tx)] at HX3
      clear ho3 hc0 f0 tx hs3
      go_wp2_with fail
      refine (HG3.out _ (by first | exact Rd.nil | exact K.rda) (by first | exact Rd.nil | exact K.rda)).mono ?_
      rintro e W' ⟨rfl, hb⟩
      replace K := K.keep hb
      clear r
      have r := K.rawS
      clear hb
      go_wp2_with fail
      refine (HX3.out _ (by first | exact Rd.nil | exact K.rda) (by first | exact Rd.nil | exact K.rda) (HT.out.1.on K.1)).mono ?_
      rintro e W' ⟨rfl, hb⟩
      replace K := K.keep hb
      clear r
      have r := K.rawS
      clear hb
      go_wp2_with fail
      go_meet
      exact ⟨rfl, (HXX _).2 K⟩
  case rest =>
  obtain ⟨rfl, hk⟩ := hcut
  replace K := (HXX _).1 hk
  clear r hk HXX ho3 hs3
  have r := K.rawS
  go_wp2_with (first | ((first | (apply K.alloc; rfl; rfl; (first | with_reducible exact big_zero | with_reducible exact frac_zero)) | (apply K.box; rfl; rfl; rfl)); clear K r; (first | ((fail_if_success revert b0); intro W b0 K) | ((fail_if_success revert b1); intro W b1 K) | ((fail_if_success revert b2); intro W b2 K) | ((fail_if_success revert b3); intro W b3 K) | ((fail_if_success revert b4); intro W b4 K) | ((fail_if_success revert b5); intro W b5 K) | ((fail_if_success revert b6); intro W b6 K) | ((fail_if_success revert b7); intro W b7 K) | ((fail_if_success revert b8); intro W b8 K) | ((fail_if_success revert b9); intro W b9 K) | ((fail_if_success revert b10); intro W b10 K) | ((fail_if_success revert b11); intro W b11 K) | ((fail_if_success revert b12); intro W b12 K) | ((fail_if_success revert b13); intro W b13 K) | ((fail_if_success revert b14); intro W b14 K) | ((fail_if_success revert b15); intro W b15 K)); have r := K.rawS) | (apply K.storeA; rfl; rfl; rfl; rfl; rfl; (repeat (first | with_reducible exact Upd.head _ | with_reducible apply Upd.tail)); (first | with_reducible exact big_size | with_reducible exact frac_size); rfl; rfl; rfl; clear K r; intro W K; have r := K.rawS))
  refine (HX.out _ (by first | exact Rd.nil | exact K.rda) (by first | exact Rd.nil | exact K.rda) (HT.out.1.on K.1)).mono ?_
  rintro e W' ⟨rfl, hb⟩
  replace K := K.keep hb
  clear r
  have r := K.rawS
  clear hb
  clear HX
  go_wp2_with (first | ((first | (apply K.alloc; rfl; rfl; (first | with_reducible exact big_zero | with_reducible exact frac_zero)) | (apply K.box; rfl; rfl; rfl)); clear K r; (first | ((fail_if_success revert b0); intro W b0 K) | ((fail_if_success revert b1); intro W b1 K) | ((fail_if_success revert b2); intro W b2 K) | ((fail_if_success revert b3); intro W b3 K) | ((fail_if_success revert b4); intro W b4 K) | ((fail_if_success revert b5); intro W b5 K) | ((fail_if_success revert b6); intro W b6 K) | ((fail_if_success revert b7); intro W b7 K) | ((fail_if_success revert b8); intro W b8 K) | ((fail_if_success revert b9); intro W b9 K) | ((fail_if_success revert b10); intro W b10 K) | ((fail_if_success revert b11); intro W b11 K) | ((fail_if_success revert b12); intro W b12 K) | ((fail_if_success revert b13); intro W b13 K) | ((fail_if_success revert b14); intro W b14 K) | ((fail_if_success revert b15); intro W b15 K)); have r := K.rawS) | (apply K.storeA; rfl; rfl; rfl; rfl; rfl; (repeat (first | with_reducible exact Upd.head _ | with_reducible apply Upd.tail)); (first | with_reducible exact big_size | with_reducible exact frac_size); rfl; rfl; rfl; clear K r; intro W K; have r := K.rawS))
  refine (HG.out _ (by first | exact Rd.nil | exact K.rda) (by first | exact Rd.nil | exact K.rda)).mono ?_
  rintro e W' ⟨rfl, hb⟩
  replace K := K.keep hb
  clear r
  have r := K.rawS
  clear hb
  clear HG
  trace "BACK B"
  cases hR : rightF s1 l1 t1 k1
  · have hT : textF false (ratF s1 l1 t1 k1) = ⟨#[]⟩ := rfl
    rw [hT]
    clear hR hT HRight
    go_wp2_with (first | ((first | (apply K.alloc; rfl; rfl; (first | with_reducible exact big_zero | with_reducible exact frac_zero)) | (apply K.box; rfl; rfl; rfl)); clear K r; (first | ((fail_if_success revert b0); intro W b0 K) | ((fail_if_success revert b1); intro W b1 K) | ((fail_if_success revert b2); intro W b2 K) | ((fail_if_success revert b3); intro W b3 K) | ((fail_if_success revert b4); intro W b4 K) | ((fail_if_success revert b5); intro W b5 K) | ((fail_if_success revert b6); intro W b6 K) | ((fail_if_success revert b7); intro W b7 K) | ((fail_if_success revert b8); intro W b8 K) | ((fail_if_success revert b9); intro W b9 K) | ((fail_if_success revert b10); intro W b10 K) | ((fail_if_success revert b11); intro W b11 K) | ((fail_if_success revert b12); intro W b12 K) | ((fail_if_success revert b13); intro W b13 K) | ((fail_if_success revert b14); intro W b14 K) | ((fail_if_success revert b15); intro W b15 K)); have r := K.rawS) | (apply K.storeA; rfl; rfl; rfl; rfl; rfl; (repeat (first | with_reducible exact Upd.head _ | with_reducible apply Upd.tail)); (first | with_reducible exact big_size | with_reducible exact frac_size); rfl; rfl; rfl; clear K r; intro W K; have r := K.rawS))
    go_ret
    exact ⟨rfl, K.1⟩
  obtain ⟨hs1, F1⟩ := HRight.out hR
  have hT : textF true (ratF s1 l1 t1 k1) = ⟨(textQ (ratF s1 l1 t1 k1)).toArray⟩ := rfl
  rw [hT]
  generalize ratF s1 l1 t1 k1 = x at *
  have HRd := Lib.hid (show ∀ W, Below w.heap.size w W → Calls Tryz.prog 50 #[.string ⟨(textQ x).toArray⟩] W (FrE W (some x) 0) from fun W h => (fRead_any ⟨(textQ x).toArray⟩ W (by rw [Lib.size_eq]; exact textQ_len F1) (HT.out.on h)).mono fun e W' ⟨o, ho, h⟩ => by
    have e0 : o = some x := ReadO.unique ho (ReadO.of_text F1)
    subst e0
    exact h)
  generalize (⟨(textQ x).toArray⟩ : ByteArray) = T at *
  have f1 := fitsF_num F1
  have f2 := fitsF_den F1
  have fc : fits c = true := fits_i64 (by have := HC.out; omega)
  have hdn : (x.den : Int) ≠ 0 := by have := x.den_nz; omega
  have HN1 := Lib.hid (fun s A n cap l t A' n' cap' m W hl hm h1 h2 => nNewT x.num x.den s A n cap l t A' n' cap' m W hl hm h1 h2 f1 f2 hdn)
  rw [rat_parts] at HN1
  have HM1 := Lib.hid (fun s A n cap l t A' n' cap' m W hl hm h1 h2 => vMul x.num c s A n cap l t A' n' cap' m W hl hm h1 h2 f1 fc)
  have HM2 := Lib.hid (fun s A n cap l t A' n' cap' m W hl hm h1 h2 => vMul x.den c s A n cap l t A' n' cap' m W hl hm h1 h2 f2 fc)
  have HN2 := Lib.hid (fun s A n cap l t A' n' cap' m W hl hm h1 h2 => vNew (resZ true (x.num * c)) (resZ true ((x.den : Int) * c)) s A n cap l t A' n' cap' m W hl hm h1 h2 (resZ_fits _) (resZ_fits _))
  have HB := Lib.hid (fun (hc : c ≠ 0) h1 h2 => back_new (x := x) hc h1 h2)
  generalize newO true (resZ true (x.num * c)) (resZ true ((x.den : Int) * c)) = o8 at *
  generalize newE true (resZ true ((x.den : Int) * c)) = e8 at *
  generalize resZ true (x.num * c) = Z1 at *
  generalize resZ true ((x.den : Int) * c) = Z2 at *
  generalize errZ true (x.num * c) = E1 at *
  generalize errZ true ((x.den : Int) * c) = E2 at *
  have h1a := hs1.1
  have h1b := hs1.2
  clear hR hT HRight F1 f1 f2 fc hdn
  go_wp2_with (first | ((first | (apply K.alloc; rfl; rfl; (first | with_reducible exact big_zero | with_reducible exact frac_zero)) | (apply K.box; rfl; rfl; rfl)); clear K r; (first | ((fail_if_success revert b0); intro W b0 K) | ((fail_if_success revert b1); intro W b1 K) | ((fail_if_success revert b2); intro W b2 K) | ((fail_if_success revert b3); intro W b3 K) | ((fail_if_success revert b4); intro W b4 K) | ((fail_if_success revert b5); intro W b5 K) | ((fail_if_success revert b6); intro W b6 K) | ((fail_if_success revert b7); intro W b7 K) | ((fail_if_success revert b8); intro W b8 K) | ((fail_if_success revert b9); intro W b9 K) | ((fail_if_success revert b10); intro W b10 K) | ((fail_if_success revert b11); intro W b11 K) | ((fail_if_success revert b12); intro W b12 K) | ((fail_if_success revert b13); intro W b13 K) | ((fail_if_success revert b14); intro W b14 K) | ((fail_if_success revert b15); intro W b15 K)); have r := K.rawS) | (apply K.storeA; rfl; rfl; rfl; rfl; rfl; (repeat (first | with_reducible exact Upd.head _ | with_reducible apply Upd.tail)); (first | with_reducible exact big_size | with_reducible exact frac_size); rfl; rfl; rfl; clear K r; intro W K; have r := K.rawS))
  refine (HRd.out _ K.1).mono ?_
  rintro e W' ⟨s4, A4, n4, c4, l4, t4, B4, m4, d4, k4, rfl, ⟨hra, hrb⟩, hs4, ⟨hfa, hfb⟩, hb⟩
  replace K := K.retF hb hra hrb hfa hfb
  clear r
  have r := K.rawS
  clear hra hrb hfa hfb hb
  go_wp2_with (first | ((first | (apply K.alloc; rfl; rfl; (first | with_reducible exact big_zero | with_reducible exact frac_zero)) | (apply K.box; rfl; rfl; rfl)); clear K r; (first | ((fail_if_success revert b0); intro W b0 K) | ((fail_if_success revert b1); intro W b1 K) | ((fail_if_success revert b2); intro W b2 K) | ((fail_if_success revert b3); intro W b3 K) | ((fail_if_success revert b4); intro W b4 K) | ((fail_if_success revert b5); intro W b5 K) | ((fail_if_success revert b6); intro W b6 K) | ((fail_if_success revert b7); intro W b7 K) | ((fail_if_success revert b8); intro W b8 K) | ((fail_if_success revert b9); intro W b9 K) | ((fail_if_success revert b10); intro W b10 K) | ((fail_if_success revert b11); intro W b11 K) | ((fail_if_success revert b12); intro W b12 K) | ((fail_if_success revert b13); intro W b13 K) | ((fail_if_success revert b14); intro W b14 K) | ((fail_if_success revert b15); intro W b15 K)); have r := K.rawS) | (apply K.storeA; rfl; rfl; rfl; rfl; rfl; (repeat (first | with_reducible exact Upd.head _ | with_reducible apply Upd.tail)); (first | with_reducible exact big_size | with_reducible exact frac_size); rfl; rfl; rfl; clear K r; intro W K; have r := K.rawS))
  refine (HN1.out _ _ _ _ _ _ _ _ _ _ _ (by first | exact Rd.nil | exact K.rda) (by first | exact Rd.nil | exact K.rda) h1a h1b).mono ?_
  rintro e W' ⟨s5, A5, n5, c5, l5, t5, B5, m5, d5, k5, rfl, ⟨hra, hrb⟩, hs5, ⟨hfa, hfb⟩, hb⟩
  replace K := K.retF hb hra hrb hfa hfb
  clear r
  have r := K.rawS
  clear hra hrb hfa hfb hb
  clear HRd HN1
  trace "BACK C"
  go_upto_region 12 with (first | ((first | (apply K.alloc; rfl; rfl; (first | with_reducible exact big_zero | with_reducible exact frac_zero)) | (apply K.box; rfl; rfl; rfl)); clear K r; (first | ((fail_if_success revert b0); intro W b0 K) | ((fail_if_success revert b1); intro W b1 K) | ((fail_if_success revert b2); intro W b2 K) | ((fail_if_success revert b3); intro W b3 K) | ((fail_if_success revert b4); intro W b4 K) | ((fail_if_success revert b5); intro W b5 K) | ((fail_if_success revert b6); intro W b6 K) | ((fail_if_success revert b7); intro W b7 K) | ((fail_if_success revert b8); intro W b8 K) | ((fail_if_success revert b9); intro W b9 K) | ((fail_if_success revert b10); intro W b10 K) | ((fail_if_success revert b11); intro W b11 K) | ((fail_if_success revert b12); intro W b12 K) | ((fail_if_success revert b13); intro W b13 K) | ((fail_if_success revert b14); intro W b14 K) | ((fail_if_success revert b15); intro W b15 K)); have r := K.rawS) | (apply K.storeA; rfl; rfl; rfl; rfl; rfl; (repeat (first | with_reducible exact Upd.head _ | with_reducible apply Upd.tail)); (first | with_reducible exact big_size | with_reducible exact frac_size); rfl; rfl; rfl; clear K r; intro W K; have r := K.rawS))
  obtain ⟨RR, HR0⟩ := K.hide 24
  go_cut [16, 15] from 86 to 93 (fun e p wx => ∃ g s8 A8 n8 c8 l8, e = .int .i64 E1 ∧ p = .pointer (some ⟨g, 0, none⟩) ∧ Std s8 l8 (Z1) ∧ RR g #[.int .i64 s8, .slice A8 n8 c8] A8 n8 c8 l8 wx)
  case first =>
    obtain ⟨g1, hg1, KA⟩ := K.newEx #[.int .i64 0, .slice none 0 0] 24
    have rA := KA.raw
    have Kd := K.drew
    have KAd := KA.drew
    simp only [Raw, RawC, and_true, true_and, Nat.zero_add, Nat.reduceAdd] at rA
    go_region_with (first
      | (go_at_call 35; (with_reducible refine (bOf_any c _ ?qz).mono ?_); (case qz => exact HC.out); rintro e W ⟨s30, A30, n30, c30, l30, rfl, hr, hs30, hf, hb⟩; (first | with_reducible replace K := Kd.ret hb hr hf | with_reducible replace K := KAd.ret hb hr hf); clear r rA KA hr hf hb; have r := K.raw; obtain ⟨g2, hg2, KA⟩ := K.newEx #[.int .i64 0, .slice none 0 0] 24; have rA := KA.raw; simp only [Raw, RawC, and_true, true_and, Nat.zero_add, Nat.reduceAdd] at r rA)
      | (go_at_call 15; (with_reducible refine (HM1.out _ _ _ _ _ _ _ _ _ _ _ ?qa ?qb h1a hs30).mono ?_); (case qa => (first | with_reducible exact K.rd (by repeat (first | with_reducible exact List.mem_cons_self | with_reducible apply List.mem_cons_of_mem)) | with_reducible exact KA.rd (by repeat (first | with_reducible exact List.mem_cons_self | with_reducible apply List.mem_cons_of_mem)))); (case qb => (first | with_reducible exact K.rd (by repeat (first | with_reducible exact List.mem_cons_self | with_reducible apply List.mem_cons_of_mem)) | with_reducible exact KA.rd (by repeat (first | with_reducible exact List.mem_cons_self | with_reducible apply List.mem_cons_of_mem)))); skip; rintro e W ⟨s31, A31, n31, c31, l31, rfl, hr, hs31, hf, hb⟩; (first | with_reducible replace K := K.ret hb hr hf | with_reducible replace K := KA.ret hb hr hf); clear r rA KA hr hf hb; have r := K.raw; have z := K.rawz; simp only [Raw, RawC, RawZ, and_true, true_and, Nat.zero_add, Nat.reduceAdd] at r z))
    all_goals
      replace hs31 : Std s31 l31 (Z1) := hs31
      go_wp2_with fail
      go_meet
      first
        | with_reducible exact ⟨_, s31, A31, n31, c31, l31, rfl, rfl, hs31, (HR0 _ _ _ _ _ _ _).2 (K.new #[.int .i64 s31, .slice A31 n31 c31] 24).skip2⟩
        | with_reducible exact ⟨_, s31, A31, n31, c31, l31, rfl, rfl, hs31, (HR0 _ _ _ _ _ _ _).2 (K.set2 (u := .int .i64 s31) (v := .slice A31 n31 c31) (by repeat (first | with_reducible exact Upd.head _ | with_reducible apply Upd.tail))).skip2⟩
        | exact ⟨_, s31, A31, n31, c31, l31, rfl, rfl, hs31, (HR0 _ _ _ _ _ _ _).2 (K.new #[.int .i64 s31, .slice A31 n31 c31] 24).skip2⟩
        | exact ⟨_, s31, A31, n31, c31, l31, rfl, rfl, hs31, (HR0 _ _ _ _ _ _ _).2 (K.set2 (u := .int .i64 s31) (v := .slice A31 n31 c31) (by repeat (first | with_reducible exact Upd.head _ | with_reducible apply Upd.tail))).skip2⟩
  case rest =>
  obtain ⟨gb6, s6, A6, n6, c6, l6, rfl, rfl, hs6, hk⟩ := hcut
  replace K := (HR0 _ _ _ _ _ _ _).1 hk
  clear r hk HR0
  have r := K.rawS
  go_upto_region 13 with (first | ((first | (apply K.alloc; rfl; rfl; (first | with_reducible exact big_zero | with_reducible exact frac_zero)) | (apply K.box; rfl; rfl; rfl)); clear K r; (first | ((fail_if_success revert b0); intro W b0 K) | ((fail_if_success revert b1); intro W b1 K) | ((fail_if_success revert b2); intro W b2 K) | ((fail_if_success revert b3); intro W b3 K) | ((fail_if_success revert b4); intro W b4 K) | ((fail_if_success revert b5); intro W b5 K) | ((fail_if_success revert b6); intro W b6 K) | ((fail_if_success revert b7); intro W b7 K) | ((fail_if_success revert b8); intro W b8 K) | ((fail_if_success revert b9); intro W b9 K) | ((fail_if_success revert b10); intro W b10 K) | ((fail_if_success revert b11); intro W b11 K) | ((fail_if_success revert b12); intro W b12 K) | ((fail_if_success revert b13); intro W b13 K) | ((fail_if_success revert b14); intro W b14 K) | ((fail_if_success revert b15); intro W b15 K)); have r := K.rawS) | (apply K.storeA; rfl; rfl; rfl; rfl; rfl; (repeat (first | with_reducible exact Upd.head _ | with_reducible apply Upd.tail)); (first | with_reducible exact big_size | with_reducible exact frac_size); rfl; rfl; rfl; clear K r; intro W K; have r := K.rawS))
  obtain ⟨RR, HR0⟩ := K.hide 24
  go_cut [18, 17] from 94 to 101 (fun e p wx => ∃ g s8 A8 n8 c8 l8, e = .int .i64 E2 ∧ p = .pointer (some ⟨g, 0, none⟩) ∧ Std s8 l8 (Z2) ∧ RR g #[.int .i64 s8, .slice A8 n8 c8] A8 n8 c8 l8 wx)
  case first =>
    obtain ⟨g1, hg1, KA⟩ := K.newEx #[.int .i64 0, .slice none 0 0] 24
    have rA := KA.raw
    have Kd := K.drew
    have KAd := KA.drew
    simp only [Raw, RawC, and_true, true_and, Nat.zero_add, Nat.reduceAdd] at rA
    go_region_with (first
      | (go_at_call 35; (with_reducible refine (bOf_any c _ ?qz).mono ?_); (case qz => exact HC.out); rintro e W ⟨s30, A30, n30, c30, l30, rfl, hr, hs30, hf, hb⟩; (first | with_reducible replace K := Kd.ret hb hr hf | with_reducible replace K := KAd.ret hb hr hf); clear r rA KA hr hf hb; have r := K.raw; obtain ⟨g2, hg2, KA⟩ := K.newEx #[.int .i64 0, .slice none 0 0] 24; have rA := KA.raw; simp only [Raw, RawC, and_true, true_and, Nat.zero_add, Nat.reduceAdd] at r rA)
      | (go_at_call 15; (with_reducible refine (HM2.out _ _ _ _ _ _ _ _ _ _ _ ?qa ?qb h1b hs30).mono ?_); (case qa => (first | with_reducible exact K.rd (by repeat (first | with_reducible exact List.mem_cons_self | with_reducible apply List.mem_cons_of_mem)) | with_reducible exact KA.rd (by repeat (first | with_reducible exact List.mem_cons_self | with_reducible apply List.mem_cons_of_mem)))); (case qb => (first | with_reducible exact K.rd (by repeat (first | with_reducible exact List.mem_cons_self | with_reducible apply List.mem_cons_of_mem)) | with_reducible exact KA.rd (by repeat (first | with_reducible exact List.mem_cons_self | with_reducible apply List.mem_cons_of_mem)))); skip; rintro e W ⟨s31, A31, n31, c31, l31, rfl, hr, hs31, hf, hb⟩; (first | with_reducible replace K := K.ret hb hr hf | with_reducible replace K := KA.ret hb hr hf); clear r rA KA hr hf hb; have r := K.raw; have z := K.rawz; simp only [Raw, RawC, RawZ, and_true, true_and, Nat.zero_add, Nat.reduceAdd] at r z))
    all_goals
      replace hs31 : Std s31 l31 (Z2) := hs31
      go_wp2_with fail
      go_meet
      first
        | with_reducible exact ⟨_, s31, A31, n31, c31, l31, rfl, rfl, hs31, (HR0 _ _ _ _ _ _ _).2 (K.new #[.int .i64 s31, .slice A31 n31 c31] 24).skip2⟩
        | with_reducible exact ⟨_, s31, A31, n31, c31, l31, rfl, rfl, hs31, (HR0 _ _ _ _ _ _ _).2 (K.set2 (u := .int .i64 s31) (v := .slice A31 n31 c31) (by repeat (first | with_reducible exact Upd.head _ | with_reducible apply Upd.tail))).skip2⟩
        | exact ⟨_, s31, A31, n31, c31, l31, rfl, rfl, hs31, (HR0 _ _ _ _ _ _ _).2 (K.new #[.int .i64 s31, .slice A31 n31 c31] 24).skip2⟩
        | exact ⟨_, s31, A31, n31, c31, l31, rfl, rfl, hs31, (HR0 _ _ _ _ _ _ _).2 (K.set2 (u := .int .i64 s31) (v := .slice A31 n31 c31) (by repeat (first | with_reducible exact Upd.head _ | with_reducible apply Upd.tail))).skip2⟩
  case rest =>
  obtain ⟨gb7, s7, A7, n7, c7, l7, rfl, rfl, hs7, hk⟩ := hcut
  replace K := (HR0 _ _ _ _ _ _ _).1 hk
  clear r hk HR0
  have r := K.rawS
  clear HM1 HM2
  go_wp2_with (first | ((first | (apply K.alloc; rfl; rfl; (first | with_reducible exact big_zero | with_reducible exact frac_zero)) | (apply K.box; rfl; rfl; rfl)); clear K r; (first | ((fail_if_success revert b0); intro W b0 K) | ((fail_if_success revert b1); intro W b1 K) | ((fail_if_success revert b2); intro W b2 K) | ((fail_if_success revert b3); intro W b3 K) | ((fail_if_success revert b4); intro W b4 K) | ((fail_if_success revert b5); intro W b5 K) | ((fail_if_success revert b6); intro W b6 K) | ((fail_if_success revert b7); intro W b7 K) | ((fail_if_success revert b8); intro W b8 K) | ((fail_if_success revert b9); intro W b9 K) | ((fail_if_success revert b10); intro W b10 K) | ((fail_if_success revert b11); intro W b11 K) | ((fail_if_success revert b12); intro W b12 K) | ((fail_if_success revert b13); intro W b13 K) | ((fail_if_success revert b14); intro W b14 K) | ((fail_if_success revert b15); intro W b15 K)); have r := K.rawS) | (apply K.storeA; rfl; rfl; rfl; rfl; rfl; (repeat (first | with_reducible exact Upd.head _ | with_reducible apply Upd.tail)); (first | with_reducible exact big_size | with_reducible exact frac_size); rfl; rfl; rfl; clear K r; intro W K; have r := K.rawS))
  refine (HN2.out _ _ _ _ _ _ _ _ _ _ _ (by first | exact Rd.nil | exact K.rda) (by first | exact Rd.nil | exact K.rda) hs6 hs7).mono ?_
  rintro e W' ⟨s8, A8, n8, c8, l8, t8, B8, m8, d8, k8, rfl, ⟨hra, hrb⟩, hs8, ⟨hfa, hfb⟩, hb⟩
  replace K := K.retF hb hra hrb hfa hfb
  clear r
  have r := K.rawS
  clear hra hrb hfa hfb hb
  clear HN2
  trace "BACK D"
  have hs1o : OptF s1 l1 t1 k1 (some x) := hs1
  go_wp2_with (first | ((first | (apply K.alloc; rfl; rfl; (first | with_reducible exact big_zero | with_reducible exact frac_zero)) | (apply K.box; rfl; rfl; rfl)); clear K r; (first | ((fail_if_success revert b0); intro W b0 K) | ((fail_if_success revert b1); intro W b1 K) | ((fail_if_success revert b2); intro W b2 K) | ((fail_if_success revert b3); intro W b3 K) | ((fail_if_success revert b4); intro W b4 K) | ((fail_if_success revert b5); intro W b5 K) | ((fail_if_success revert b6); intro W b6 K) | ((fail_if_success revert b7); intro W b7 K) | ((fail_if_success revert b8); intro W b8 K) | ((fail_if_success revert b9); intro W b9 K) | ((fail_if_success revert b10); intro W b10 K) | ((fail_if_success revert b11); intro W b11 K) | ((fail_if_success revert b12); intro W b12 K) | ((fail_if_success revert b13); intro W b13 K) | ((fail_if_success revert b14); intro W b14 K) | ((fail_if_success revert b15); intro W b15 K)); have r := K.rawS) | (apply K.storeA; rfl; rfl; rfl; rfl; rfl; (repeat (first | with_reducible exact Upd.head _ | with_reducible apply Upd.tail)); (first | with_reducible exact big_size | with_reducible exact frac_size); rfl; rfl; rfl; clear K r; intro W K; have r := K.rawS))
  refine (gSameO (some x) _ _ _ _ _ _ _ _ _ _ _ _ _ _ _ _ _ _ _ _ _ (by first | exact Rd.nil | exact K.rda) (by first | exact Rd.nil | exact K.rda) (by first | exact Rd.nil | exact K.rda) (by first | exact Rd.nil | exact K.rda) hs4 hs1o).mono ?_
  rintro e W' ⟨rfl, hb⟩
  replace K := K.keep hb
  clear r
  have r := K.rawS
  clear hb
  go_wp2_with (first | ((first | (apply K.alloc; rfl; rfl; (first | with_reducible exact big_zero | with_reducible exact frac_zero)) | (apply K.box; rfl; rfl; rfl)); clear K r; (first | ((fail_if_success revert b0); intro W b0 K) | ((fail_if_success revert b1); intro W b1 K) | ((fail_if_success revert b2); intro W b2 K) | ((fail_if_success revert b3); intro W b3 K) | ((fail_if_success revert b4); intro W b4 K) | ((fail_if_success revert b5); intro W b5 K) | ((fail_if_success revert b6); intro W b6 K) | ((fail_if_success revert b7); intro W b7 K) | ((fail_if_success revert b8); intro W b8 K) | ((fail_if_success revert b9); intro W b9 K) | ((fail_if_success revert b10); intro W b10 K) | ((fail_if_success revert b11); intro W b11 K) | ((fail_if_success revert b12); intro W b12 K) | ((fail_if_success revert b13); intro W b13 K) | ((fail_if_success revert b14); intro W b14 K) | ((fail_if_success revert b15); intro W b15 K)); have r := K.rawS) | (apply K.storeA; rfl; rfl; rfl; rfl; rfl; (repeat (first | with_reducible exact Upd.head _ | with_reducible apply Upd.tail)); (first | with_reducible exact big_size | with_reducible exact frac_size); rfl; rfl; rfl; clear K r; intro W K; have r := K.rawS))
  refine (gSameO (some x) _ _ _ _ _ _ _ _ _ _ _ _ _ _ _ _ _ _ _ _ _ (by first | exact Rd.nil | exact K.rda) (by first | exact Rd.nil | exact K.rda) (by first | exact Rd.nil | exact K.rda) (by first | exact Rd.nil | exact K.rda) hs5 hs1o).mono ?_
  rintro e W' ⟨rfl, hb⟩
  replace K := K.keep hb
  clear r
  have r := K.rawS
  clear hb
  clear hs4 hs5 hs6 hs7 h1a h1b hs1
  by_cases hc : c = 0
  · have hd : (c == 0) = true := by rw [hc]; rfl
    clear hc HB hs8
    go_wp2_with (first | ((first | (apply K.alloc; rfl; rfl; (first | with_reducible exact big_zero | with_reducible exact frac_zero)) | (apply K.box; rfl; rfl; rfl)); clear K r; (first | ((fail_if_success revert b0); intro W b0 K) | ((fail_if_success revert b1); intro W b1 K) | ((fail_if_success revert b2); intro W b2 K) | ((fail_if_success revert b3); intro W b3 K) | ((fail_if_success revert b4); intro W b4 K) | ((fail_if_success revert b5); intro W b5 K) | ((fail_if_success revert b6); intro W b6 K) | ((fail_if_success revert b7); intro W b7 K) | ((fail_if_success revert b8); intro W b8 K) | ((fail_if_success revert b9); intro W b9 K) | ((fail_if_success revert b10); intro W b10 K) | ((fail_if_success revert b11); intro W b11 K) | ((fail_if_success revert b12); intro W b12 K) | ((fail_if_success revert b13); intro W b13 K) | ((fail_if_success revert b14); intro W b14 K) | ((fail_if_success revert b15); intro W b15 K)); have r := K.rawS) | (apply K.storeA; rfl; rfl; rfl; rfl; rfl; (repeat (first | with_reducible exact Upd.head _ | with_reducible apply Upd.tail)); (first | with_reducible exact big_size | with_reducible exact frac_size); rfl; rfl; rfl; clear K r; intro W K; have r := K.rawS))
    go_ret
    exact ⟨rfl, K.1⟩
  have hd : (c == 0) = false := beq_eq_false_iff_ne.2 hc
  by_cases y1 : E1 = 0
  case neg =>
    have hd1 : (E1 != 0) = true := by simp [y1]
    clear hc HB hs8 y1
    go_wp2_with (first | ((first | (apply K.alloc; rfl; rfl; (first | with_reducible exact big_zero | with_reducible exact frac_zero)) | (apply K.box; rfl; rfl; rfl)); clear K r; (first | ((fail_if_success revert b0); intro W b0 K) | ((fail_if_success revert b1); intro W b1 K) | ((fail_if_success revert b2); intro W b2 K) | ((fail_if_success revert b3); intro W b3 K) | ((fail_if_success revert b4); intro W b4 K) | ((fail_if_success revert b5); intro W b5 K) | ((fail_if_success revert b6); intro W b6 K) | ((fail_if_success revert b7); intro W b7 K) | ((fail_if_success revert b8); intro W b8 K) | ((fail_if_success revert b9); intro W b9 K) | ((fail_if_success revert b10); intro W b10 K) | ((fail_if_success revert b11); intro W b11 K) | ((fail_if_success revert b12); intro W b12 K) | ((fail_if_success revert b13); intro W b13 K) | ((fail_if_success revert b14); intro W b14 K) | ((fail_if_success revert b15); intro W b15 K)); have r := K.rawS) | (apply K.storeA; rfl; rfl; rfl; rfl; rfl; (repeat (first | with_reducible exact Upd.head _ | with_reducible apply Upd.tail)); (first | with_reducible exact big_size | with_reducible exact frac_size); rfl; rfl; rfl; clear K r; intro W K; have r := K.rawS))
    go_ret
    exact ⟨rfl, K.1⟩
  have hd1 : (E1 != 0) = false := by simp [y1]
  by_cases y2 : E2 = 0
  case neg =>
    have hd2 : (E2 != 0) = true := by simp [y2]
    clear hc HB hs8 y1 y2
    go_wp2_with (first | ((first | (apply K.alloc; rfl; rfl; (first | with_reducible exact big_zero | with_reducible exact frac_zero)) | (apply K.box; rfl; rfl; rfl)); clear K r; (first | ((fail_if_success revert b0); intro W b0 K) | ((fail_if_success revert b1); intro W b1 K) | ((fail_if_success revert b2); intro W b2 K) | ((fail_if_success revert b3); intro W b3 K) | ((fail_if_success revert b4); intro W b4 K) | ((fail_if_success revert b5); intro W b5 K) | ((fail_if_success revert b6); intro W b6 K) | ((fail_if_success revert b7); intro W b7 K) | ((fail_if_success revert b8); intro W b8 K) | ((fail_if_success revert b9); intro W b9 K) | ((fail_if_success revert b10); intro W b10 K) | ((fail_if_success revert b11); intro W b11 K) | ((fail_if_success revert b12); intro W b12 K) | ((fail_if_success revert b13); intro W b13 K) | ((fail_if_success revert b14); intro W b14 K) | ((fail_if_success revert b15); intro W b15 K)); have r := K.rawS) | (apply K.storeA; rfl; rfl; rfl; rfl; rfl; (repeat (first | with_reducible exact Upd.head _ | with_reducible apply Upd.tail)); (first | with_reducible exact big_size | with_reducible exact frac_size); rfl; rfl; rfl; clear K r; intro W K; have r := K.rawS))
    go_ret
    exact ⟨rfl, K.1⟩
  have hd2 : (E2 != 0) = false := by simp [y2]
  obtain ⟨z1, z2⟩ := HB.out hc y1 y2
  subst z1
  subst z2
  clear hc HB y1 y2
  go_wp2_with (first | ((first | (apply K.alloc; rfl; rfl; (first | with_reducible exact big_zero | with_reducible exact frac_zero)) | (apply K.box; rfl; rfl; rfl)); clear K r; (first | ((fail_if_success revert b0); intro W b0 K) | ((fail_if_success revert b1); intro W b1 K) | ((fail_if_success revert b2); intro W b2 K) | ((fail_if_success revert b3); intro W b3 K) | ((fail_if_success revert b4); intro W b4 K) | ((fail_if_success revert b5); intro W b5 K) | ((fail_if_success revert b6); intro W b6 K) | ((fail_if_success revert b7); intro W b7 K) | ((fail_if_success revert b8); intro W b8 K) | ((fail_if_success revert b9); intro W b9 K) | ((fail_if_success revert b10); intro W b10 K) | ((fail_if_success revert b11); intro W b11 K) | ((fail_if_success revert b12); intro W b12 K) | ((fail_if_success revert b13); intro W b13 K) | ((fail_if_success revert b14); intro W b14 K) | ((fail_if_success revert b15); intro W b15 K)); have r := K.rawS) | (apply K.storeA; rfl; rfl; rfl; rfl; rfl; (repeat (first | with_reducible exact Upd.head _ | with_reducible apply Upd.tail)); (first | with_reducible exact big_size | with_reducible exact frac_size); rfl; rfl; rfl; clear K r; intro W K; have r := K.rawS))
  refine (gSameO (some x) _ _ _ _ _ _ _ _ _ _ _ _ _ _ _ _ _ _ _ _ _ (by first | exact Rd.nil | exact K.rda) (by first | exact Rd.nil | exact K.rda) (by first | exact Rd.nil | exact K.rda) (by first | exact Rd.nil | exact K.rda) hs8 hs1o).mono ?_
  rintro e W' ⟨rfl, hb⟩
  replace K := K.keep hb
  clear r
  have r := K.rawS
  clear hb
  go_wp2_with (first | ((first | (apply K.alloc; rfl; rfl; (first | with_reducible exact big_zero | with_reducible exact frac_zero)) | (apply K.box; rfl; rfl; rfl)); clear K r; (first | ((fail_if_success revert b0); intro W b0 K) | ((fail_if_success revert b1); intro W b1 K) | ((fail_if_success revert b2); intro W b2 K) | ((fail_if_success revert b3); intro W b3 K) | ((fail_if_success revert b4); intro W b4 K) | ((fail_if_success revert b5); intro W b5 K) | ((fail_if_success revert b6); intro W b6 K) | ((fail_if_success revert b7); intro W b7 K) | ((fail_if_success revert b8); intro W b8 K) | ((fail_if_success revert b9); intro W b9 K) | ((fail_if_success revert b10); intro W b10 K) | ((fail_if_success revert b11); intro W b11 K) | ((fail_if_success revert b12); intro W b12 K) | ((fail_if_success revert b13); intro W b13 K) | ((fail_if_success revert b14); intro W b14 K) | ((fail_if_success revert b15); intro W b15 K)); have r := K.rawS) | (apply K.storeA; rfl; rfl; rfl; rfl; rfl; (repeat (first | with_reducible exact Upd.head _ | with_reducible apply Upd.tail)); (first | with_reducible exact big_size | with_reducible exact frac_size); rfl; rfl; rfl; clear K r; intro W K; have r := K.rawS))
  go_ret
  exact ⟨rfl, K.1⟩
end Go.Proofs.YtkeajohkpmabcaaGreatDoor
