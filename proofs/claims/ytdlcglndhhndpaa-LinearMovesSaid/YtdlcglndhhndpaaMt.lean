
/- Walk over times of the law of layer 6, where nothing is too great. Conditions stand in the theorem. -/
import Derived.Test.YtdlcglndhhndpaaMn
namespace Go.Proofs.Ytdlcglndhhndpaa
open Go.RowKit
set_option linter.unusedVariables false
set_option linter.unusedSimpArgs false

set_option maxRecDepth 100000 in
set_option maxHeartbeats 4000000 in
theorem times_any (q : Rat) (A0 : Option Addr) (n c0 : Nat) (a : List Fv) (s1 t1 s2 t2 : Int) (A1 B1 A2 B2 : Option Addr) (n1 c1 m1 d1 n2 c2 m2 d2 : Nat) (l1 k1 l2 k2 : List Int) (w : World) (r0 : RdF w w.heap.size A0 n c0 a) (r1 : RdI w w.heap.size A1 n1 c1 l1) (q1 : RdI w w.heap.size B1 m1 d1 k1) (r2 : RdI w w.heap.size A2 n2 c2 l2) (q2 : RdI w w.heap.size B2 m2 d2 k2)
    (h2 : StdF s2 l2 t2 k2 q) (f2 : fitsF q = true) (b : Fv) (hb : b = ⟨s1, l1, t1, k1⟩) (hok : ∀ x ∈ a, x.ok = true) (hob : b.ok = true) (hm : ∀ x ∈ a, mulK x.rat q = true) (hmb : mulK b.rat q = true) (hn : n ≤ 1000) :
    Calls Try.prog 22 #[.agg #[.slice A0 n c0, .int .i64 s1, .slice A1 n1 c1, .int .i64 t1, .slice B1 m1 d1], .agg #[.int .i64 s2, .slice A2 n2 c2, .int .i64 t2, .slice B2 m2 d2]] w (RowT w (a.map fun x => fvQ (x.rat * q)) (fvQ (b.rat * q))) := by
  have hcap0 := r0.caps
  have hcap1 := r1.caps
  have hcbp1 := q1.caps
  have hcap2 := r2.caps
  have hcbp2 := q2.caps
  have Hlen := Lib.hid r0.len
  have HLa := Lib.hid r0
  have Hok := Lib.hid hok
  have Hm := Lib.hid hm
  have Hsb := Lib.hid (show StdF s1 l1 t1 k1 b.rat ∧ fitsF b.rat = true from by
    have := fv_std hob
    rw [hb] at this ⊢
    exact this)
  have Hmb := Lib.hid hmb
  have K := ((((St.start w).oldRd r1).oldRd q1).oldRd r2).oldRd q2
  have r := K.raw
  have H2 := Lib.hid h2
  have F2 := Lib.hid f2
  clear r0 r1 q1 r2 q2 hok hm hob hmb hb h2 f2
  go_enter Try.func22, Try.ntmps22
  go_wp2_with (first | ((first | (apply K.alloc; rfl; rfl; (first | with_reducible exact row_zero | with_reducible exact frac_zero)) | (apply K.box; rfl; rfl; rfl)); clear K r; (first | ((fail_if_success revert b0); intro W b0 K) | ((fail_if_success revert b1); intro W b1 K) | ((fail_if_success revert b2); intro W b2 K) | ((fail_if_success revert b3); intro W b3 K) | ((fail_if_success revert b4); intro W b4 K) | ((fail_if_success revert b5); intro W b5 K) | ((fail_if_success revert b6); intro W b6 K) | ((fail_if_success revert b7); intro W b7 K)); have r := K.rawS) | (apply K.storeA; rfl; rfl; rfl; rfl; rfl; (repeat (first | with_reducible exact Upd.head _ | with_reducible apply Upd.tail)); (first | with_reducible exact row_size | with_reducible exact frac_size); rfl; rfl; rfl; clear K r; intro W K; have r := K.rawS))
  go_loopg [7] n (fun gk s7 wr => ∃ (k : Nat) (u : Nat → Rw) (v : Value) (X : List Blk), k ≤ n ∧ gk = n - k ∧ s7 = .int .i64 k ∧ Hid (∀ j, j < k → ∃ x, a[j]? = some x ∧ (u j).fv = fvQ (x.rat * q)) ∧ Hid (∀ j, j < k → FrA w.heap.size (u j).A ∧ FrA w.heap.size (u j).B) ∧ OwL 4 Rw.cs 40 v (ofF k u) X ∧ St w ((b3, #[v, .int .i64 0, .slice none 0 0, .int .i64 0, .slice none 0 0], 45) :: (b2, #[.slice none 0 0, .int .i64 0, .slice none 0 0, .int .i64 0, .slice none 0 0], 45) :: (b1, #[.int .i64 s2, .slice A2 n2 c2, .int .i64 t2, .slice B2 m2 d2], 40) :: (b0, #[.slice A0 n c0, .int .i64 s1, .slice A1 n1 c1, .int .i64 t1, .slice B1 m1 d1], 45) :: X) [⟨rwP k u, rwS k u⟩, ⟨rdP B2 m2 d2 k2, oldS w⟩, ⟨rdP A2 n2 c2 l2, oldS w⟩, ⟨rdP B1 m1 d1 k1, oldS w⟩, ⟨rdP A1 n1 c1 l1, oldS w⟩] wr)
  case atStart => exact ⟨0, fun _ => Rw.zero, .slice none 0 0, [], Nat.zero_le _, rfl, rfl, Lib.hid (fun j h => absurd h (by omega)), Lib.hid (fun j h => absurd h (by omega)), OwL.nil, K.rwNew 0⟩
  case round =>
    clear K r
    obtain ⟨k, u, v, X, hk, rfl, rfl, HV, HFr, ho, K⟩ := hrel
    obtain ⟨AV, nV, cV, hv0⟩ := ho.shape
    subst hv0
    have r := K.rawS
    have Ho := Lib.hid ho
    clear ho
    by_cases hlt : k < n
    · obtain ⟨eb5, off5, A5, n5, c5, B5, m5, d5, y, hA5, hbB5, hx5, ⟨z0, z1, z2, z3⟩, r5, q5⟩ := HLa.out.atF hlt
      subst hA5
      have Ex5 := Lib.hid (fun W (h : Below w.heap.size w W) => (⟨(h.cell (p := ⟨eb5, off5 + k * 4, none⟩) hbB5).trans z0, (h.cell (p := ⟨eb5, off5 + k * 4 + 1, none⟩) hbB5).trans z1, (h.cell (p := ⟨eb5, off5 + k * 4 + 2, none⟩) hbB5).trans z2, (h.cell (p := ⟨eb5, off5 + k * 4 + 3, none⟩) hbB5).trans z3⟩ : W.cell? ⟨eb5, off5 + k * 4, none⟩ = some (.int .i64 (y).s) ∧ W.cell? ⟨eb5, off5 + k * 4 + 1, none⟩ = some (.slice A5 n5 c5) ∧ W.cell? ⟨eb5, off5 + k * 4 + 2, none⟩ = some (.int .i64 (y).t) ∧ W.cell? ⟨eb5, off5 + k * 4 + 3, none⟩ = some (.slice B5 m5 d5)))
      have hki : (k : Int) < (n : Int) := by omega
      have hk0 : (0 : Int) ≤ (k : Int) := by omega
      have hcap5 := r5.caps
      have hcbp5 := q5.caps
      replace K := (K.oldRd r5).oldRd q5
      have Hx5 := Lib.hid hx5
      clear hx5 z0 z1 z2 z3 r5 q5
      obtain ⟨hsy, fy⟩ := fv_std (Hok.out y (List.mem_of_getElem? Hx5.out))
      have hmk := Hm.out y (List.mem_of_getElem? Hx5.out)
      obtain ⟨e1, e2, e3, e4⟩ := Ex5.out _ K.1
      have HMu := Lib.hid (fun W g1 g2 g3 g4 => qMul y.rat q y.s y.t s2 t2 A5 B5 A2 B2 n5 c5 m5 d5 n2 c2 m2 d2 y.l y.m l2 k2 W g1 g2 g3 g4 hsy fy H2.out F2.out)
      rw [mulO1_yes hmk, mulE1_yes hmk] at HMu
      obtain ⟨pr, hp⟩ : ∃ pr, pr = y.rat * q := ⟨_, rfl⟩
      rw [← hp] at HMu
      have Hp := Lib.hid hp
      clear hsy fy hmk hp
      go_upto_region 5 with (first | ((first | (apply K.alloc; rfl; rfl; (first | with_reducible exact big_zero | with_reducible exact frac_zero)) | (apply K.box; rfl; rfl; rfl)); clear K r; (first | ((fail_if_success revert b0); intro W b0 K) | ((fail_if_success revert b1); intro W b1 K) | ((fail_if_success revert b2); intro W b2 K) | ((fail_if_success revert b3); intro W b3 K) | ((fail_if_success revert b4); intro W b4 K) | ((fail_if_success revert b5); intro W b5 K) | ((fail_if_success revert b6); intro W b6 K) | ((fail_if_success revert b7); intro W b7 K)); have r := K.rawS) | (apply K.storeA; rfl; rfl; rfl; rfl; rfl; (repeat (first | with_reducible exact Upd.head _ | with_reducible apply Upd.tail)); (first | with_reducible exact big_size | with_reducible exact frac_size); rfl; rfl; rfl; clear K r; intro W K; have r := K.rawS))
      obtain ⟨RR, HR0⟩ := K.hideZ 40
      go_cut [9, 8] from 20 to 28 (fun e p wx => ∃ g s8 A8 n8 c8 l8 t8 B8 m8 d8 k8, e = .int .i64 0 ∧ p = .pointer (some ⟨g, 0, none⟩) ∧ OptF s8 l8 t8 k8 (some pr) ∧ (FrA w.heap.size A8 ∧ FrA w.heap.size B8) ∧ RR g #[.int .i64 s8, .slice A8 n8 c8, .int .i64 t8, .slice B8 m8 d8] A8 n8 c8 l8 B8 m8 d8 k8 wx)
      case first =>
        obtain ⟨gz1, hgz1, KA⟩ := K.newZ #[.int .i64 0, .slice none 0 0, .int .i64 0, .slice none 0 0] 40
        have rA := KA.raw
        have Kd := K.drew
        have KAd := KA.drew
        have HBd := Lib.hid (K.bel.size)
        have eA5 := Ex5.out _ KA.1
        have eK5 := Ex5.out _ K.1
        simp only [Raw, RawC, RawZ, and_true, true_and, Nat.zero_add, Nat.reduceAdd] at rA
        go_region_with (first
          | (go_at_call 36; (with_reducible refine (HMu.out _ ?qa ?qb ?qc ?qd).mono ?_); (case qa => (first | with_reducible exact Kd.rd (by repeat (first | with_reducible exact List.mem_cons_self | with_reducible apply List.mem_cons_of_mem)) | with_reducible exact KAd.rd (by repeat (first | with_reducible exact List.mem_cons_self | with_reducible apply List.mem_cons_of_mem)))); (case qb => (first | with_reducible exact Kd.rd (by repeat (first | with_reducible exact List.mem_cons_self | with_reducible apply List.mem_cons_of_mem)) | with_reducible exact KAd.rd (by repeat (first | with_reducible exact List.mem_cons_self | with_reducible apply List.mem_cons_of_mem)))); (case qc => (first | with_reducible exact Kd.rd (by repeat (first | with_reducible exact List.mem_cons_self | with_reducible apply List.mem_cons_of_mem)) | with_reducible exact KAd.rd (by repeat (first | with_reducible exact List.mem_cons_self | with_reducible apply List.mem_cons_of_mem)))); (case qd => (first | with_reducible exact Kd.rd (by repeat (first | with_reducible exact List.mem_cons_self | with_reducible apply List.mem_cons_of_mem)) | with_reducible exact KAd.rd (by repeat (first | with_reducible exact List.mem_cons_self | with_reducible apply List.mem_cons_of_mem)))); rintro e W ⟨s31, A31, n31, c31, l31, t31, B31, m31, d31, k31, rfl, ⟨hra, hrb⟩, hs31, ⟨hfa, hfb⟩, hb⟩; have hF31 := Lib.hid (hfa.mono (C := w.heap.size) (by first | exact Kd.bel.size | exact KAd.bel.size)); have hG31 := Lib.hid (hfb.mono (C := w.heap.size) (by first | exact Kd.bel.size | exact KAd.bel.size)); (first | with_reducible replace K := Kd.retF hb hra hrb hfa hfb | with_reducible replace K := KAd.retF hb hra hrb hfa hfb); clear r rA KA hra hrb hfa hfb hb; have r := K.raw; have z := K.rawz; simp only [Raw, RawC, RawZ, and_true, true_and, Nat.zero_add, Nat.reduceAdd] at r z))
        all_goals
          go_wp2_with fail
          go_meet
          first
            | with_reducible exact ⟨_, s31, A31, n31, c31, l31, t31, B31, m31, d31, k31, rfl, rfl, hs31, ⟨hF31.out, hG31.out⟩, (HR0 _ _ _ _ _ _ _ _ _ _ _).2 (K.new #[.int .i64 s31, .slice A31 n31 c31, .int .i64 t31, .slice B31 m31 d31] 40)⟩
            | with_reducible exact ⟨_, s31, A31, n31, c31, l31, t31, B31, m31, d31, k31, rfl, rfl, hs31, ⟨hF31.out, hG31.out⟩, (HR0 _ _ _ _ _ _ _ _ _ _ _).2 (K.set4Z (u0 := .int .i64 s31) (u1 := .slice A31 n31 c31) (u2 := .int .i64 t31) (u3 := .slice B31 m31 d31) (by repeat (first | with_reducible exact Upd.head _ | with_reducible apply Upd.tail)))⟩
            | exact ⟨_, s31, A31, n31, c31, l31, t31, B31, m31, d31, k31, rfl, rfl, hs31, ⟨hF31.out, hG31.out⟩, (HR0 _ _ _ _ _ _ _ _ _ _ _).2 (K.new #[.int .i64 s31, .slice A31 n31 c31, .int .i64 t31, .slice B31 m31 d31] 40)⟩
            | exact ⟨_, s31, A31, n31, c31, l31, t31, B31, m31, d31, k31, rfl, rfl, hs31, ⟨hF31.out, hG31.out⟩, (HR0 _ _ _ _ _ _ _ _ _ _ _).2 (K.set4Z (u0 := .int .i64 s31) (u1 := .slice A31 n31 c31) (u2 := .int .i64 t31) (u3 := .slice B31 m31 d31) (by repeat (first | with_reducible exact Upd.head _ | with_reducible apply Upd.tail)))⟩
      obtain ⟨gb9, s9, A9, n9, c9, l9, t9, B9, m9, d9, k9, rfl, rfl, hs9, ⟨hF9, hG9⟩, hk9⟩ := hcut
      replace K := (HR0 _ _ _ _ _ _ _ _ _ _ _).1 hk9
      clear r hk9 HR0
      have r := K.rawS
      have Hs9 := Lib.hid (show StdF s9 l9 t9 k9 pr from hs9)
      clear hs9 HMu
      have HK9 := Lib.hid K
      go_wp2_with (first
        | (at_builtin; refine (HK9.out.perm (List.perm_append_comm (l₁ := X) (l₂ := [_, _, _, _, _]))).app1 Ho.out rw_sized rfl _ _ 23 rfl _ 64 Try.underlying23 frac_made rfl rfl (⟨s9, A9, n9, c9, l9, t9, B9, m9, d9, k9⟩ : Rw) _ rfl _ rfl (by exact rfl) (by rw [ofF_len]; omega) (by omega) ?_; intro v4 X4 W4 ho4 K4; obtain ⟨AH, nH, cH, hhv⟩ := ho4.shape; subst hhv)
        | (refine K4.storeS (b := b3) (off := 0) (cs := #[.slice AV nV cV, .int .i64 0, .slice none 0 0, .int .i64 0, .slice none 0 0]) (cs' := #[.slice AH nH cH, .int .i64 0, .slice none 0 0, .int .i64 0, .slice none 0 0]) (t := 45) rfl rfl _ _ _ rfl AH nH cH rfl rfl (by repeat (first | with_reducible exact Upd.head _ | with_reducible apply Upd.tail | with_reducible apply Upd.pre)) rfl slf_size (by simp) ?_; intro W5 K5))
      rw [ofF_put] at ho4
      have HV2 := Lib.hid (show ∀ j, j < k + 1 → ∃ x, a[j]? = some x ∧ (putF u k (⟨s9, A9, n9, c9, l9, t9, B9, m9, d9, k9⟩ : Rw) j).fv = fvQ (x.rat * q) from fun j hj => by
        by_cases e : j = k
        · refine ⟨y, by rw [e]; exact Hx5.out, ?_⟩
          rw [e, putF_same, ← Hp.out]
          exact Hs9.out.fv
        · obtain ⟨x', g1, g2⟩ := HV.out j (by omega)
          exact ⟨x', g1, by rw [putF_other e]; exact g2⟩)
      have HFr2 := Lib.hid (show ∀ j, j < k + 1 → FrA w.heap.size (putF u k (⟨s9, A9, n9, c9, l9, t9, B9, m9, d9, k9⟩ : Rw) j).A ∧ FrA w.heap.size (putF u k (⟨s9, A9, n9, c9, l9, t9, B9, m9, d9, k9⟩ : Rw) j).B from fun j hj => by
        by_cases e : j = k
        · rw [e, putF_same]; exact ⟨hF9, hG9⟩
        · rw [putF_other e]; exact HFr.out j (by omega))
      have HK := Lib.hid ((((K5.perm (List.perm_append_comm (l₁ := [_, _, _, _, _]) (l₂ := X4))).part (List.sublist_cons_self _ _)).rwAdd ⟨s9, A9, n9, c9, l9, t9, B9, m9, d9, k9⟩ (by repeat (first | with_reducible exact List.mem_cons_self | with_reducible apply List.mem_cons_of_mem)) (by repeat (first | with_reducible exact List.mem_cons_self | with_reducible apply List.mem_cons_of_mem)) (by repeat (first | with_reducible exact List.mem_cons_self | with_reducible apply List.mem_cons_of_mem))).less (by simp only [List.mem_cons, List.not_mem_nil, or_false, forall_eq_or_imp, forall_eq, true_or, or_true, and_self]) : St w ((b3, #[.slice AH nH cH, .int .i64 0, .slice none 0 0, .int .i64 0, .slice none 0 0], 45) :: (b2, #[.slice none 0 0, .int .i64 0, .slice none 0 0, .int .i64 0, .slice none 0 0], 45) :: (b1, #[.int .i64 s2, .slice A2 n2 c2, .int .i64 t2, .slice B2 m2 d2], 40) :: (b0, #[.slice (some ⟨eb5, off5, none⟩) n c0, .int .i64 s1, .slice A1 n1 c1, .int .i64 t1, .slice B1 m1 d1], 45) :: X4) [⟨rwP (k + 1) (putF u k ⟨s9, A9, n9, c9, l9, t9, B9, m9, d9, k9⟩), rwS (k + 1) (putF u k ⟨s9, A9, n9, c9, l9, t9, B9, m9, d9, k9⟩)⟩, ⟨rdP B2 m2 d2 k2, oldS w⟩, ⟨rdP A2 n2 c2 l2, oldS w⟩, ⟨rdP B1 m1 d1 k1, oldS w⟩, ⟨rdP A1 n1 c1 l1, oldS w⟩] W5)
      have Ho4 := Lib.hid ho4
      clear K4 K5 HK9 K ho4 HV Ho r
      go_wp2_with fail
      go_roundg (n - (k + 1))
      case rel => exact ⟨k + 1, putF u k (⟨s9, A9, n9, c9, l9, t9, B9, m9, d9, k9⟩ : Rw), _, X4, hlt, rfl, by go_num, HV2, HFr2, Ho4.out, HK.out⟩
      case measure => omega
    · have e : n = k := by omega
      subst e
      have HMb := Lib.hid (fun W g1 g2 g3 g4 => qMul b.rat q s1 t1 s2 t2 A1 B1 A2 B2 n1 c1 m1 d1 n2 c2 m2 d2 l1 k1 l2 k2 W g1 g2 g3 g4 Hsb.out.1 Hsb.out.2 H2.out F2.out)
      rw [mulO1_yes Hmb.out, mulE1_yes Hmb.out] at HMb
      obtain ⟨pr, hp⟩ : ∃ pr, pr = b.rat * q := ⟨_, rfl⟩
      rw [← hp] at HMb
      have Hp2 := Lib.hid hp
      clear hp
      obtain ⟨AV2, cV2, hv2⟩ := Ho.out.shapeL
      rw [ofF_len] at hv2
      injection hv2 with g1 g2 g3
      subst g1 g2 g3
      go_wp2_with fail
      refine (HMb.out _ (by first | exact Rd.nil | exact K.rda) (by first | exact Rd.nil | exact K.rda) (by first | exact Rd.nil | exact K.rda) (by first | exact Rd.nil | exact K.rda)).mono ?_
      rintro e W' ⟨s7, A7, n7, c7, l7, t7, B7, m7, d7, k7, rfl, ⟨hra, hrb⟩, ho7, ⟨hfa, hfb⟩, hb⟩
      have hf7 := Lib.hid (hfa.mono K.1.size)
      have hg7 := Lib.hid (hfb.mono K.1.size)
      replace K := K.retF hb hra hrb hfa hfb
      clear r
      have r := K.rawS
      clear hra hrb hfa hfb hb
      have Hs7 := Lib.hid (show StdF s7 l7 t7 k7 pr from ho7)
      clear ho7 HMb
      go_wp2_with (first
        | (first | ((first | (apply K.alloc; rfl; rfl; (first | with_reducible exact row_zero | with_reducible exact frac_zero)) | (apply K.box; rfl; rfl; rfl)); clear K r; (first | ((fail_if_success revert b0); intro W b0 K) | ((fail_if_success revert b1); intro W b1 K) | ((fail_if_success revert b2); intro W b2 K) | ((fail_if_success revert b3); intro W b3 K) | ((fail_if_success revert b4); intro W b4 K) | ((fail_if_success revert b5); intro W b5 K) | ((fail_if_success revert b6); intro W b6 K) | ((fail_if_success revert b7); intro W b7 K)); have r := K.rawS) | (apply K.storeA; rfl; rfl; rfl; rfl; rfl; (repeat (first | with_reducible exact Upd.head _ | with_reducible apply Upd.tail)); (first | with_reducible exact row_size | with_reducible exact frac_size); rfl; rfl; rfl; clear K r; intro W K; have r := K.rawS))
        | (refine K.storeP (b := b3) (off := 1) (cs := #[.slice AV nV cV, .int .i64 0, .slice none 0 0, .int .i64 0, .slice none 0 0]) (cs' := #[.slice AV nV cV, .int .i64 s7, .slice A7 n7 c7, .int .i64 t7, .slice B7 m7 d7]) (t := 45) rfl rfl _ _ _ rfl #[.int .i64 s7, .slice A7 n7 c7, .int .i64 t7, .slice B7 m7 d7] rfl rfl (by repeat (first | with_reducible exact Upd.head _ | with_reducible apply Upd.tail | with_reducible apply Upd.pre)) rfl frac_size rfl (by simp) rfl ?_; clear K r; intro W K; have r := K.rawS))
      have HX := Lib.hid (show RowT w (a.map fun x => fvQ (x.rat * q)) (fvQ pr) (.returned (.tuple #[.agg #[.slice AV nV cV, .int .i64 s7, .slice A7 n7 c7, .int .i64 t7, .slice B7 m7 d7], .bool true])) W from by
        obtain ⟨Ap, cp, hv, hro⟩ := Ho.out.frK (K.perm (List.perm_append_comm (l₁ := X) (l₂ := [_, _, _, _, _]))) (by repeat (first | with_reducible exact List.mem_cons_self | with_reducible apply List.mem_cons_of_mem)) (by omega) (rwS_fr HFr.out)
        injection hv with h1 h2 h3
        subst h1 h3
        rw [ofF_map Hlen.out HV.out] at hro
        exact ⟨⟨AV, nV, cV, _, ⟨s7, A7, n7, c7, l7, t7, B7, m7, d7, k7⟩⟩, rfl, by rw [List.length_map]; exact Hlen.out.symm, hro.row (y := ⟨s7, A7, n7, c7, l7, t7, B7, m7, d7, k7⟩) K (by repeat (first | with_reducible exact List.mem_cons_self | with_reducible apply List.mem_cons_of_mem)) (by repeat (first | with_reducible exact List.mem_cons_self | with_reducible apply List.mem_cons_of_mem)) hf7.out hg7.out, by rw [← Hs7.out.fv]; rfl, K.1⟩)
      exact bodyPost_ret (v := .tuple #[.agg #[.slice AV nV cV, .int .i64 s7, .slice A7 n7 c7, .int .i64 t7, .slice B7 m7 d7], .bool true]) (by simp [results, Try.results22, go_sem, r]) rfl (by rw [← Hp2.out]; exact HX.out)
end Go.Proofs.Ytdlcglndhhndpaa
