
/- Walk over the statement CentsExact. Conditions stand in each theorem. -/
import Derived.Test.YtinfcngkbdiddaaCz
import Derived.Test.YtinfcngkbdiddaaCS1
import Derived.Test.YtinfcngkbdiddaaCb
import Derived.BigGuard
namespace Go.Proofs.Ytinfcngkbdiddaa
open Go.RowKit
set_option linter.unusedVariables false
set_option linter.unusedSimpArgs false

set_option maxRecDepth 100000 in
set_option maxHeartbeats 8000000 in
theorem centsExact_walk (total : Int) (A : Option Addr) (n cap : Nat) (l : List Fv) (A2 : Option Addr) (n2 cap2 : Nat) (m : List Fv) (w0 : World) (ht : -9223372036854775808 ≤ total ∧ total ≤ 9223372036854775807) (hl : RdF w0 w0.heap.size A n cap l) (hm : RdF w0 w0.heap.size A2 n2 cap2 m) :
    Calls Try.prog 4 #[.int .i64 total, .slice A n cap, .slice A2 n2 cap2] w0 fun e w' => e = .returned (.bool true) ∧ Below w0.heap.size w0 w' := by
  have K := St.start w0
  have HF1 := Lib.hid (fun W (h : Below w0.heap.size w0 W) => rfew_any A n cap l W (hl.up fE_lasts h))
  have HF2 := Lib.hid (fun W (h : Below w0.heap.size w0 W) => rfew_any A2 n2 cap2 m W (hm.up fE_lasts h))
  have HS1 := Lib.hid (fun W (h : Below w0.heap.size w0 W) (hn : n ≤ 19) => csplit_any total A A2 n cap n2 cap2 l m W (hl.up fE_lasts h) (hm.up fE_lasts h) ht hn)
  have hlen := hl.len
  have hlen2 := hm.len
  have HL0 := Lib.hid hl
  have HM0 := Lib.hid hm
  clear hl hm
  go_enter Try.func4, Try.ntmps4
  go_wp2_with fail
  refine (wsmall_any _).mono ?_
  rintro e W' ⟨rfl, hb⟩
  replace K := K.keep hb
  clear hb
  go_wp2_with fail
  refine (HF1.out _ K.1).mono ?_
  rintro e W' ⟨rfl, hb⟩
  replace K := K.keep hb
  clear hb
  cases hf1 : fewL l
  · go_wp2_with fail
    go_ret
    exact ⟨rfl, K.1⟩
  have hn : n ≤ 12 := by rw [← hlen]; exact (of_decide_eq_true hf1).1
  go_wp2_with fail
  refine (HF2.out _ K.1).mono ?_
  rintro e W' ⟨rfl, hb⟩
  replace K := K.keep hb
  clear hb
  cases hf2 : fewL m
  · go_wp2_with fail
    go_ret
    exact ⟨rfl, K.1⟩
  have Hf1 := Lib.hid hf1
  have Hf2 := Lib.hid hf2
  clear hf1 hf2
  go_wp2_with fail
  refine (HS1.out _ K.1 (by omega)).mono ?_
  rintro e w ⟨A6, n6, c6, g, A7, n7, c7, a, rfl, ⟨hg, ha⟩, h0, h1, hb⟩
  have HB0 := Lib.hid (K.keep hb).1
  have HL := Lib.hid (HL0.out.up fE_lasts HB0.out)
  have HM := Lib.hid (HM0.out.up fE_lasts HB0.out)
  have HAf := Lib.hid ha
  have HG := Lib.hid hg
  have hcapA := ha.caps
  have hcapG := hg.caps
  have hcapL := HL0.out.caps
  have hcapM := HM0.out.caps
  have hlg := hg.len
  have hla := ha.len
  clear K hb HL0 HM0 HS1 HF1 HF2
  have K := St.start w
  rcases splitE_any total l m with hE | hE | hE
  case inr.inl =>
    obtain ⟨rfl, rfl⟩ := h0 (by rw [hE]; decide)
    rw [hE]
    have e1 : n6 = 0 := hlg.symm
    have e2 : n7 = 0 := hla.symm
    subst e1 e2
    clear h0 h1 HAf HG ha hg hE
    go_wp2_with fail
    go_ret
    exact ⟨rfl, HB0.out.trans (K.1.mono HB0.out.size)⟩
  case inr.inr =>
    obtain ⟨rfl, rfl⟩ := h0 (by rw [hE]; decide)
    rw [hE]
    have e1 : n6 = 0 := hlg.symm
    have e2 : n7 = 0 := hla.symm
    subst e1 e2
    clear h0 h1 HAf HG ha hg hE
    go_wp2_with fail
    go_ret
    exact ⟨rfl, HB0.out.trans (K.1.mono HB0.out.size)⟩
  obtain ⟨hao, hP⟩ := h1 hE
  obtain ⟨hE0, hadd⟩ := splitE_zero hE
  have H := checkC_zero hE0
  rw [hlen] at H hadd
  have hSp := SpC.of hlen hao hP
  obtain rfl : n6 = n := by rw [← hlg, hSp.lenG]
  obtain rfl : n7 = n6 := by rw [← hla, hSp.lenA]
  obtain rfl : n7 = n2 := by rw [← hlen2, H.lenM]
  obtain ⟨S, mm, hSel, hmm, hgv, hav⟩ := hSp.has
  have hsum := got_sum hSel hmm
  rw [hE]
  have HO := Lib.hid H
  have hn1 := H.size
  have htot := H.tot
  have hrng := fun i hi => aft_rng hSel hmm H.sumS H.sumM (i := i) hi
  have hasum := aft_sum hSel hmm H.sumS H.sumM
  have hEq : ∀ i, ((gotC (gq (ratL l)) (gq (ratL m)) S i : Int) : Rat) + aftC (gq (ratL l)) (gq (ratL m)) S i = gq (ratL l) i + gq (ratL m) i := fun i => gotC_aft _ _ S i
  have hlow : ∀ i, i < n7 → -1 ≤ gotC (gq (ratL l)) (gq (ratL m)) S i ∧ gotC (gq (ratL l)) (gq (ratL m)) S i ≤ 1000000000000002 := fun i hi => H.got S hi
  have hdn : ∀ i, i < n7 → ((aftC (gq (ratL l)) (gq (ratL m)) S i).den : Int) < pw 8 := fun i hi => aft_den H Hf1.out Hf2.out S hi
  obtain ⟨G, hG⟩ : ∃ G, G = gotC (gq (ratL l)) (gq (ratL m)) S := ⟨_, rfl⟩
  obtain ⟨F, hF⟩ : ∃ F, F = aftC (gq (ratL l)) (gq (ratL m)) S := ⟨_, rfl⟩
  rw [← hF] at hasum hEq
  rw [← hG] at hsum hlow hEq
  have HGv := Lib.hid (show ∀ i, i < n7 → g[i]? = some (G i) from by rw [hG]; exact hgv)
  have HFv := Lib.hid (show ∀ i x, i < n7 → a[i]? = some x → x.rat = F i from by rw [hF]; exact hav)
  have Hrng := Lib.hid (show ∀ i, i < n7 → -1 < F i ∧ F i < 1 from fun i hi => by rw [hF]; exact hrng i hi)
  have Hdn := Lib.hid (show ∀ i, i < n7 → ((F i).den : Int) < pw 8 from fun i hi => by rw [hF]; exact hdn i hi)
  have HEq := Lib.hid hEq
  have Hlow := Lib.hid hlow
  have Hsum := Lib.hid hsum
  have Hadd := Lib.hid hadd
  have Hao := Lib.hid hao
  have HRM := Lib.hid (show (sumF 0 (ratL a) = some 0 → rightM a = true) ∧ (∀ q, sumF 0 (ratL a) = some q → q = 0) from by
    refine ⟨fun hs => rightM_of (by rw [hSp.lenA]; omega) hao hs (fun x hx => ?_), fun q hs => ?_⟩
    · obtain ⟨i, hi, rfl⟩ := List.mem_iff_getElem.1 hx
      have hi' : i < n7 := by rw [← hSp.lenA]; exact hi
      rw [HFv.out i _ hi' (List.getElem?_eq_getElem hi)]
      exact Hrng.out i hi'
    · have h1 := sumF_eq _ _ _ hs
      rw [ratL_len, hSp.lenA] at h1
      have h2 : smQ (gq (ratL a)) n7 = smQ F n7 := smQ_congr fun i hi => by
        have hx := List.getElem?_eq_getElem (l := a) (show i < a.length by rw [hSp.lenA]; exact hi)
        rw [gq_ratL hx]
        exact HFv.out i _ hi hx
      rw [h1, h2, hasum]
      grind)
  clear h0 h1 hE hP hE0 hadd H hSp hSel hmm hgv hav hsum hrng hasum hEq hlow hdn hG hF hao hlg hla hlen hlen2 hg ha
  have HSb := Lib.hid (show ∀ k, k ≤ n7 → -1000000000000000000 ≤ smI G k ∧ smI G k ≤ 1000000000000000000 from fun k hk => by
    have h1 := smI_bd (f := G) (lo := -1) (hi := 1000000000000002) (n := k) (fun i hi => Hlow.out i (by omega))
    omega)
  have hnn : ((n7 : Int) != (n7 : Int)) = false := by simp
  have hrl : smI G 0 = 0 := rfl
  go_wp2_with fail
  go_loopg [11, 12] n7 (fun gk s11 s12 wr => ∃ k : Nat, k ≤ n7 ∧ gk = n7 - k ∧ s12 = .int .i64 k ∧ s11 = .int .i64 (smI G k) ∧ St w [] [] wr)
  case atStart => exact ⟨0, Nat.zero_le _, rfl, rfl, rfl, K⟩
  case round =>
    clear K
    obtain ⟨k, hk, rfl, rfl, rfl, K⟩ := hrel
    by_cases hlt : k < n7
    · obtain ⟨eb1, off1, A1, n1, c1, B1, m1, d1, x, hA1, hbB1, hx1, ⟨z0, z1, z2, z3⟩, r1, q1⟩ := HL.out.atF hlt
      subst hA1
      have Ex1 := Lib.hid (fun W (h : Below w.heap.size w W) => (⟨(h.cell (p := ⟨eb1, off1 + k * 4, none⟩) hbB1).trans z0, (h.cell (p := ⟨eb1, off1 + k * 4 + 1, none⟩) hbB1).trans z1, (h.cell (p := ⟨eb1, off1 + k * 4 + 2, none⟩) hbB1).trans z2, (h.cell (p := ⟨eb1, off1 + k * 4 + 3, none⟩) hbB1).trans z3⟩ : W.cell? ⟨eb1, off1 + k * 4, none⟩ = some (.int .i64 (x).s) ∧ W.cell? ⟨eb1, off1 + k * 4 + 1, none⟩ = some (.slice A1 n1 c1) ∧ W.cell? ⟨eb1, off1 + k * 4 + 2, none⟩ = some (.int .i64 (x).t) ∧ W.cell? ⟨eb1, off1 + k * 4 + 3, none⟩ = some (.slice B1 m1 d1)))
      have hki : (k : Int) < (n7 : Int) := by omega
      have hk0 : (0 : Int) ≤ (k : Int) := by omega
      have hcap1 := r1.caps
      have hcbp1 := q1.caps
      replace K := (K.oldRd r1).oldRd q1
      have Hx1 := Lib.hid hx1
      clear hx1 z0 z1 z2 z3 r1 q1
      obtain ⟨eb2, off2, A2, n2, c2, B2, m2, d2, y, hA2, hbB2, hx2, ⟨z0, z1, z2, z3⟩, r2, q2⟩ := HM.out.atF hlt
      subst hA2
      have Ex2 := Lib.hid (fun W (h : Below w.heap.size w W) => (⟨(h.cell (p := ⟨eb2, off2 + k * 4, none⟩) hbB2).trans z0, (h.cell (p := ⟨eb2, off2 + k * 4 + 1, none⟩) hbB2).trans z1, (h.cell (p := ⟨eb2, off2 + k * 4 + 2, none⟩) hbB2).trans z2, (h.cell (p := ⟨eb2, off2 + k * 4 + 3, none⟩) hbB2).trans z3⟩ : W.cell? ⟨eb2, off2 + k * 4, none⟩ = some (.int .i64 (y).s) ∧ W.cell? ⟨eb2, off2 + k * 4 + 1, none⟩ = some (.slice A2 n2 c2) ∧ W.cell? ⟨eb2, off2 + k * 4 + 2, none⟩ = some (.int .i64 (y).t) ∧ W.cell? ⟨eb2, off2 + k * 4 + 3, none⟩ = some (.slice B2 m2 d2)))
      have hki : (k : Int) < (n7 : Int) := by omega
      have hk0 : (0 : Int) ≤ (k : Int) := by omega
      have hcap2 := r2.caps
      have hcbp2 := q2.caps
      replace K := (K.oldRd r2).oldRd q2
      have Hx2 := Lib.hid hx2
      clear hx2 z0 z1 z2 z3 r2 q2
      obtain ⟨eb3, off3, A3, n3, c3, B3, m3, d3, z, hA3, hbB3, hx3, ⟨z0, z1, z2, z3⟩, r3, q3⟩ := HAf.out.atF hlt
      subst hA3
      have Ex3 := Lib.hid (fun W (h : Below w.heap.size w W) => (⟨(h.cell (p := ⟨eb3, off3 + k * 4, none⟩) hbB3).trans z0, (h.cell (p := ⟨eb3, off3 + k * 4 + 1, none⟩) hbB3).trans z1, (h.cell (p := ⟨eb3, off3 + k * 4 + 2, none⟩) hbB3).trans z2, (h.cell (p := ⟨eb3, off3 + k * 4 + 3, none⟩) hbB3).trans z3⟩ : W.cell? ⟨eb3, off3 + k * 4, none⟩ = some (.int .i64 (z).s) ∧ W.cell? ⟨eb3, off3 + k * 4 + 1, none⟩ = some (.slice A3 n3 c3) ∧ W.cell? ⟨eb3, off3 + k * 4 + 2, none⟩ = some (.int .i64 (z).t) ∧ W.cell? ⟨eb3, off3 + k * 4 + 3, none⟩ = some (.slice B3 m3 d3)))
      have hki : (k : Int) < (n7 : Int) := by omega
      have hk0 : (0 : Int) ≤ (k : Int) := by omega
      have hcap3 := r3.caps
      have hcbp3 := q3.caps
      replace K := (K.oldRd r3).oldRd q3
      have Hx3 := Lib.hid hx3
      clear hx3 z0 z1 z2 z3 r3 q3
      obtain ⟨gb, goff, gv, hgA, hgb, hgi, d0⟩ := HG.out.atI hlt
      subst hgA
      have egv : gv = G k := by have := HGv.out k hlt; rw [hgi] at this; exact Option.some.inj this
      subst egv
      have EG := Lib.hid (fun W (h : Below w.heap.size w W) => (h.cell (p := ⟨gb, goff + k, none⟩) hgb).trans d0)
      clear hgi d0 hgb
      have e1 := Ex1.out _ K.1
      have e2 := Ex2.out _ K.1
      have eg := EG.out _ K.1
      obtain ⟨x', hx', hxo, hxr⟩ := HO.out.sh_at hlt
      obtain ⟨y', hy', hyo, hyr⟩ := HO.out.me_at hlt
      have ex : x' = x := by rw [Hx1.out] at hx'; exact (Option.some.inj hx').symm
      have ey : y' = y := by rw [Hx2.out] at hy'; exact (Option.some.inj hy').symm
      subst ex ey
      obtain ⟨hsx, fx⟩ := fv_std hxo
      obtain ⟨hsy, fy⟩ := fv_std hyo
      have hzo := Hao.out z (List.mem_of_getElem? Hx3.out)
      have hzr := HFv.out k z hlt Hx3.out
      obtain ⟨hsz, fz⟩ := fv_std hzo
      have hka := Hadd.out k hlt
      have HAd := Lib.hid (fun W a b c d => qAdd x'.rat y'.rat x'.s x'.t y'.s y'.t A1 B1 A2 B2 n1 c1 m1 d1 n2 c2 m2 d2 x'.l x'.m y'.l y'.m W a b c d hsx hsy fx fy)
      rw [hxr, hyr, hka] at HAd
      have fX := addK_fits hka
      have hgb2 := Hlow.out k hlt
      have hfr := Hrng.out k hlt
      have ffG : fitsF ((G k : Int) : Rat) = true := by
        rw [← divInt_1]; exact divInt_fits (by omega) (fits_i64 (by omega)) (fits_i64 (by decide))
      have hkb : addK ((G k : Int) : Rat) z.rat = true := by
        rw [hzr]
        rw [hzr] at fz
        exact addK_whole fz (by have : pw 3 = 1152921504606846976 := by simp [pw]
                                omega) (Hdn.out k hlt) hfr
      have hE2 : ((G k : Int) : Rat) + z.rat = gq (ratL l) k + gq (ratL m) k := by rw [hzr]; exact HEq.out k
      have HAd2 := Lib.hid (fun s1 t1 A1 B1 n1 c1 m1 d1 l1 k1 W r1 q1 r2 q2 h1 => qAdd ((G k : Int) : Rat) z.rat s1 t1 z.s z.t A1 B1 A3 B3 n1 c1 m1 d1 n3 c3 m3 d3 l1 k1 z.l z.m W r1 q1 r2 q2 h1 hsz ffG fz)
      rw [hkb, hE2] at HAd2
      have HWg := Lib.hid (fun W => wof_any (G k) 1 W (by omega) (by decide) (by decide))
      rw [divInt_1] at HWg
      have P1 := Lib.hid (fun s2 t2 A2 B2 n2 c2 m2 d2 l2 k2 W a b c d h2 => qCmp z.rat (-1) z.s z.t s2 t2 A3 B3 A2 B2 n3 c3 m3 d3 n2 c2 m2 d2 z.l z.m l2 k2 W a b c d hsz h2 fz (by decide +kernel))
      have P2 := Lib.hid (fun s2 t2 A2 B2 n2 c2 m2 d2 l2 k2 W a b c d h2 => qCmp z.rat 1 z.s z.t s2 t2 A3 B3 A2 B2 n3 c3 m3 d3 n2 c2 m2 d2 z.l z.m l2 k2 W a b c d hsz h2 fz (by decide +kernel))
      have hM1 : cmpQ z.rat (-1) = 1 := by rw [hzr]; unfold cmpQ; rw [if_neg (by grind), if_pos hfr.1]
      have hM2 : cmpQ z.rat 1 = -1 := by rw [hzr]; unfold cmpQ; rw [if_pos hfr.2]
      rw [hM1] at P1
      rw [hM2] at P2
      have HRt := Lib.hid (fun W a b => gRight_any z.s z.t A3 B3 n3 c3 m3 d3 z.l z.m W a b)
      have hok : rightF z.s z.l z.t z.m = true := hzo
      rw [hok] at HRt
      have hlw : decide (G k < -1) = false := decide_eq_false (by omega)
      have hst : smI G (k + 1) = smI G k + G k := rfl
      have hw1 : IntKind.i64.wrap (smI G k + G k) = smI G k + G k := IntWalk.i64_in _ (by have := HSb.out (k + 1) (by omega); omega)
      have Hst := Lib.hid hst
      generalize gq (ratL l) k + gq (ratL m) k = X at *
      generalize ((G k : Int) : Rat) = FQ at *
      clear hx' hy' hxo hyo hxr hyr hsx hsy fx fy hzo hzr hsz fz hka hfr ffG hkb hE2 hM1 hM2 hok hst
      have r := True.intro
      have Hgk : ∃ u, u = G k := ⟨_, rfl⟩
      go_wp2_with fail
      go_upto_region 14 with (first | ((first | (apply K.alloc; rfl; rfl; (first | with_reducible exact big_zero | with_reducible exact frac_zero)) | (apply K.box; rfl; rfl; rfl)); clear K r; (first | ((fail_if_success revert b0); intro W b0 K) | ((fail_if_success revert b1); intro W b1 K) | ((fail_if_success revert b2); intro W b2 K) | ((fail_if_success revert b3); intro W b3 K) | ((fail_if_success revert b4); intro W b4 K) | ((fail_if_success revert b5); intro W b5 K) | ((fail_if_success revert b6); intro W b6 K) | ((fail_if_success revert b7); intro W b7 K)); have r := K.rawS) | (apply K.storeA; rfl; rfl; rfl; rfl; rfl; (repeat (first | with_reducible exact Upd.head _ | with_reducible apply Upd.tail)); (first | with_reducible exact big_size | with_reducible exact frac_size); rfl; rfl; rfl; clear K r; intro W K; have r := K.rawS))
      obtain ⟨RR, HR0⟩ := K.hideZ 35
      go_cut [14, 13] from 88 to 98 (fun e p wx => ∃ g s8 A8 n8 c8 l8 t8 B8 m8 d8 k8, e = .int .i64 0 ∧ p = .pointer (some ⟨g, 0, none⟩) ∧ OptF s8 l8 t8 k8 (some X) ∧ (FrA w.heap.size A8 ∧ FrA w.heap.size B8) ∧ RR g #[.int .i64 s8, .slice A8 n8 c8, .int .i64 t8, .slice B8 m8 d8] A8 n8 c8 l8 B8 m8 d8 k8 wx)
      case first =>
        obtain ⟨gz1, hgz1, KA⟩ := K.newZ #[.int .i64 0, .slice none 0 0, .int .i64 0, .slice none 0 0] 35
        have rA := KA.raw
        have Kd := K.drew
        have KAd := KA.drew
        have HBd := Lib.hid (K.bel.size)
        have eA1 := Ex1.out _ KA.1
        have eA2 := Ex2.out _ KA.1
        simp only [Raw, RawC, RawZ, and_true, true_and, Nat.zero_add, Nat.reduceAdd] at rA
        go_region_with (first
          | (go_at_call 15; (with_reducible refine (HAd.out _ ?qa ?qb ?qc ?qd).mono ?_); (case qa => (first | with_reducible exact Kd.rd (by repeat (first | with_reducible exact List.mem_cons_self | with_reducible apply List.mem_cons_of_mem)) | with_reducible exact KAd.rd (by repeat (first | with_reducible exact List.mem_cons_self | with_reducible apply List.mem_cons_of_mem)))); (case qb => (first | with_reducible exact Kd.rd (by repeat (first | with_reducible exact List.mem_cons_self | with_reducible apply List.mem_cons_of_mem)) | with_reducible exact KAd.rd (by repeat (first | with_reducible exact List.mem_cons_self | with_reducible apply List.mem_cons_of_mem)))); (case qc => (first | with_reducible exact Kd.rd (by repeat (first | with_reducible exact List.mem_cons_self | with_reducible apply List.mem_cons_of_mem)) | with_reducible exact KAd.rd (by repeat (first | with_reducible exact List.mem_cons_self | with_reducible apply List.mem_cons_of_mem)))); (case qd => (first | with_reducible exact Kd.rd (by repeat (first | with_reducible exact List.mem_cons_self | with_reducible apply List.mem_cons_of_mem)) | with_reducible exact KAd.rd (by repeat (first | with_reducible exact List.mem_cons_self | with_reducible apply List.mem_cons_of_mem)))); rintro e W ⟨s31, A31, n31, c31, l31, t31, B31, m31, d31, k31, rfl, ⟨hra, hrb⟩, hs31, ⟨hfa, hfb⟩, hb⟩; have hF31 := Lib.hid (hfa.mono (C := w.heap.size) (by first | exact Kd.bel.size | exact KAd.bel.size)); have hG31 := Lib.hid (hfb.mono (C := w.heap.size) (by first | exact Kd.bel.size | exact KAd.bel.size)); (first | with_reducible replace K := Kd.retF hb hra hrb hfa hfb | with_reducible replace K := KAd.retF hb hra hrb hfa hfb); clear r rA KA hra hrb hfa hfb hb; have r := K.raw; have z := K.rawz; try (simp only [Raw, RawC, RawZ, and_true, true_and, Nat.zero_add, Nat.reduceAdd] at r z)))
        all_goals
          go_wp2_with fail
          go_meet
          first
            | with_reducible exact ⟨_, s31, A31, n31, c31, l31, t31, B31, m31, d31, k31, rfl, rfl, hs31, ⟨hF31.out, hG31.out⟩, (HR0 _ _ _ _ _ _ _ _ _ _ _).2 (K.new #[.int .i64 s31, .slice A31 n31 c31, .int .i64 t31, .slice B31 m31 d31] 35)⟩
            | with_reducible exact ⟨_, s31, A31, n31, c31, l31, t31, B31, m31, d31, k31, rfl, rfl, hs31, ⟨hF31.out, hG31.out⟩, (HR0 _ _ _ _ _ _ _ _ _ _ _).2 (K.set4Z (u0 := .int .i64 s31) (u1 := .slice A31 n31 c31) (u2 := .int .i64 t31) (u3 := .slice B31 m31 d31) (by repeat (first | with_reducible exact Upd.head _ | with_reducible apply Upd.tail)))⟩
            | exact ⟨_, s31, A31, n31, c31, l31, t31, B31, m31, d31, k31, rfl, rfl, hs31, ⟨hF31.out, hG31.out⟩, (HR0 _ _ _ _ _ _ _ _ _ _ _).2 (K.new #[.int .i64 s31, .slice A31 n31 c31, .int .i64 t31, .slice B31 m31 d31] 35)⟩
            | exact ⟨_, s31, A31, n31, c31, l31, t31, B31, m31, d31, k31, rfl, rfl, hs31, ⟨hF31.out, hG31.out⟩, (HR0 _ _ _ _ _ _ _ _ _ _ _).2 (K.set4Z (u0 := .int .i64 s31) (u1 := .slice A31 n31 c31) (u2 := .int .i64 t31) (u3 := .slice B31 m31 d31) (by repeat (first | with_reducible exact Upd.head _ | with_reducible apply Upd.tail)))⟩
      obtain ⟨gb9, s9, A9, n9, c9, l9, t9, B9, m9, d9, k9, rfl, rfl, hs9, ⟨hF9, hG9⟩, hk9⟩ := hcut
      replace K := (HR0 _ _ _ _ _ _ _ _ _ _ _).1 hk9
      clear r hk9 HR0
      have r := K.rawS
      replace hs9 : StdF s9 l9 t9 k9 X := hs9
      clear HAd hF9 hG9
      go_upto_region 15 with (first | ((first | (apply K.alloc; rfl; rfl; (first | with_reducible exact big_zero | with_reducible exact frac_zero)) | (apply K.box; rfl; rfl; rfl)); clear K r; (first | ((fail_if_success revert b0); intro W b0 K) | ((fail_if_success revert b1); intro W b1 K) | ((fail_if_success revert b2); intro W b2 K) | ((fail_if_success revert b3); intro W b3 K) | ((fail_if_success revert b4); intro W b4 K) | ((fail_if_success revert b5); intro W b5 K) | ((fail_if_success revert b6); intro W b6 K) | ((fail_if_success revert b7); intro W b7 K)); have r := K.rawS) | (apply K.storeA; rfl; rfl; rfl; rfl; rfl; (repeat (first | with_reducible exact Upd.head _ | with_reducible apply Upd.tail)); (first | with_reducible exact big_size | with_reducible exact frac_size); rfl; rfl; rfl; clear K r; intro W K; have r := K.rawS))
      obtain ⟨RR, HR0⟩ := K.hideZ 35
      go_cut [16, 15] from 100 to 111 (fun e p wx => ∃ g s8 A8 n8 c8 l8 t8 B8 m8 d8 k8, e = .int .i64 0 ∧ p = .pointer (some ⟨g, 0, none⟩) ∧ StdF s8 l8 t8 k8 X ∧ RR g #[.int .i64 s8, .slice A8 n8 c8, .int .i64 t8, .slice B8 m8 d8] A8 n8 c8 l8 B8 m8 d8 k8 wx)
      case first =>
        obtain ⟨gz1, hgz1, KA⟩ := K.newZ #[.int .i64 0, .slice none 0 0, .int .i64 0, .slice none 0 0] 35
        have rA := KA.raw
        have Kd := K.drew
        have KAd := KA.drew
        have e3 := Ex3.out _ K.1
        have eg := EG.out _ K.1
        have eA3 := Ex3.out _ KA.1
        have eAg := EG.out _ KA.1
        try (simp only [Raw, RawC, RawZ, and_true, true_and, Nat.zero_add, Nat.reduceAdd] at rA)
        first
          | go_region_with (first
            | (go_at_call 16; (with_reducible refine (HWg.out _).mono ?_); rintro e W ⟨s30, A30, n30, c30, l30, t30, B30, m30, d30, k30, rfl, ⟨hra, hrb⟩, hs30, ⟨hfa, hfb⟩, hb⟩; (first | with_reducible replace K := Kd.retF hb hra hrb hfa hfb | with_reducible replace K := KAd.retF hb hra hrb hfa hfb); clear r rA KA e3 eg eA3 eAg hra hrb hfa hfb hb; have r := K.raw; obtain ⟨gz2, hgz2, KA⟩ := K.newZ #[.int .i64 0, .slice none 0 0, .int .i64 0, .slice none 0 0] 35; have rA := KA.raw; try (simp only [Raw, RawC, RawZ, and_true, true_and, Nat.zero_add, Nat.reduceAdd] at r rA); have e3 := Ex3.out _ K.1; have eA3 := Ex3.out _ KA.1)
            | (go_at_call 15; (with_reducible refine (HAd2.out _ _ _ _ _ _ _ _ _ _ _ ?qa ?qb ?qc ?qd hs30).mono ?_); (case qa => (first | with_reducible exact K.rd (by repeat (first | with_reducible exact List.mem_cons_self | with_reducible apply List.mem_cons_of_mem)) | with_reducible exact KA.rd (by repeat (first | with_reducible exact List.mem_cons_self | with_reducible apply List.mem_cons_of_mem)))); (case qb => (first | with_reducible exact K.rd (by repeat (first | with_reducible exact List.mem_cons_self | with_reducible apply List.mem_cons_of_mem)) | with_reducible exact KA.rd (by repeat (first | with_reducible exact List.mem_cons_self | with_reducible apply List.mem_cons_of_mem)))); (case qc => (first | with_reducible exact K.rd (by repeat (first | with_reducible exact List.mem_cons_self | with_reducible apply List.mem_cons_of_mem)) | with_reducible exact KA.rd (by repeat (first | with_reducible exact List.mem_cons_self | with_reducible apply List.mem_cons_of_mem)))); (case qd => (first | with_reducible exact K.rd (by repeat (first | with_reducible exact List.mem_cons_self | with_reducible apply List.mem_cons_of_mem)) | with_reducible exact KA.rd (by repeat (first | with_reducible exact List.mem_cons_self | with_reducible apply List.mem_cons_of_mem)))); rintro e W ⟨s31, A31, n31, c31, l31, t31, B31, m31, d31, k31, rfl, ⟨hra, hrb⟩, hs31, ⟨hfa, hfb⟩, hb⟩; replace hs31 : StdF s31 l31 t31 k31 X := hs31; (first | with_reducible replace K := K.retF hb hra hrb hfa hfb | with_reducible replace K := KA.retF hb hra hrb hfa hfb); clear r rA KA e3 eA3 hra hrb hfa hfb hb; have r := K.raw; have z := K.rawz; try (simp only [Raw, RawC, RawZ, and_true, true_and, Nat.zero_add, Nat.reduceAdd] at r z)))
          | fail
        all_goals
          go_wp2_with fail
          go_meet
          first
            | with_reducible exact ⟨_, s31, A31, n31, c31, l31, t31, B31, m31, d31, k31, rfl, rfl, hs31, (HR0 _ _ _ _ _ _ _ _ _ _ _).2 ((K.new #[.int .i64 s31, .slice A31 n31 c31, .int .i64 t31, .slice B31 m31 d31] 35).less (by simp only [List.mem_cons, List.not_mem_nil, or_false, forall_eq_or_imp, forall_eq, true_or, or_true, and_self]))⟩
            | with_reducible exact ⟨_, s31, A31, n31, c31, l31, t31, B31, m31, d31, k31, rfl, rfl, hs31, (HR0 _ _ _ _ _ _ _ _ _ _ _).2 ((K.set4Z (u0 := .int .i64 s31) (u1 := .slice A31 n31 c31) (u2 := .int .i64 t31) (u3 := .slice B31 m31 d31) (by repeat (first | with_reducible exact Upd.head _ | with_reducible apply Upd.tail))).less (by simp only [List.mem_cons, List.not_mem_nil, or_false, forall_eq_or_imp, forall_eq, true_or, or_true, and_self]))⟩
            | exact ⟨_, s31, A31, n31, c31, l31, t31, B31, m31, d31, k31, rfl, rfl, hs31, (HR0 _ _ _ _ _ _ _ _ _ _ _).2 ((K.new #[.int .i64 s31, .slice A31 n31 c31, .int .i64 t31, .slice B31 m31 d31] 35).less (by simp only [List.mem_cons, List.not_mem_nil, or_false, forall_eq_or_imp, forall_eq, true_or, or_true, and_self]))⟩
            | exact ⟨_, s31, A31, n31, c31, l31, t31, B31, m31, d31, k31, rfl, rfl, hs31, (HR0 _ _ _ _ _ _ _ _ _ _ _).2 ((K.set4Z (u0 := .int .i64 s31) (u1 := .slice A31 n31 c31) (u2 := .int .i64 t31) (u3 := .slice B31 m31 d31) (by repeat (first | with_reducible exact Upd.head _ | with_reducible apply Upd.tail))).less (by simp only [List.mem_cons, List.not_mem_nil, or_false, forall_eq_or_imp, forall_eq, true_or, or_true, and_self]))⟩
      obtain ⟨gb8, s8, A8, n8, c8, l8, t8, B8, m8, d8, k8, rfl, rfl, hs8, hk8⟩ := hcut
      replace K := (HR0 _ _ _ _ _ _ _ _ _ _ _).1 hk8
      clear r hk8 HR0
      have r := K.rawS
      have HSm := Lib.hid (fun W a b c d => qSame X X s9 t9 s8 t8 A9 B9 A8 B8 n9 c9 m9 d9 n8 c8 m8 d8 l9 k9 l8 k8 W a b c d hs9 hs8)
      rw [decide_eq_true rfl] at HSm
      clear hs9 hs8 HAd2 HWg fX
      go_wp2_with (first | ((first | (apply K.alloc; rfl; rfl; (first | with_reducible exact big_zero | with_reducible exact frac_zero)) | (apply K.box; rfl; rfl; rfl)); clear K r; (first | ((fail_if_success revert b0); intro W b0 K) | ((fail_if_success revert b1); intro W b1 K) | ((fail_if_success revert b2); intro W b2 K) | ((fail_if_success revert b3); intro W b3 K) | ((fail_if_success revert b4); intro W b4 K) | ((fail_if_success revert b5); intro W b5 K) | ((fail_if_success revert b6); intro W b6 K) | ((fail_if_success revert b7); intro W b7 K)); have r := K.rawS) | (apply K.storeA; rfl; rfl; rfl; rfl; rfl; (repeat (first | with_reducible exact Upd.head _ | with_reducible apply Upd.tail)); (first | with_reducible exact big_size | with_reducible exact frac_size); rfl; rfl; rfl; clear K r; intro W K; have r := K.rawS))
      refine (HSm.out _ (by first | exact Rd.nil | exact K.rda) (by first | exact Rd.nil | exact K.rda) (by first | exact Rd.nil | exact K.rda) (by first | exact Rd.nil | exact K.rda)).mono ?_
      rintro e W' ⟨rfl, hb⟩
      replace K := K.keep hb
      clear r
      have r := K.rawS
      clear hb
      have eg := EG.out _ K.1
      have e3 := Ex3.out _ K.1
      go_wp2_with fail
      refine (HRt.out _ (by first | exact Rd.nil | exact K.rda) (by first | exact Rd.nil | exact K.rda)).mono ?_
      rintro e W' ⟨rfl, hb⟩
      clear e3 eg
      replace K := K.keep hb
      clear r
      have r := K.rawS
      clear hb
      have e3 := Ex3.out _ K.1
      replace K := (K.part (L' := []) (List.nil_sublist _))
      clear r
      have y1 : Rat.divInt (-1) 1 = -1 := by decide +kernel
      have y2 : Rat.divInt 1 1 = 1 := by decide +kernel
      obtain ⟨KS, X0, XK, XF, XS⟩ := K.pack3 (fun W => (W.cell? ⟨eb3, off3 + k * 4, none⟩ = some (.int .i64 z.s) ∧ W.cell? ⟨eb3, off3 + k * 4 + 1, none⟩ = some (.slice A3 n3 c3) ∧ W.cell? ⟨eb3, off3 + k * 4 + 2, none⟩ = some (.int .i64 z.t) ∧ W.cell? ⟨eb3, off3 + k * 4 + 3, none⟩ = some (.slice B3 m3 d3))) (fun W K => Ex3.out W K.1)
      have HSx := Lib.hid (fun W (h : KS W) => (show KS W ∧ (W.cell? ⟨eb3, off3 + k * 4, none⟩ = some (.int .i64 z.s) ∧ W.cell? ⟨eb3, off3 + k * 4 + 1, none⟩ = some (.slice A3 n3 c3) ∧ W.cell? ⟨eb3, off3 + k * 4 + 2, none⟩ = some (.int .i64 z.t) ∧ W.cell? ⟨eb3, off3 + k * 4 + 3, none⟩ = some (.slice B3 m3 d3)) from ⟨h, XF W h⟩))
      have XD := Lib.hid (fun W (h : KS W) => XK W W.drew h (Below.refl _ _).drew)
      have XSt := Lib.hid (fun W (h : KS W) => ((XS W h).less (D' := []) (fun _ h => by cases h)))
      have HW1 := Lib.hid (fun W (h : KS W) => (wof_any (-1) 1 W (by decide) (by decide) (by decide)).mono fun e W' ⟨s, A, n, cap, l, t, A', n', cap', m, he, hr, hs, hf, hb⟩ => (⟨s, A, n, cap, l, t, A', n', cap', m, he, hr, by rw [y1] at hs; exact hs, XK _ _ h hb⟩ : ∃ s A n cap l t A' n' cap' m, e = Ending.returned (.agg #[.int .i64 s, .slice A n cap, .int .i64 t, .slice A' n' cap']) ∧ (RdI W' W'.heap.size A n cap l ∧ RdI W' W'.heap.size A' n' cap' m) ∧ StdF s l t m (-1) ∧ KS W'))
      have HW2 := Lib.hid (fun W (h : KS W) => (wof_any 1 1 W (by decide) (by decide) (by decide)).mono fun e W' ⟨s, A, n, cap, l, t, A', n', cap', m, he, hr, hs, hf, hb⟩ => (⟨s, A, n, cap, l, t, A', n', cap', m, he, hr, by rw [y2] at hs; exact hs, XK _ _ h hb⟩ : ∃ s A n cap l t A' n' cap' m, e = Ending.returned (.agg #[.int .i64 s, .slice A n cap, .int .i64 t, .slice A' n' cap']) ∧ (RdI W' W'.heap.size A n cap l ∧ RdI W' W'.heap.size A' n' cap' m) ∧ StdF s l t m 1 ∧ KS W'))
      have HC1 := Lib.hid (fun s2 t2 A2 B2 n2 c2 m2 d2 l2 k2 W (r2 : RdI W W.heap.size A2 n2 c2 l2) (q2 : RdI W W.heap.size B2 m2 d2 k2) h2 (h : KS W) => (P1.out s2 t2 A2 B2 n2 c2 m2 d2 l2 k2 W ((XS W h).rd (by repeat (first | with_reducible exact List.mem_cons_self | with_reducible apply List.mem_cons_of_mem))) ((XS W h).rd (by repeat (first | with_reducible exact List.mem_cons_self | with_reducible apply List.mem_cons_of_mem))) r2 q2 h2).mono fun e W' ⟨he, hb⟩ => (⟨he, XK _ _ h hb⟩ : e = Ending.returned (.int .i64 1) ∧ KS W'))
      have HC2 := Lib.hid (fun s2 t2 A2 B2 n2 c2 m2 d2 l2 k2 W (r2 : RdI W W.heap.size A2 n2 c2 l2) (q2 : RdI W W.heap.size B2 m2 d2 k2) h2 (h : KS W) => (P2.out s2 t2 A2 B2 n2 c2 m2 d2 l2 k2 W ((XS W h).rd (by repeat (first | with_reducible exact List.mem_cons_self | with_reducible apply List.mem_cons_of_mem))) ((XS W h).rd (by repeat (first | with_reducible exact List.mem_cons_self | with_reducible apply List.mem_cons_of_mem))) r2 q2 h2).mono fun e W' ⟨he, hb⟩ => (⟨he, XK _ _ h hb⟩ : e = Ending.returned (.int .i64 (-1)) ∧ KS W'))
      clear XF XK XS K P1 P2 y1 y2
      go_wp2_with fail
      go_region_held3 (fun W => KS W ∧ (W.cell? ⟨eb3, off3 + k * 4, none⟩ = some (.int .i64 z.s) ∧ W.cell? ⟨eb3, off3 + k * 4 + 1, none⟩ = some (.slice A3 n3 c3) ∧ W.cell? ⟨eb3, off3 + k * 4 + 2, none⟩ = some (.int .i64 z.t) ∧ W.cell? ⟨eb3, off3 + k * 4 + 3, none⟩ = some (.slice B3 m3 d3)))
        ((refine HSx.out _ ?_; first | assumption | exact XD.out _ X0 | exact And.left (by assumption)))
        (first
          | (go_at_call 16; (with_reducible refine (HW1.out _ (And.left (by assumption))).mono ?_); rintro e w5 ⟨s50, A50, n50, c50, l50, t50, B50, m50, d50, k50, rfl, ⟨ra50, rb50⟩, hs50, x50⟩)
          | (go_at_call 16; (with_reducible refine (HW2.out _ (And.left (by assumption))).mono ?_); rintro e w6 ⟨s60, A60, n60, c60, l60, t60, B60, m60, d60, k60, rfl, ⟨ra60, rb60⟩, hs60, x60⟩)
          | (go_at_call 19; (with_reducible refine (HC1.out _ _ _ _ _ _ _ _ _ _ _ (by (first | with_reducible exact ra50 | with_reducible exact ra50.up (flat_lasts _) (Below.refl _ _).drew)) (by (first | with_reducible exact rb50 | with_reducible exact rb50.up (flat_lasts _) (Below.refl _ _).drew)) hs50 (And.left (by assumption))).mono ?_); rintro e w7 ⟨rfl, x70⟩)
          | (go_at_call 19; (with_reducible refine (HC2.out _ _ _ _ _ _ _ _ _ _ _ (by (first | with_reducible exact ra60 | with_reducible exact ra60.up (flat_lasts _) (Below.refl _ _).drew)) (by (first | with_reducible exact rb60 | with_reducible exact rb60.up (flat_lasts _) (Below.refl _ _).drew)) hs60 (And.left (by assumption))).mono ?_); rintro e w8 ⟨rfl, x80⟩))
      all_goals
        have K := XSt.out _ x80
        clear e3
        go_wp2_with fail
        go_roundg (n7 - (k + 1))
        case rel => exact ⟨k + 1, hlt, rfl, by go_num, by rw [Hst.out], K⟩
        case measure => omega
    · have e : n7 = k := by omega
      subst e
      rw [Hsum.out]
      have r := True.intro
      have HSm := Lib.hid (fun W (h : Below w.heap.size w W) => rsum_any _ _ _ a W (HAf.out.up fE_lasts h) Hao.out)
      have HRt := Lib.hid (fun W (h : Below w.heap.size w W) => mright_any _ _ _ a W (HAf.out.up fE_lasts h))
      have htt : (total == total) = true := by simp
      go_wp2_with fail
      refine (HSm.out _ K.1).mono ?_
      rintro e W' ⟨s3, A3, n3, c3, l3, t3, B3, m3, d3, k3, rfl, ⟨hra, hrb⟩, hV, ⟨hfa, hfb⟩, hb⟩
      have HV := Lib.hid hV
      clear hV r
      have r := True.intro
      have hf3 := Lib.hid (hfa.mono K.1.size)
      have hg3 := Lib.hid (hfb.mono K.1.size)
      replace K := K.retF hb hra hrb hfa hfb
      clear r
      have r := K.rawS
      clear hra hrb hfa hfb hb
      cases hs : sumF 0 (ratL a) with
      | none =>
        have eI : (none : Option Rat).isSome = false := rfl
        rw [eI]
        clear hs HV eI
        go_upto_region 21 with (first | ((first | (apply K.alloc; rfl; rfl; (first | with_reducible exact big_zero | with_reducible exact frac_zero)) | (apply K.box; rfl; rfl; rfl)); clear K r; (first | ((fail_if_success revert b0); intro W b0 K) | ((fail_if_success revert b1); intro W b1 K) | ((fail_if_success revert b2); intro W b2 K) | ((fail_if_success revert b3); intro W b3 K) | ((fail_if_success revert b4); intro W b4 K) | ((fail_if_success revert b5); intro W b5 K) | ((fail_if_success revert b6); intro W b6 K) | ((fail_if_success revert b7); intro W b7 K)); have r := K.rawS) | (apply K.storeA; rfl; rfl; rfl; rfl; rfl; (repeat (first | with_reducible exact Upd.head _ | with_reducible apply Upd.tail)); (first | with_reducible exact big_size | with_reducible exact frac_size); rfl; rfl; rfl; clear K r; intro W K; have r := K.rawS))
        go_wp2_with fail
        go_ret
        exact ⟨rfl, HB0.out.trans (K.1.mono HB0.out.size)⟩
      | some q =>
        obtain ⟨hs3, fq⟩ := HV.out q hs
        have hq := HRM.out.2 q hs
        have hR := HRM.out.1 (by rw [hs, hq])
        rw [hR] at HRt
        have eI : (some q).isSome = true := rfl
        rw [eI]
        have h3 : s3 = 0 := by rw [hs3.1.1, hq]; rfl
        subst h3
        clear hs HV eI hs3 fq hq hR
        go_upto_region 21 with (first | ((first | (apply K.alloc; rfl; rfl; (first | with_reducible exact big_zero | with_reducible exact frac_zero)) | (apply K.box; rfl; rfl; rfl)); clear K r; (first | ((fail_if_success revert b0); intro W b0 K) | ((fail_if_success revert b1); intro W b1 K) | ((fail_if_success revert b2); intro W b2 K) | ((fail_if_success revert b3); intro W b3 K) | ((fail_if_success revert b4); intro W b4 K) | ((fail_if_success revert b5); intro W b5 K) | ((fail_if_success revert b6); intro W b6 K) | ((fail_if_success revert b7); intro W b7 K)); have r := K.rawS) | (apply K.storeA; rfl; rfl; rfl; rfl; rfl; (repeat (first | with_reducible exact Upd.head _ | with_reducible apply Upd.tail)); (first | with_reducible exact big_size | with_reducible exact frac_size); rfl; rfl; rfl; clear K r; intro W K; have r := K.rawS))
        go_wp2_with fail
        refine (HRt.out _ K.1).mono ?_
        rintro e W' ⟨rfl, hb⟩
        replace K := K.keep hb
        clear r
        have r := K.rawS
        clear hb
        go_wp2_with fail
        go_ret
        exact ⟨rfl, HB0.out.trans (K.1.mono HB0.out.size)⟩
end Go.Proofs.Ytinfcngkbdiddaa
