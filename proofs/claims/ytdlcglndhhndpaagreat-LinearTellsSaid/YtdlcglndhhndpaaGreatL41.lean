/- Laws and walks; conditions stand in each theorem. -/
import Derived.Test.YtdlcglndhhndpaaGreatL39
import Derived.Test.YtdlcglndhhndpaaGreatL40
import Derived.Test.YtdlcglndhhndpaaGreatL18
import Derived.Test.YtdlcglndhhndpaaGreatL29
set_option linter.unusedSimpArgs false
set_option linter.unusedVariables false
set_option maxHeartbeats 4000000
set_option maxRecDepth 100000
namespace Go.Proofs.YtdlcglndhhndpaaGreat
open Go.RowKit
theorem callOf2 {w0 W : World} {L : List Blk} {D : List Hl} {p q : Int} {z : Rat} (K : St w0 L D W) (hO : ∀ W, Calls Tryz.prog 35 #[.int .i64 p, .int .i64 q] W (FrE W (some z) 0)) (hf : fitsF z = true) :
 Calls Tryz.prog 35 #[.int .i64 p, .int .i64 q] W fun e W' => ∃ y : Rw, e = .returned (.tuple #[.agg #[.int .i64 y.s, .slice y.A y.n y.c, .int .i64 y.t, .slice y.B y.m y.d], .int .i64 0]) ∧ Hid (isQ y z) ∧ St w0 L (⟨rdP y.B y.m y.d y.k, rdS y.B y.m⟩ :: ⟨rdP y.A y.n y.c y.l, rdS y.A y.n⟩ :: D) W' :=
 (hO W).mono fun e W' ⟨s31, A31, n31, c31, l31, t31, B31, m31, d31, k31, he, ⟨hra, hrb⟩, hop, ⟨hfa, hfb⟩, hbb⟩ => ⟨⟨s31, A31, n31, c31, l31, t31, B31, m31, d31, k31⟩, he, Lib.hid ⟨hop, hf⟩, K.retF hbb hra hrb hfa hfb⟩
theorem of_01 (W : World) : Calls Tryz.prog 35 #[.int .i64 0, .int .i64 1] W (FrE W (some 0) 0) := by
 have h := gOf_any 0 1 W (by decide) (by decide)
 exact ZL119
theorem of_11 (W : World) : Calls Tryz.prog 35 #[.int .i64 1, .int .i64 1] W (FrE W (some 1) 0) := by
 have h := gOf_any 1 1 W (by decide) (by decide)
 exact ZL119
theorem kernel6_any (N : Int) (A : Option Addr) (n cap : Nat) (l : List Rv) (w : World) (hl : RdR w w.heap.size A n cap l) :
 Calls Tryz.prog 12 #[.slice A n cap, .int .i64 N] w (LstB w (kerL N l).1 (kerL N l).2) := by
 have hlen := hl.len
 have hcap := hl.caps
 have HR := Lib.hid (right6_any N A n cap l w hl)
 cases hr : rightL N l
 · rw [hr] at HR
   have HE := Lib.hid (fun W (h : Below w.heap.size w W) => (⟨none, 0, by unfold kerL; rw [hr]; rfl, by unfold kerL; rw [hr]; exact Rd.nil, h⟩ : LstB w (kerL N l).1 (kerL N l).2 (.returned (.tuple #[.slice none 0 0, .bool false])) W))
   clear hl hlen hr
   go_enter Tryz.func12, Tryz.ntmps12
   go_wp2_with fail
   refine HR.out.mono ?_
   rintro e W ⟨rfl, hb⟩
   have HX := Lib.hid (HE.out W hb)
   clear HE hb
   go_wp2
   exact bodyPost_ret (v := .tuple #[.slice none 0 0, .bool false]) (by simp [results, Tryz.results12, go_sem]) rfl HX.out
 · obtain ⟨hN, hn40⟩ := rightL_len hr
   rw [hlen] at hN hn40
   subst hN
   rw [hr] at HR
   have HL := Lib.hid (fun W (h : Below w.heap.size w W) => elim6_any A n cap l true W (hl.up rE_lasts h) hr)
   have HSo := Lib.hid (show kerL (n : Int) l = kerM1 n (elimF n true n (mxR l) []) from by unfold kerL; rw [if_pos hr, hlen])
   rw [HSo.out]
   clear hl hlen hr HSo
   generalize mxR l = m0 at *
   obtain ⟨R, hR⟩ : ∃ R, R = kerM1 n (elimF n true n m0 []) := ⟨_, rfl⟩
   rw [← hR]
   have HRR := Lib.hid hR
   clear hR
   go_enter Tryz.func12, Tryz.ntmps12
   go_wp2_with fail
   refine HR.out.mono ?_
   rintro e W ⟨rfl, hb⟩
   go_wp2_with fail
   refine (HL.out W hb).mono ?_
   rintro e W' ⟨A', cc, Af, cf, b, fr, m', rfl, hb2, hfr, hB1, hB2⟩
   have hb3 := hb.trans (hb2.mono hb.size)
   have hcf := hfr.caps
   obtain ⟨fl, hfl⟩ : ∃ fl, fl = fr.length := ⟨_, rfl⟩
   rw [← hfl] at hcf ⊢
   have Hb3 := Lib.hid hb3
   cases b
   · have hRe : R = ([], false) := by rw [HRR.out, hB1 rfl]; rfl
     have HX := Lib.hid (show LstB w R.1 R.2 _ _ from by rw [hRe]; exact ⟨none, 0, rfl, Rd.nil, Hb3.out⟩ : LstB w R.1 R.2 (.returned (.tuple #[.slice none 0 0, .bool false])) W')
     clear hfr hB1 hB2 hfl hb hb2 hb3 HRR hRe HR HL
     go_wp2
     exact bodyPost_ret (v := .tuple #[.slice none 0 0, .bool false]) (by simp [results, Tryz.results12, go_sem]) rfl HX.out
   · obtain ⟨he, hf, hrd⟩ := hB2 rfl
     have HRd := Lib.hid hrd
     have hcc := hrd.caps
     cases fr with
     | nil =>
      have hfl0 : fl = 0 := hfl
      subst hfl0
      have hRe : R = ([], false) := by rw [HRR.out, he]; rfl
      have HX := Lib.hid (show LstB w R.1 R.2 _ _ from by rw [hRe]; exact ⟨none, 0, rfl, Rd.nil, Hb3.out⟩ : LstB w R.1 R.2 (.returned (.tuple #[.slice none 0 0, .bool false])) W')
      clear hfr hB1 hB2 hfl he hf hrd hb hb2 hb3 HRR hRe HR HL
      go_wp2
      exact bodyPost_ret (v := .tuple #[.slice none 0 0, .bool false]) (by simp [results, Tryz.results12, go_sem]) rfl HX.out
     | cons c fr =>
      have hfl0 : 0 < fl := by rw [hfl]; simp
      have hfl1 : ¬ (fl : Int) = 0 := by omega
      have hflp : (0 : Int) < (fl : Int) := by omega
      have hRe : R = (ofF n fun i => fvQ (kerV m' c i), true) := by rw [HRR.out, he]; rfl
      have hcn : c < n := by
       rcases elim_fact he with ⟨h1, -⟩ | ⟨d, h1, hd, -⟩
       · cases h1
       · cases h1; exact hd
      have HRe := Lib.hid hRe
      have Hf := Lib.hid hf
      obtain ⟨fb, fo, hAf, hfb, hfc⟩ := RdI.cellAt hfr (k := 0) (by rw [← hfl]; exact hfl0)
      have ec0 : gi ((c :: fr).map fun c : Nat => (c : Int)) 0 = (c : Int) := rfl
      rw [ec0, Nat.add_zero] at hfc
      subst hAf
      have hcci : (c : Int) < (n : Int) := by omega
      have hcc0 : (0 : Int) ≤ (c : Int) := by omega
      clear hfr hB1 hB2 hfl he hf hrd hb hb2 hb3 HRR hRe HR HL ec0
      have K := St.start W'
      have r := K.raw
      go_wp2_with (first | (apply K.alloc; rfl; rfl; exact frac_zero; clear K r; (first | ((fail_if_success revert b0); intro W b0 K) | ((fail_if_success revert b1); intro W b1 K) | intro W b K); have r := K.rawS) | (apply K.storeA; rfl; rfl; rfl; rfl; rfl; (exact ZUP); exact frac_size; rfl; rfl; rfl; clear K r; intro W K; have r := K.rawS))
      refine (callOf2 K of_01 (by decide +kernel)).mono ?_
      rintro e W1 ⟨z0, rfl, gz0, k1⟩
      replace K := k1
      clear k1 r
      have r := K.rawS
      go_wp2_with (first | (apply K.alloc; rfl; rfl; exact frac_zero; clear K r; (first | ((fail_if_success revert b0); intro W b0 K) | ((fail_if_success revert b1); intro W b1 K) | intro W b K); have r := K.rawS) | (apply K.storeA; rfl; rfl; rfl; rfl; rfl; (exact ZUP); exact frac_size; rfl; rfl; rfl; clear K r; intro W K; have r := K.rawS))
      refine (callOf2 K of_11 (by decide +kernel)).mono ?_
      rintro e W2 ⟨o1, rfl, go1, k1⟩
      replace K := k1
      clear k1 r
      have r := K.rawS
      go_wp2_with (first | (apply K.alloc; rfl; rfl; exact frac_zero; clear K r; (first | ((fail_if_success revert b0); intro W b0 K) | ((fail_if_success revert b1); intro W b1 K) | intro W b K); have r := K.rawS) | (apply K.storeA; rfl; rfl; rfl; rfl; rfl; (exact ZUP); exact frac_size; rfl; rfl; rfl; clear K r; intro W K; have r := K.rawS))
      replace K : St W' ([] ++ [((b1, #[.int .i64 o1.s, .slice o1.A o1.n o1.c, .int .i64 o1.t, .slice o1.B o1.m o1.d], 50) : Blk), (b0, #[.int .i64 z0.s, .slice z0.A z0.n z0.c, .int .i64 z0.t, .slice z0.B z0.m z0.d], 50)]) (⟨rwP 0 (fun _ => Rw.zero), rwS 0 (fun _ => Rw.zero)⟩ :: ⟨rdP o1.B o1.m o1.d o1.k, rdS o1.B o1.m⟩ :: ⟨rdP o1.A o1.n o1.c o1.l, rdS o1.A o1.n⟩ :: ⟨rdP z0.B z0.m z0.d z0.k, rdS z0.B z0.m⟩ :: ⟨rdP z0.A z0.n z0.c z0.l, rdS z0.A z0.n⟩ :: []) _ := K.rwNew 0
      clear r
      go_loopg [14, 15] n (fun gk s14 s15 wr => ∃ (k : Nat) (v : Nat → Rw) (val : Value) (X : List Blk), k ≤ n ∧ gk = n - k ∧ s14 = val ∧ s15 = .int .i64 k ∧ Hid (∀ j, j < k → (v j).fv = fvQ (kerV m' c j)) ∧ Hid (OwL 4 Rw.cs 50 val (ofF k v) X) ∧ St W' (X ++ [((b1, #[.int .i64 o1.s, .slice o1.A o1.n o1.c, .int .i64 o1.t, .slice o1.B o1.m o1.d], 50) : Blk), (b0, #[.int .i64 z0.s, .slice z0.A z0.n z0.c, .int .i64 z0.t, .slice z0.B z0.m z0.d], 50)]) (⟨rwP k v, rwS k v⟩ :: ⟨rdP o1.B o1.m o1.d o1.k, rdS o1.B o1.m⟩ :: ⟨rdP o1.A o1.n o1.c o1.l, rdS o1.A o1.n⟩ :: ⟨rdP z0.B z0.m z0.d z0.k, rdS z0.B z0.m⟩ :: ⟨rdP z0.A z0.n z0.c z0.l, rdS z0.A z0.n⟩ :: []) wr)
      case atStart => exact ⟨0, fun _ => Rw.zero, _, [], Nat.zero_le _, rfl, rfl, rfl, Lib.hid (fun j h => absurd h (by omega)), Lib.hid OwL.nil, K⟩
      case round =>
       clear K
       obtain ⟨k, v, val, X, hk, rfl, rfl, rfl, HV, Ho, K⟩ := hrel
       by_cases hlt : k < n
       · have hki : (k : Int) < (n : Int) := by omega
         have hk0 : (0 : Int) ≤ (k : Int) := by omega
         have hltd : decide (k < n) = true := decide_eq_true hlt
         by_cases hkc : k < c
         · have hkci : (k : Int) < (c : Int) := by omega
           obtain ⟨gb, goff, A0, n0, c0, A1, n1, c1, A2, n2, c2, x5, hA, hbB, hX, ⟨z0', z1, z2, z3, z4⟩, r0, r1, r2⟩ := HRd.out.atR hlt
           subst hA
           rw [ofF_get hlt] at hX
           have hxa : x5.a = ofF n fun j => fvQ (m' k j) := by rw [← Option.some.inj hX]; rfl
           have hn0 : n = n0 := by rw [← r0.len, hxa, ofF_len]
           subst hn0
           rw [hxa] at r0
           have hcr0 := r0.caps
           obtain ⟨ec, ed, B1, p1, q1, B2, p2, q2, y5, hA, hbC, hy, ⟨u0, u1, u2, u3⟩, s1, s2⟩ := r0.atF (k := c) hcn
           subst hA
           rw [ofF_get hcn] at hy
           obtain ⟨y, hyy⟩ : ∃ y : Rw, y = ⟨y5.s, B1, p1, q1, y5.l, y5.t, B2, p2, q2, y5.m⟩ := ⟨_, rfl⟩
           have Hyq := Lib.hid (show isQ y (m' k c) from isQ_fv (by rw [hyy]; exact (Option.some.inj hy).symm) (Hf.out k c hlt (by omega)))
           have es : y5.s = y.s ∧ B1 = y.A ∧ p1 = y.n ∧ q1 = y.c ∧ y5.t = y.t ∧ B2 = y.B ∧ p2 = y.m ∧ q2 = y.d ∧ y5.l = y.l ∧ y5.m = y.k := by rw [hyy]; exact ⟨rfl, rfl, rfl, rfl, rfl, rfl, rfl, rfl, rfl, rfl⟩
           replace K := (K.rdOld s1).rdOld s2
           obtain ⟨t1, t2, t3, t4, t5, t6, t7, t8, t9, t10⟩ := es
           rw [t1] at u0
           rw [t2, t3, t4] at u1
           rw [t5] at u2
           rw [t6, t7, t8] at u3
           rw [t2, t3, t4, t6, t7, t8, t9, t10] at K
           have HS := Lib.hid (fun V L5 D5 (h : St W' L5 D5 V) (m5 : ((b0, #[.int .i64 z0.s, .slice z0.A z0.n z0.c, .int .i64 z0.t, .slice z0.B z0.m z0.d], 50) : Blk) ∈ L5) => (show V.cell? ⟨gb, goff + k * 5, none⟩ = some (.slice (some ⟨ec, ed, none⟩) n c0) ∧ (V.cell? ⟨ec, ed + c * 4, none⟩ = some (.int .i64 y.s) ∧ V.cell? ⟨ec, ed + c * 4 + 1, none⟩ = some (.slice y.A y.n y.c) ∧ V.cell? ⟨ec, ed + c * 4 + 2, none⟩ = some (.int .i64 y.t) ∧ V.cell? ⟨ec, ed + c * 4 + 3, none⟩ = some (.slice y.B y.m y.d)) ∧ (V.cell? ⟨b0, 0, none⟩ = some (.int .i64 z0.s) ∧ V.cell? ⟨b0, 0 + 1, none⟩ = some (.slice z0.A z0.n z0.c) ∧ V.cell? ⟨b0, 0 + 2, none⟩ = some (.int .i64 z0.t) ∧ V.cell? ⟨b0, 0 + 3, none⟩ = some (.slice z0.B z0.m z0.d)) from ⟨(h.1.cell (p := ⟨gb, goff + k * 5, none⟩) hbB).trans z0', ⟨(h.1.cell (p := ⟨ec, ed + c * 4, none⟩) hbC).trans u0, (h.1.cell (p := ⟨ec, ed + c * 4 + 1, none⟩) hbC).trans u1, (h.1.cell (p := ⟨ec, ed + c * 4 + 2, none⟩) hbC).trans u2, (h.1.cell (p := ⟨ec, ed + c * 4 + 3, none⟩) hbC).trans u3⟩, (h.blk m5).cell (j := 0) rfl, (h.blk m5).cell (j := 1) rfl, (h.blk m5).cell (j := 2) rfl, (h.blk m5).cell (j := 3) rfl⟩))
           have HCal := Lib.hid (fun V L5 D5 (h : St W' L5 D5 V) m1 m2 m3 m4 => callSubG (Y := z0) (Z := y) h gz0.out Hyq.out m1 m2 m3 m4)
           clear t1 t2 t3 t4 t5 t6 t7 t8 t9 t10 hyy hy s1 s2 u0 u1 u2 u3 z0' z1 z2 z3 z4 r0 r1 r2 hX hxa
           go_upto_region 14 with fail
           have K0 := K.drew
           have s0 := HS.out _ _ _ K0 ZMA
           clear K
           refine wp_region_P 14 (fun V => V.cell? ⟨gb, goff + k * 5, none⟩ = some (.slice (some ⟨ec, ed, none⟩) n c0) ∧ (V.cell? ⟨ec, ed + c * 4, none⟩ = some (.int .i64 y.s) ∧ V.cell? ⟨ec, ed + c * 4 + 1, none⟩ = some (.slice y.A y.n y.c) ∧ V.cell? ⟨ec, ed + c * 4 + 2, none⟩ = some (.int .i64 y.t) ∧ V.cell? ⟨ec, ed + c * 4 + 3, none⟩ = some (.slice y.B y.m y.d)) ∧ (V.cell? ⟨b0, 0, none⟩ = some (.int .i64 z0.s) ∧ V.cell? ⟨b0, 0 + 1, none⟩ = some (.slice z0.A z0.n z0.c) ∧ V.cell? ⟨b0, 0 + 2, none⟩ = some (.int .i64 z0.t) ∧ V.cell? ⟨b0, 0 + 3, none⟩ = some (.slice z0.B z0.m z0.d))) (by kernel_rfl) s0 (fun hSh => ?_)
           clear s0
           generalize World.drew wr = V0 at K0 hSh ⊢
           refine wpAnyP.tk 0 rfl ?_
           refine wpAnyP.tkU 1 rfl ?_
           refine wpAnyP.tkU 2 rfl ?_
           refine wpAnyP.tkU 3 rfl ?_
           refine wpAnyP.tkU 4 rfl ?_
           refine wpAnyP.tk 5 rfl ?_
           refine wpAnyP.tkU 6 rfl ?_
           refine wpAnyP.tkU 7 rfl ?_
           refine wpAnyP.tk 8 rfl ?_
           refine wpAnyP.two (i := 9) (j := 13) rfl rfl rfl rfl (by kernel_rfl) (fun KK hKK => ?_) (fun KK hKK => ?_)
           focus
            go_simp
            go_at_call 43
            refine (HCal.out _ _ _ K0 ZMB ZMB ZMB ZMB).mono ?_
            rintro e V1 ⟨y1, er1, rfl, gy1, k1⟩
            go_wp2_with fail
            refine hKK.out _ _ (fun _ => HS.out _ _ _ k1 ZMA) (fun hSq => ?_)
            have hSh := HS.out _ _ _ k1 ZMA
            clear hKK KK hSq
            refine ZPT ?_
            refine wpAnyP.tkU 10 rfl ?_
            refine wpAnyP.tkU 11 rfl ?_
            refine wpAnyP.tkU 12 rfl ?_
            refine wpAnyP.on 13 rfl fun KK hKK => ?_
            go_simp
            have k2 := k1.new #[.int .i64 0, .slice none 0 0, .int .i64 0, .slice none 0 0] 50
            generalize V1.alloc (.cells #[.int .i64 0, .slice none 0 0, .int .i64 0, .slice none 0 0] 50) = V2 at k2 ⊢
            generalize V1.heap.size = g9 at k2 ⊢
            refine hKK.out _ _ (fun _ => HS.out _ _ _ k2 ZMA) (fun hSq => ?_)
            have hSh := HS.out _ _ _ k2 ZMA
            clear hKK KK hSq
            refine ZPT ?_
            have kz := k2
            clear k2 k1
           rotate_right
           focus
            go_simp
            have k1 := K0.new #[.int .i64 0, .slice none 0 0, .int .i64 0, .slice none 0 0] 50
            generalize V0.alloc (.cells #[.int .i64 0, .slice none 0 0, .int .i64 0, .slice none 0 0] 50) = V1 at k1 ⊢
            generalize V0.heap.size = g9 at k1 ⊢
            refine hKK.out _ _ (fun _ => HS.out _ _ _ k1 ZMA) (fun hSq => ?_)
            have hSh := HS.out _ _ _ k1 ZMA
            clear hKK KK hSq
            refine ZPT ?_
            refine wpAnyP.on 9 rfl fun KK hKK => ?_
            go_simp
            go_at_call 43
            refine (HCal.out _ _ _ k1 ZMB ZMB ZMB ZMB).mono ?_
            rintro e V2 ⟨y1, er1, rfl, gy1, k2⟩
            go_wp2_with fail
            refine hKK.out _ _ (fun _ => HS.out _ _ _ k2 ZMA) (fun hSq => ?_)
            have hSh := HS.out _ _ _ k2 ZMA
            clear hKK KK hSq
            refine ZPT ?_
            refine wpAnyP.tkU 10 rfl ?_
            refine wpAnyP.tkU 11 rfl ?_
            refine wpAnyP.tkU 12 rfl ?_
            have kz := k2
            clear k2 k1
           all_goals
            refine wpAnyP.onF 14 rfl fun KK hKK => ?_
            have r := kz.rawS
            have zz := kz.thaw (g := g9) (cs := #[.int .i64 0, .slice none 0 0, .int .i64 0, .slice none 0 0]) (t := 50) ZMB
            go_simp
            have K9 := kz.set4Z (b := g9) (t := 50) (x0 := .int .i64 0) (x1 := .slice none 0 0) (x2 := .int .i64 0) (x3 := .slice none 0 0) (u0 := .int .i64 y1.s) (u1 := .slice y1.A y1.n y1.c) (u2 := .int .i64 y1.t) (u3 := .slice y1.B y1.m y1.d) (Upd.head _)
            refine hKK.out _ _ ?_
            clear hKK KK r zz
            refine ZPT ?_
            refine wpAnyP.tkF 15 rfl ?_
            refine ⟨by kernel_rfl, ?_⟩
            generalize ((((V2.setCell ⟨g9, 0, none⟩ (.int .i64 y1.s)).setCell ⟨g9, 1, none⟩ (.slice y1.A y1.n y1.c)).setCell ⟨g9, 2, none⟩ (.int .i64 y1.t)).setCell ⟨g9, 3, none⟩ (.slice y1.B y1.m y1.d)) = W9 at K9 ⊢
            clear kz hSh HS HCal
            have HEr := Lib.hid (show er1 = 0 from by
             have h := gy1.out.1.2
             rw [neg_add (Hf.out k c hlt (by omega))] at h
             simpa using h)
            have HY1 := Lib.hid (show y1.fv = fvQ (kerV m' c k) from by
             have h := isQ.fv (gy1.out.1.1 HEr.out)
             rw [h]
             congr 1
             unfold kerV
             rw [if_neg (by omega), if_pos hkc]
             grind)
            have K : St W' (X ++ ((g9, #[.int .i64 y1.s, .slice y1.A y1.n y1.c, .int .i64 y1.t, .slice y1.B y1.m y1.d], 50) :: [((b1, #[.int .i64 o1.s, .slice o1.A o1.n o1.c, .int .i64 o1.t, .slice o1.B o1.m o1.d], 50) : Blk), (b0, #[.int .i64 z0.s, .slice z0.A z0.n z0.c, .int .i64 z0.t, .slice z0.B z0.m z0.d], 50)])) _ W9 := K9.perm List.perm_middle
            clear K9 gy1
            have hBg9 := K.blk (b := g9) (cs := #[.int .i64 y1.s, .slice y1.A y1.n y1.c, .int .i64 y1.t, .slice y1.B y1.m y1.d]) (t := 50) ZMA
            have e0g9 := hBg9.cell (j := 0) rfl
            have e1g9 := hBg9.cell (j := 1) rfl
            have e2g9 := hBg9.cell (j := 2) rfl
            have e3g9 := hBg9.cell (j := 3) rfl
            clear hBg9
            go_wp2_with (at_builtin; refine K.app1 Ho.out rw_sized rfl _ _ 23 rfl _ 64 Tryz.underlying23 frac_made rfl rfl y1 _ rfl _ rfl (by exact rfl) (by rw [ofF_len]; omega) (by omega) ?_; intro v4 X4 W4 ho4 K4)
            rw [ofF_put] at ho4
            have HV2 := Lib.hid (show ∀ j, j < k + 1 → (putF v k y1 j).fv = fvQ (kerV m' c j) from fun j hj => by
             by_cases e : j = k
             · subst e
               rw [putF_same]
               exact HY1.out
             · rw [putF_other e]
               exact HV.out j (by omega))
            have Ho2 := Lib.hid ho4
            have HK := Lib.hid (((K4.rwAdd (v := v) (n := k) y1 ZMB ZMB ZMB).lessS (D' := ⟨rwP (k + 1) (putF v k y1), rwS (k + 1) (putF v k y1)⟩ :: ⟨rdP o1.B o1.m o1.d o1.k, rdS o1.B o1.m⟩ :: ⟨rdP o1.A o1.n o1.c o1.l, rdS o1.A o1.n⟩ :: ⟨rdP z0.B z0.m z0.d z0.k, rdS z0.B z0.m⟩ :: ⟨rdP z0.A z0.n z0.c z0.l, rdS z0.A z0.n⟩ :: []) (by repeat (first | with_reducible exact List.Sublist.refl _ | with_reducible apply List.Sublist.cons_cons | with_reducible apply List.Sublist.cons))).part (L' := X4 ++ [((b1, #[.int .i64 o1.s, .slice o1.A o1.n o1.c, .int .i64 o1.t, .slice o1.B o1.m o1.d], 50) : Blk), (b0, #[.int .i64 z0.s, .slice z0.A z0.n z0.c, .int .i64 z0.t, .slice z0.B z0.m z0.d], 50)]) (List.Sublist.append_left (by repeat (first | with_reducible exact List.Sublist.refl _ | with_reducible apply List.Sublist.cons_cons | with_reducible apply List.Sublist.cons)) _))
            clear K4 K ho4 HV Ho
            go_wp2_with fail
            go_roundg (n - (k + 1))
            case rel => exact ⟨k + 1, _, _, X4, hlt, rfl, rfl, by go_num, HV2, Ho2, HK.out⟩
            case measure => omega
         · have hkci : ¬ (k : Int) < (c : Int) := by omega
           by_cases hke : k = c
           · have hkei : (k : Int) = (c : Int) := by omega
             have HY1 := Lib.hid (show o1.fv = fvQ (kerV m' c k) from by
              rw [isQ.fv go1.out]
              unfold kerV
              rw [if_pos hke])
             have hBb1 := K.blk (b := b1) (cs := #[.int .i64 o1.s, .slice o1.A o1.n o1.c, .int .i64 o1.t, .slice o1.B o1.m o1.d]) (t := 50) ZMA
             have e0b1 := hBb1.cell (j := 0) rfl
             have e1b1 := hBb1.cell (j := 1) rfl
             have e2b1 := hBb1.cell (j := 2) rfl
             have e3b1 := hBb1.cell (j := 3) rfl
             clear hBb1
             go_wp2_with (at_builtin; refine K.app1 Ho.out rw_sized rfl _ _ 23 rfl _ 64 Tryz.underlying23 frac_made rfl rfl o1 _ rfl _ rfl (by exact rfl) (by rw [ofF_len]; omega) (by omega) ?_; intro v4 X4 W4 ho4 K4)
             rw [ofF_put] at ho4
             have HV2 := Lib.hid (show ∀ j, j < k + 1 → (putF v k o1 j).fv = fvQ (kerV m' c j) from fun j hj => by
              by_cases e : j = k
              · subst e
                rw [putF_same]
                exact HY1.out
              · rw [putF_other e]
                exact HV.out j (by omega))
             have Ho2 := Lib.hid ho4
             have HK := Lib.hid (((K4.rwAdd (v := v) (n := k) o1 ZMB ZMB ZMB).lessS (D' := ⟨rwP (k + 1) (putF v k o1), rwS (k + 1) (putF v k o1)⟩ :: ⟨rdP o1.B o1.m o1.d o1.k, rdS o1.B o1.m⟩ :: ⟨rdP o1.A o1.n o1.c o1.l, rdS o1.A o1.n⟩ :: ⟨rdP z0.B z0.m z0.d z0.k, rdS z0.B z0.m⟩ :: ⟨rdP z0.A z0.n z0.c z0.l, rdS z0.A z0.n⟩ :: []) (by repeat (first | with_reducible exact List.Sublist.refl _ | with_reducible apply List.Sublist.cons_cons | with_reducible apply List.Sublist.cons))).part (L' := X4 ++ [((b1, #[.int .i64 o1.s, .slice o1.A o1.n o1.c, .int .i64 o1.t, .slice o1.B o1.m o1.d], 50) : Blk), (b0, #[.int .i64 z0.s, .slice z0.A z0.n z0.c, .int .i64 z0.t, .slice z0.B z0.m z0.d], 50)]) (List.Sublist.append_left (by repeat (first | with_reducible exact List.Sublist.refl _ | with_reducible apply List.Sublist.cons_cons | with_reducible apply List.Sublist.cons)) _))
             clear K4 K ho4 HV Ho
             go_wp2_with fail
             go_roundg (n - (k + 1))
             case rel => exact ⟨k + 1, _, _, X4, hlt, rfl, rfl, by go_num, HV2, Ho2, HK.out⟩
             case measure => omega
           · have hkei : ¬ (k : Int) = (c : Int) := by omega
             have HY1 := Lib.hid (show z0.fv = fvQ (kerV m' c k) from by
              rw [isQ.fv gz0.out]
              unfold kerV
              rw [if_neg hke, if_neg hkc])
             have hBb0 := K.blk (b := b0) (cs := #[.int .i64 z0.s, .slice z0.A z0.n z0.c, .int .i64 z0.t, .slice z0.B z0.m z0.d]) (t := 50) ZMA
             have e0b0 := hBb0.cell (j := 0) rfl
             have e1b0 := hBb0.cell (j := 1) rfl
             have e2b0 := hBb0.cell (j := 2) rfl
             have e3b0 := hBb0.cell (j := 3) rfl
             clear hBb0
             go_wp2_with (at_builtin; refine K.app1 Ho.out rw_sized rfl _ _ 23 rfl _ 64 Tryz.underlying23 frac_made rfl rfl z0 _ rfl _ rfl (by exact rfl) (by rw [ofF_len]; omega) (by omega) ?_; intro v4 X4 W4 ho4 K4)
             rw [ofF_put] at ho4
             have HV2 := Lib.hid (show ∀ j, j < k + 1 → (putF v k z0 j).fv = fvQ (kerV m' c j) from fun j hj => by
              by_cases e : j = k
              · subst e
                rw [putF_same]
                exact HY1.out
              · rw [putF_other e]
                exact HV.out j (by omega))
             have Ho2 := Lib.hid ho4
             have HK := Lib.hid (((K4.rwAdd (v := v) (n := k) z0 ZMB ZMB ZMB).lessS (D' := ⟨rwP (k + 1) (putF v k z0), rwS (k + 1) (putF v k z0)⟩ :: ⟨rdP o1.B o1.m o1.d o1.k, rdS o1.B o1.m⟩ :: ⟨rdP o1.A o1.n o1.c o1.l, rdS o1.A o1.n⟩ :: ⟨rdP z0.B z0.m z0.d z0.k, rdS z0.B z0.m⟩ :: ⟨rdP z0.A z0.n z0.c z0.l, rdS z0.A z0.n⟩ :: []) (by repeat (first | with_reducible exact List.Sublist.refl _ | with_reducible apply List.Sublist.cons_cons | with_reducible apply List.Sublist.cons))).part (L' := X4 ++ [((b1, #[.int .i64 o1.s, .slice o1.A o1.n o1.c, .int .i64 o1.t, .slice o1.B o1.m o1.d], 50) : Blk), (b0, #[.int .i64 z0.s, .slice z0.A z0.n z0.c, .int .i64 z0.t, .slice z0.B z0.m z0.d], 50)]) (List.Sublist.append_left (by repeat (first | with_reducible exact List.Sublist.refl _ | with_reducible apply List.Sublist.cons_cons | with_reducible apply List.Sublist.cons)) _))
             clear K4 K ho4 HV Ho
             go_wp2_with fail
             go_roundg (n - (k + 1))
             case rel => exact ⟨k + 1, _, _, X4, hlt, rfl, rfl, by go_num, HV2, Ho2, HK.out⟩
             case measure => omega
       · have e : n = k := by omega
         subst e
         have hltd : decide (n < n) = false := decide_eq_false hlt
         obtain ⟨Ao, co, hv, hro⟩ := Ho.out.rdF K ZMB (by omega)
         subst hv
         rw [ofF_congr HV.out] at hro
         have HX := Lib.hid (show LstB w R.1 R.2 (.returned (.tuple #[.slice Ao n co, .bool true])) wr from by
          rw [HRe.out]
          exact ⟨Ao, co, by simp only [ofF_len], by simp only [ofF_len]; exact hro, Hb3.out.trans (K.1.mono Hb3.out.size)⟩)
         clear Ho K hro HV hlt
         go_wp2
         exact bodyPost_ret (v := .tuple #[.slice Ao n co, .bool true]) (by simp [results, Tryz.results12, go_sem]) rfl HX.out
end Go.Proofs.YtdlcglndhhndpaaGreat
