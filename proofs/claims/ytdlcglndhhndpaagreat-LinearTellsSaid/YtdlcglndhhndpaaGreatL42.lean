/- Laws and walks; conditions stand in each theorem. -/
import Derived.Test.YtdlcglndhhndpaaGreatL41
import Derived.Test.YtdlcglndhhndpaaGreatL27
set_option linter.unusedSimpArgs false
set_option linter.unusedVariables false
set_option maxHeartbeats 8000000
set_option maxRecDepth 100000
namespace Go.Proofs.YtdlcglndhhndpaaGreat
open Go.RowKit
theorem callSame6 {w0 W : World} {L : List Blk} {D : List Hl} {Y Z : Rw} {f q : Rat} (K : St w0 L D W) (hY : isQ Y f) (hZ : isQ Z q) (m1 : (⟨rdP Y.A Y.n Y.c Y.l, rdS Y.A Y.n⟩ : Hl) ∈ D) (m2 : (⟨rdP Y.B Y.m Y.d Y.k, rdS Y.B Y.m⟩ : Hl) ∈ D) (m3 : (⟨rdP Z.A Z.n Z.c Z.l, rdS Z.A Z.n⟩ : Hl) ∈ D) (m4 : (⟨rdP Z.B Z.m Z.d Z.k, rdS Z.B Z.m⟩ : Hl) ∈ D) :
 Calls Tryz.prog 50 #[.agg #[.int .i64 Y.s, .slice Y.A Y.n Y.c, .int .i64 Y.t, .slice Y.B Y.m Y.d], .agg #[.int .i64 Z.s, .slice Z.A Z.n Z.c, .int .i64 Z.t, .slice Z.B Z.m Z.d]] W fun e W' => e = .returned (.bool (decide (f = q))) ∧ St w0 L D W' := by
 have h := gsame_any Y.s Y.t Z.s Z.t Y.A Y.B Z.A Z.B Y.n Y.c Y.m Y.d Z.n Z.c Z.m Z.d Y.l Y.k Z.l Z.k W (K.rd m1) (K.rd m2) (K.rd m3) (K.rd m4)
 have e : sameF Y.s Y.l Y.t Y.k Z.s Z.l Z.t Z.k = decide (f = q) := by
  have h1 : sameF Y.s Y.l Y.t Y.k Z.s Z.l Z.t Z.k = decide (Y.fv = Z.fv) := by
   unfold sameF sameB Rw.fv
   by_cases a1 : Y.s = Z.s ∧ Y.l = Z.l
   · by_cases a2 : Y.t = Z.t ∧ Y.k = Z.k
     · rw [decide_eq_true a1, decide_eq_true a2, decide_eq_true (by rw [a1.1, a1.2, a2.1, a2.2])]
       rfl
     · rw [decide_eq_false a2, decide_eq_false (show ¬ ((⟨Y.s, Y.l, Y.t, Y.k⟩ : Fv) = ⟨Z.s, Z.l, Z.t, Z.k⟩) from fun h => a2 (by injection h with q1 q2 q3 q4; exact ⟨q3, q4⟩)), Bool.and_false]
   · rw [decide_eq_false a1, decide_eq_false (show ¬ ((⟨Y.s, Y.l, Y.t, Y.k⟩ : Fv) = ⟨Z.s, Z.l, Z.t, Z.k⟩) from fun h => a1 (by injection h with q1 q2 q3 q4; exact ⟨q1, q2⟩)), Bool.false_and]
  rw [h1]
  refine decide_eq_decide.2 ⟨fun h => ?_, fun h => by rw [isQ.fv hY, isQ.fv hZ, h]⟩
  rw [isQ.fv hY, isQ.fv hZ] at h
  rw [← fvQ_rat f, h, fvQ_rat]
 rw [e] at h
 exact h.mono fun e W' ⟨he, hb⟩ => ⟨he, K.keep hb⟩
theorem check6_any (N : Int) (A : Option Addr) (n cap : Nat) (l : List Rv) (Ax : Option Addr) (nx cx : Nat) (x : List Fv) (w : World) (hl : RdR w w.heap.size A n cap l) (hx : RdF w w.heap.size Ax nx cx x) :
 Calls Tryz.prog 19 #[.slice A n cap, .int .i64 N, .slice Ax nx cx] w fun e w' => e = .returned (.bool (checkL N l x)) ∧ Below w.heap.size w w' := by
 have hcap := hl.caps
 have hcapx := hx.caps
 have hlen := hl.len
 have hlenx := hx.len
 have HR := Lib.hid (right6_any N A n cap l w hl)
 cases hr : rightL N l
 · rw [hr] at HR
   have HN := Lib.hid (show checkL N l x = false by unfold checkL; rw [hr]; rfl)
   clear hl hx hlen hlenx hr
   have K := St.start w
   go_enter Tryz.func19, Tryz.ntmps19
   go_wp2_with fail
   refine HR.out.mono ?_
   rintro e W ⟨rfl, hb⟩
   replace K := K.keep hb
   clear hb
   go_wp2_with fail
   go_ret
   exact ⟨(by rw [HN.out]; rfl), K.1⟩
 obtain ⟨hN, hn40⟩ := rightL_len hr
 rw [hlen] at hN hn40
 subst hN
 have HRow := Lib.hid (show ∀ (k : Nat) z, l[k]? = some z → rowF (n : Int) z = true from fun k z hz => by
  have h5 := hr
  unfold rightL at h5
  rw [Bool.and_eq_true, List.all_eq_true] at h5
  exact h5.2 z (List.mem_of_getElem? hz))
 have HCk := Lib.hid (show checkL (n : Int) l x = (decide ((x.length : Int) = (n : Int)) && x.all Fv.ok && chkM n (mxR l) (vcL x)) by unfold checkL; rw [hr, hlen, Bool.true_and])
 rw [hr] at HR
 by_cases hnx : (nx : Int) = (n : Int)
 case neg =>
  have HN := Lib.hid (show checkL (n : Int) l x = false by rw [HCk.out, decide_eq_false (by omega)]; rfl)
  clear hl hx hlen hlenx hr
  have K := St.start w
  go_enter Tryz.func19, Tryz.ntmps19
  go_wp2_with fail
  refine HR.out.mono ?_
  rintro e W ⟨rfl, hb⟩
  replace K := K.keep hb
  clear hb
  go_wp2_with fail
  go_ret
  exact ⟨(by rw [HN.out]; rfl), K.1⟩
 have hnx : n = nx := by omega
 subst hnx
 have HL := Lib.hid hl
 have HX := Lib.hid hx
 have Hlenx := Lib.hid hlenx
 have K := St.start w
 clear hl hx hlen hlenx hr
 go_enter Tryz.func19, Tryz.ntmps19
 go_wp2_with fail
 refine HR.out.mono ?_
 rintro e W ⟨rfl, hb⟩
 replace K := K.keep hb
 clear hb HR
 go_wp2_with fail
 go_loopg [7] n (fun gk s7 wr => ∃ (i : Nat), i ≤ n ∧ gk = n - i ∧ s7 = .int .i64 i ∧ Hid (∀ (j : Nat) y, j < i → x[j]? = some y → y.ok = true) ∧ St w [] [] wr)
 case atStart => exact ⟨0, Nat.zero_le _, rfl, rfl, Lib.hid (fun j x h => absurd h (by omega)), K⟩
 case round =>
  clear K
  obtain ⟨i, hi, rfl, rfl, HB, K⟩ := hrel
  by_cases hlti : i < n
  · obtain ⟨ec, ed, B1, p1, q1, B2, p2, q2, y, hA, hbC, hy, ⟨u0, u1, u2, u3⟩, s1, s2⟩ := HX.out.atF hlti
    subst hA
    have hii : (i : Int) < (n : Int) := by omega
    have hi0 : (0 : Int) ≤ (i : Int) := by omega
    have v0 := (K.1.cell (p := ⟨ec, ed + i * 4, none⟩) hbC).trans u0
    have v1 := (K.1.cell (p := ⟨ec, ed + i * 4 + 1, none⟩) hbC).trans u1
    have v2 := (K.1.cell (p := ⟨ec, ed + i * 4 + 2, none⟩) hbC).trans u2
    have v3 := (K.1.cell (p := ⟨ec, ed + i * 4 + 3, none⟩) hbC).trans u3
    have hd1 := s1.caps
    have hd2 := s2.caps
    have hok : rightF y.s y.l y.t y.m = y.ok := rfl
    have HR := Lib.hid (gRight_any y.s y.t B1 B2 p1 q1 p2 q2 y.l y.m wr (s1.up (flat_lasts _) K.1) (s2.up (flat_lasts _) K.1))
    cases hb : y.ok
    · have HN := Lib.hid (show checkL (n : Int) l x = false by
       have : x.all Fv.ok = false := by
        rw [List.all_eq_false]
        exact ⟨y, List.mem_of_getElem? hy, by rw [hb]; decide⟩
       rw [HCk.out, this, Bool.and_false, Bool.false_and])
      rw [hok, hb] at HR
      clear hy u0 u1 u2 u3 s1 s2 HB hok hb
      go_wp2_with fail
      refine HR.out.mono ?_
      rintro e W1 ⟨rfl, hb1⟩
      replace K := K.keep hb1
      clear hb1 HR v0 v1 v2 v3
      go_wp2_with fail
      go_ret
      exact ⟨(by rw [HN.out]; rfl), K.1⟩
    · have HB2 := Lib.hid (show ∀ (j : Nat) z, j < i + 1 → x[j]? = some z → z.ok = true from fun j z hj hz => by
       by_cases e : j = i
       · subst e; rw [hy] at hz; cases hz; exact hb
       · exact HB.out j z (by omega) hz)
      rw [hok, hb] at HR
      clear hy u0 u1 u2 u3 s1 s2 HB hok hb
      go_wp2_with fail
      refine HR.out.mono ?_
      rintro e W1 ⟨rfl, hb1⟩
      replace K := K.keep hb1
      clear hb1 HR v0 v1 v2 v3
      go_wp2_with fail
      go_roundg (n - (i + 1))
      case rel => exact ⟨i + 1, hlti, rfl, by go_num, HB2, K⟩
      case measure => omega
  · have e : n = i := by omega
    subst e
    have HAx := Lib.hid (show x.all Fv.ok = true by
     rw [List.all_eq_true]
     intro y hy
     obtain ⟨m, hm, rfl⟩ := List.mem_iff_getElem.1 hy
     exact HB.out m _ (by have := Hlenx.out; omega) (List.getElem?_eq_getElem hm))
    have HCk2 := Lib.hid (show checkL (n : Int) l x = chkM n (mxR l) (vcL x) by rw [HCk.out, HAx.out, decide_eq_true (by have := Hlenx.out; omega), Bool.true_and, Bool.true_and])
    obtain ⟨vx, hvx, K⟩ := K.fxOld HX.out
    have HQx := Lib.hid (show ∀ j, j < n → isQ (vx j) (vcL x j) from fun j hj => by
     have h1 := hvx j hj
     have h2 : (vx j).fv.ok = true := List.all_eq_true.1 HAx.out _ (List.mem_of_getElem? h1)
     rw [vcL_at h1]
     exact fv_std h2)
    obtain ⟨m0, hm0⟩ : ∃ m0, m0 = mxR l := ⟨_, rfl⟩
    obtain ⟨v0, hv0⟩ : ∃ v0, v0 = vcL x := ⟨_, rfl⟩
    rw [← hm0, ← hv0] at HCk2
    rw [← hv0] at HQx
    have Hm0 := Lib.hid hm0
    clear HB HCk hvx hlti hi hm0 hv0 HX Hlenx HAx
    go_wp2_with fail
    go_loopg [8] n (fun gk s8 wr => ∃ (k : Nat), k ≤ n ∧ gk = n - k ∧ s8 = .int .i64 k ∧ Hid (∀ j, j < k → dotK (m0 j) v0 n = some (m0 j n)) ∧ St w [] [(⟨fxP Ax n cx vx, fxS Ax n vx⟩ : Hl)] wr)
    case atStart => exact ⟨0, Nat.zero_le _, rfl, rfl, Lib.hid (fun j h => absurd h (by omega)), K⟩
    case round =>
     clear K
     obtain ⟨k, hk, rfl, rfl, HA, K⟩ := hrel
     by_cases hlt : k < n
     · obtain ⟨eb, eo, A0, n0, c0, A1, n1, c1, A2, n2, c2, X, hA, hbB, hX, ⟨z0, z1, z2, z3, z4⟩, r0, r1, r2⟩ := HL.out.atR hlt
       subst hA
       have hki : (k : Int) < (n : Int) := by omega
       have hk0 : (0 : Int) ≤ (k : Int) := by omega
       have hc0 := r0.caps
       have hc1 := r1.caps
       have hc2 := r2.caps
       have hF := rowF_parts (HRow.out k X hX)
       have hn0 : n = n0 := by have := hF.1; have := r0.len; omega
       subst hn0
       obtain ⟨u, hu, K⟩ := K.fxOld r0
       have HQu := Lib.hid (show ∀ j, j < n → isQ (u j) (m0 k j) from fun j hj => by
        have h1 := hu j hj
        have h2 : (u j).fv.ok = true := List.all_eq_true.1 hF.2.2 _ (List.mem_of_getElem? h1)
        rw [Hm0.out, mxR_el hX hF.1 h1]
        exact fv_std h2)
       obtain ⟨y, hyy⟩ : ∃ y : Rw, y = ⟨X.b.s, A1, n1, c1, X.b.l, X.b.t, A2, n2, c2, X.b.m⟩ := ⟨_, rfl⟩
       have HQy := Lib.hid (show isQ y (m0 k n) from by
        rw [Hm0.out, mxR_val hX hF.1, hyy]
        exact fv_std hF.2.1)
       have es : X.b.s = y.s ∧ A1 = y.A ∧ n1 = y.n ∧ c1 = y.c ∧ X.b.t = y.t ∧ A2 = y.B ∧ n2 = y.m ∧ c2 = y.d ∧ X.b.l = y.l ∧ X.b.m = y.k := by rw [hyy]; exact ⟨rfl, rfl, rfl, rfl, rfl, rfl, rfl, rfl, rfl, rfl⟩
       replace K := (K.rdOld r1).rdOld r2
       obtain ⟨t1, t2, t3, t4, t5, t6, t7, t8, t9, t10⟩ := es
       rw [t1] at z1
       rw [t2, t3, t4] at z2
       rw [t5] at z3
       rw [t6, t7, t8] at z4
       rw [t2, t3, t4, t6, t7, t8, t9, t10] at K
       obtain ⟨ab, ao, hA⟩ := K.fxAt (A := A0) (n := n) (cap := c0) (v := u) ZMB (by omega)
       obtain ⟨bb, bo, hB⟩ := K.fxAt (A := Ax) (n := n) (cap := cx) (v := vx) ZMB (by omega)
       subst hA hB
       have HSo := Lib.hid (fun V (h : Below w.heap.size w V) => (show V.cell? ⟨eb, eo + k * 5, none⟩ = some (.slice (some ⟨ab, ao, none⟩) n c0) ∧ (V.cell? ⟨eb, eo + k * 5 + 1, none⟩ = some (.int .i64 y.s) ∧ V.cell? ⟨eb, eo + k * 5 + 1 + 1, none⟩ = some (.slice y.A y.n y.c) ∧ V.cell? ⟨eb, eo + k * 5 + 1 + 2, none⟩ = some (.int .i64 y.t) ∧ V.cell? ⟨eb, eo + k * 5 + 1 + 3, none⟩ = some (.slice y.B y.m y.d)) from ⟨(h.cell (p := ⟨eb, eo + k * 5, none⟩) hbB).trans z0, (h.cell (p := ⟨eb, eo + k * 5 + 1, none⟩) hbB).trans z1, (h.cell (p := ⟨eb, eo + k * 5 + 2, none⟩) hbB).trans z2, (h.cell (p := ⟨eb, eo + k * 5 + 3, none⟩) hbB).trans z3, (h.cell (p := ⟨eb, eo + k * 5 + 4, none⟩) hbB).trans z4⟩))
       clear t1 t2 t3 t4 t5 t6 t7 t8 t9 t10 hyy hX z0 z1 z2 z3 z4 r0 r1 r2 hF hu hbB
       have r := trivial
       go_wp2_with fail
       refine (callOf2 K of_01 (by decide +kernel)).mono ?_
       rintro e W1 ⟨z, rfl, gz, k1⟩
       replace K := k1
       clear k1 r
       have r := K.rawS
       go_wp2_with (first | (apply K.alloc; rfl; rfl; exact frac_zero; clear K r; (first | ((fail_if_success revert b0); intro W b0 K) | intro W b K); have r := K.rawS) | (apply K.storeA; rfl; rfl; rfl; rfl; rfl; (exact ZUP); exact frac_size; rfl; rfl; rfl; clear K r; intro W K; have r := K.rawS))
       go_loopg [11] n (fun gk s11 wr => ∃ (j : Nat) (z : Rw) (q : Rat), j ≤ n ∧ gk = n - j ∧ s11 = .int .i64 j ∧ Hid (dotK (m0 k) v0 j = some q) ∧ Hid (isQ z q) ∧ St w [((b0, #[.int .i64 z.s, .slice z.A z.n z.c, .int .i64 z.t, .slice z.B z.m z.d], 50) : Blk)] (⟨rdP z.B z.m z.d z.k, rdS z.B z.m⟩ :: ⟨rdP z.A z.n z.c z.l, rdS z.A z.n⟩ :: ⟨rdP y.B y.m y.d y.k, rdS y.B y.m⟩ :: ⟨rdP y.A y.n y.c y.l, rdS y.A y.n⟩ :: (⟨fxP (some ⟨ab, ao, none⟩) n c0 u, fxS (some ⟨ab, ao, none⟩) n u⟩ : Hl) :: (⟨fxP (some ⟨bb, bo, none⟩) n cx vx, fxS (some ⟨bb, bo, none⟩) n vx⟩ : Hl) :: []) wr)
       case atStart => exact ⟨0, z, 0, Nat.zero_le _, rfl, rfl, Lib.hid rfl, gz, K⟩
       case round =>
        clear K r gz
        obtain ⟨j, z, q, hj, rfl, rfl, HD, HZ, K⟩ := hrel
        by_cases hltj : j < n
        · have hji : (j : Int) < (n : Int) := by omega
          have hj0 : (0 : Int) ≤ (j : Int) := by omega
          have hltd : decide (j < n) = true := decide_eq_true hltj
          have K := (K.fxRd (A := some ⟨ab, ao, none⟩) (cap := c0) (n := n) (v := u) (i := j) ZMB hltj).fxRd (A := some ⟨bb, bo, none⟩) (cap := cx) (n := n) (v := vx) (i := j) ZMB hltj
          have HS := Lib.hid (fun V L5 D5 (h : St w L5 D5 V) (m5 : (⟨fxP (some ⟨ab, ao, none⟩) n c0 u, fxS (some ⟨ab, ao, none⟩) n u⟩ : Hl) ∈ D5) (m6 : (⟨fxP (some ⟨bb, bo, none⟩) n cx vx, fxS (some ⟨bb, bo, none⟩) n vx⟩ : Hl) ∈ D5) => (show V.cell? ⟨eb, eo + k * 5, none⟩ = some (.slice (some ⟨ab, ao, none⟩) n c0) ∧ (V.cell? ⟨ab, ao + j * 4, none⟩ = some (.int .i64 (u j).s) ∧ V.cell? ⟨ab, ao + j * 4 + 1, none⟩ = some (.slice (u j).A (u j).n (u j).c) ∧ V.cell? ⟨ab, ao + j * 4 + 2, none⟩ = some (.int .i64 (u j).t) ∧ V.cell? ⟨ab, ao + j * 4 + 3, none⟩ = some (.slice (u j).B (u j).m (u j).d)) ∧ (V.cell? ⟨bb, bo + j * 4, none⟩ = some (.int .i64 (vx j).s) ∧ V.cell? ⟨bb, bo + j * 4 + 1, none⟩ = some (.slice (vx j).A (vx j).n (vx j).c) ∧ V.cell? ⟨bb, bo + j * 4 + 2, none⟩ = some (.int .i64 (vx j).t) ∧ V.cell? ⟨bb, bo + j * 4 + 3, none⟩ = some (.slice (vx j).B (vx j).m (vx j).d)) from ⟨(HSo.out V h.1).1, h.fxCell m5 hltj, h.fxCell m6 hltj⟩))
          have HMu := Lib.hid (fun V L5 D5 (h : St w L5 D5 V) m1 m2 m3 m4 => callMulG (Y := u j) (Z := vx j) h (HQu.out j hltj) (HQx.out j hltj) m1 m2 m3 m4)
          go_upto_region 15 with fail
          have K0 := K.drew
          have s0 := HS.out _ _ _ K0 ZMB ZMB
          clear K
          refine wp_region_P 17 (fun V => V.cell? ⟨eb, eo + k * 5, none⟩ = some (.slice (some ⟨ab, ao, none⟩) n c0) ∧ (V.cell? ⟨ab, ao + j * 4, none⟩ = some (.int .i64 (u j).s) ∧ V.cell? ⟨ab, ao + j * 4 + 1, none⟩ = some (.slice (u j).A (u j).n (u j).c) ∧ V.cell? ⟨ab, ao + j * 4 + 2, none⟩ = some (.int .i64 (u j).t) ∧ V.cell? ⟨ab, ao + j * 4 + 3, none⟩ = some (.slice (u j).B (u j).m (u j).d)) ∧ (V.cell? ⟨bb, bo + j * 4, none⟩ = some (.int .i64 (vx j).s) ∧ V.cell? ⟨bb, bo + j * 4 + 1, none⟩ = some (.slice (vx j).A (vx j).n (vx j).c) ∧ V.cell? ⟨bb, bo + j * 4 + 2, none⟩ = some (.int .i64 (vx j).t) ∧ V.cell? ⟨bb, bo + j * 4 + 3, none⟩ = some (.slice (vx j).B (vx j).m (vx j).d))) (by kernel_rfl) s0 (fun hSh => ?_)
          clear s0
          generalize World.drew wr = V0 at K0 hSh ⊢
          refine wpAnyP.tkU 0 rfl ?_
          refine wpAnyP.tkU 1 rfl ?_
          refine wpAnyP.tkU 2 rfl ?_
          refine wpAnyP.tkU 3 rfl ?_
          refine wpAnyP.tk 4 rfl ?_
          refine wpAnyP.tkU 5 rfl ?_
          refine wpAnyP.tkU 6 rfl ?_
          refine wpAnyP.tk 7 rfl ?_
          refine wpAnyP.tkU 8 rfl ?_
          refine wpAnyP.tkU 9 rfl ?_
          refine wpAnyP.tkU 10 rfl ?_
          refine wpAnyP.tk 11 rfl ?_
          refine wpAnyP.two (i := 12) (j := 16) rfl rfl rfl rfl (by kernel_rfl) (fun KK hKK => ?_) (fun KK hKK => ?_)
          focus
           go_simp
           go_at_call 55
           refine (HMu.out _ _ _ K0 ZMB ZMB ZMB ZMB).mono ?_
           rintro e V1 ⟨y1, er1, rfl, gy1, k1⟩
           go_wp2_with fail
           refine hKK.out _ _ (fun _ => HS.out _ _ _ k1 ZMB ZMB) (fun hSq => ?_)
           have hSh := HS.out _ _ _ k1 ZMB ZMB
           clear hKK KK hSq
           refine ZPT ?_
           refine wpAnyP.tkU 13 rfl ?_
           refine wpAnyP.tkU 14 rfl ?_
           refine wpAnyP.tkU 15 rfl ?_
           refine wpAnyP.on 16 rfl fun KK hKK => ?_
           go_simp
           have k2 := k1.new #[.int .i64 0, .slice none 0 0, .int .i64 0, .slice none 0 0] 50
           generalize V1.alloc (.cells #[.int .i64 0, .slice none 0 0, .int .i64 0, .slice none 0 0] 50) = V2 at k2 ⊢
           generalize V1.heap.size = g9 at k2 ⊢
           refine hKK.out _ _ (fun _ => HS.out _ _ _ k2 ZMB ZMB) (fun hSq => ?_)
           have hSh := HS.out _ _ _ k2 ZMB ZMB
           clear hKK KK hSq
           refine ZPT ?_
           have kz := k2
           clear k2 k1
          rotate_right
          focus
           go_simp
           have k1 := K0.new #[.int .i64 0, .slice none 0 0, .int .i64 0, .slice none 0 0] 50
           generalize V0.alloc (.cells #[.int .i64 0, .slice none 0 0, .int .i64 0, .slice none 0 0] 50) = V1 at k1 ⊢
           generalize V0.heap.size = g9 at k1 ⊢
           refine hKK.out _ _ (fun _ => HS.out _ _ _ k1 ZMB ZMB) (fun hSq => ?_)
           have hSh := HS.out _ _ _ k1 ZMB ZMB
           clear hKK KK hSq
           refine ZPT ?_
           refine wpAnyP.on 12 rfl fun KK hKK => ?_
           go_simp
           go_at_call 55
           refine (HMu.out _ _ _ k1 ZMB ZMB ZMB ZMB).mono ?_
           rintro e V2 ⟨y1, er1, rfl, gy1, k2⟩
           go_wp2_with fail
           refine hKK.out _ _ (fun _ => HS.out _ _ _ k2 ZMB ZMB) (fun hSq => ?_)
           have hSh := HS.out _ _ _ k2 ZMB ZMB
           clear hKK KK hSq
           refine ZPT ?_
           refine wpAnyP.tkU 13 rfl ?_
           refine wpAnyP.tkU 14 rfl ?_
           refine wpAnyP.tkU 15 rfl ?_
           have kz := k2
           clear k2 k1
          all_goals
           refine wpAnyP.onF 17 rfl fun KK hKK => ?_
           have r := kz.rawS
           have zz := kz.thaw (g := g9) (cs := #[.int .i64 0, .slice none 0 0, .int .i64 0, .slice none 0 0]) (t := 50) ZMB
           go_simp
           have K9 := kz.set4Z (b := g9) (t := 50) (x0 := .int .i64 0) (x1 := .slice none 0 0) (x2 := .int .i64 0) (x3 := .slice none 0 0) (u0 := .int .i64 y1.s) (u1 := .slice y1.A y1.n y1.c) (u2 := .int .i64 y1.t) (u3 := .slice y1.B y1.m y1.d) (Upd.head _)
           refine hKK.out _ _ ?_
           clear hKK KK r zz
           refine ZPT ?_
           refine wpAnyP.tkF 18 rfl ?_
           refine ⟨by kernel_rfl, ?_⟩
           generalize ((((V2.setCell ⟨g9, 0, none⟩ (.int .i64 y1.s)).setCell ⟨g9, 1, none⟩ (.slice y1.A y1.n y1.c)).setCell ⟨g9, 2, none⟩ (.int .i64 y1.t)).setCell ⟨g9, 3, none⟩ (.slice y1.B y1.m y1.d)) = W9 at K9 ⊢
           clear kz hSh HS HMu
           have K := K9
           clear K9
           have r := K.rawS
           by_cases he : er1 = 0
           · subst he
             have gz1 := Lib.hid (gy1.out.1 rfl)
             have HM := Lib.hid (show mulK (m0 k j) (v0 j) = true from by simpa using gy1.out.2)
             clear gy1
             go_wp2_with (first | (apply K.alloc; rfl; rfl; exact frac_zero; clear K r; (first | ((fail_if_success revert b0); intro W b0 K) | intro W b K); have r := K.rawS) | (apply K.storeA; rfl; rfl; rfl; rfl; rfl; (exact ZUP); exact frac_size; rfl; rfl; rfl; clear K r; intro W K; have r := K.rawS))
             refine (callAddG K HZ.out gz1.out ZMB ZMB ZMB ZMB).mono ?_
             rintro e V8 ⟨y2, er2, rfl, gy2, k8⟩
             replace K := k8
             clear k8 r gz1
             have r := K.rawS
             by_cases he2 : er2 = 0
             · subst he2
               have HZ2 := Lib.hid (gy2.out.1.1 rfl)
               have HD2 := Lib.hid (show dotK (m0 k) v0 (j + 1) = some (q + m0 k j * v0 j) from by
                have h := gy2.out.1.2
                rw [dotK_step _ _ _ _ HD.out, HM.out, Bool.true_and, if_pos (by simpa using h)])
               clear gy2 HZ HD HM
               go_wp2_with (first | (apply K.alloc; rfl; rfl; exact frac_zero; clear K r; (first | ((fail_if_success revert b0); intro W b0 K) | intro W b K); have r := K.rawS) | (apply K.storeA; rfl; rfl; rfl; rfl; rfl; (exact ZUP); exact frac_size; rfl; rfl; rfl; clear K r; intro W K; have r := K.rawS))
               go_roundg (n - (j + 1))
               case rel => exact ⟨j + 1, y2, _, hltj, rfl, by go_num, HD2, HZ2, (K.lessS (D' := ⟨rdP y2.B y2.m y2.d y2.k, rdS y2.B y2.m⟩ :: ⟨rdP y2.A y2.n y2.c y2.l, rdS y2.A y2.n⟩ :: ⟨rdP y.B y.m y.d y.k, rdS y.B y.m⟩ :: ⟨rdP y.A y.n y.c y.l, rdS y.A y.n⟩ :: (⟨fxP (some ⟨ab, ao, none⟩) n c0 u, fxS (some ⟨ab, ao, none⟩) n u⟩ : Hl) :: (⟨fxP (some ⟨bb, bo, none⟩) n cx vx, fxS (some ⟨bb, bo, none⟩) n vx⟩ : Hl) :: []) (by repeat (first | with_reducible exact List.Sublist.refl _ | with_reducible apply List.Sublist.cons_cons | with_reducible apply List.Sublist.cons))).part (L' := [((b0, #[.int .i64 y2.s, .slice y2.A y2.n y2.c, .int .i64 y2.t, .slice y2.B y2.m y2.d], 50) : Blk)]) (by repeat (first | with_reducible exact List.Sublist.refl _ | with_reducible apply List.Sublist.cons_cons | with_reducible apply List.Sublist.cons))⟩
               case measure => omega
             · have hx2 : (er2 != 0) = true := by simpa using he2
               have HN := Lib.hid (show checkL (n : Int) l x = false from by
                rw [HCk2.out]
                refine chk_no hlt ?_
                have h := gy2.out.1.2
                rw [hx2] at h
                rw [dotK_none (k := j + 1) (by rw [dotK_step _ _ _ _ HD.out, HM.out, Bool.true_and, if_neg (by simpa using h)]) (by omega)]
                exact fun h => by cases h)
               clear gy2 HZ HD HM
               go_wp2_with (first | (apply K.alloc; rfl; rfl; exact frac_zero; clear K r; (first | ((fail_if_success revert b0); intro W b0 K) | intro W b K); have r := K.rawS) | (apply K.storeA; rfl; rfl; rfl; rfl; rfl; (exact ZUP); exact frac_size; rfl; rfl; rfl; clear K r; intro W K; have r := K.rawS))
               go_ret
               exact ⟨(by rw [HN.out]; rfl), K.1⟩
           · have hx1 : (er1 != 0) = true := by simpa using he
             have HN := Lib.hid (show checkL (n : Int) l x = false from by
              rw [HCk2.out]
              refine chk_no hlt ?_
              have h := gy1.out.2
              rw [hx1] at h
              have h2 : mulK (m0 k j) (v0 j) = false := by simpa using h
              rw [dotK_none (k := j + 1) (by rw [dotK_step _ _ _ _ HD.out, h2, Bool.false_and, if_neg (by decide)]) (by omega)]
              exact fun h => by cases h)
             clear gy1 HZ HD
             go_wp2_with (first | (apply K.alloc; rfl; rfl; exact frac_zero; clear K r; (first | ((fail_if_success revert b0); intro W b0 K) | intro W b K); have r := K.rawS) | (apply K.storeA; rfl; rfl; rfl; rfl; rfl; (exact ZUP); exact frac_size; rfl; rfl; rfl; clear K r; intro W K; have r := K.rawS))
             go_ret
             exact ⟨(by rw [HN.out]; rfl), K.1⟩
        · have e : n = j := by omega
          subst e
          have hltd : decide (n < n) = false := decide_eq_false hltj
          have HSa := Lib.hid (fun V L5 D5 (h : St w L5 D5 V) m1 m2 m3 m4 => callSame6 (Y := z) (Z := y) h HZ.out HQy.out m1 m2 m3 m4)
          go_upto_region 22 with fail
          have HS := Lib.hid (fun V L5 D5 (h : St w L5 D5 V) (m5 : ((b0, #[.int .i64 z.s, .slice z.A z.n z.c, .int .i64 z.t, .slice z.B z.m z.d], 50) : Blk) ∈ L5) => (show (V.cell? ⟨b0, 0, none⟩ = some (.int .i64 z.s) ∧ V.cell? ⟨b0, 0 + 1, none⟩ = some (.slice z.A z.n z.c) ∧ V.cell? ⟨b0, 0 + 2, none⟩ = some (.int .i64 z.t) ∧ V.cell? ⟨b0, 0 + 3, none⟩ = some (.slice z.B z.m z.d)) ∧ (V.cell? ⟨eb, eo + k * 5 + 1, none⟩ = some (.int .i64 y.s) ∧ V.cell? ⟨eb, eo + k * 5 + 1 + 1, none⟩ = some (.slice y.A y.n y.c) ∧ V.cell? ⟨eb, eo + k * 5 + 1 + 2, none⟩ = some (.int .i64 y.t) ∧ V.cell? ⟨eb, eo + k * 5 + 1 + 3, none⟩ = some (.slice y.B y.m y.d)) from ⟨⟨(h.blk m5).cell (j := 0) rfl, (h.blk m5).cell (j := 1) rfl, (h.blk m5).cell (j := 2) rfl, (h.blk m5).cell (j := 3) rfl⟩, (HSo.out V h.1).2⟩))
          have K0 := K.drew
          have s0 := HS.out _ _ _ K0 ZMB
          clear K
          refine wp_region_T 100 (fun V => (V.cell? ⟨b0, 0, none⟩ = some (.int .i64 z.s) ∧ V.cell? ⟨b0, 0 + 1, none⟩ = some (.slice z.A z.n z.c) ∧ V.cell? ⟨b0, 0 + 2, none⟩ = some (.int .i64 z.t) ∧ V.cell? ⟨b0, 0 + 3, none⟩ = some (.slice z.B z.m z.d)) ∧ (V.cell? ⟨eb, eo + k * 5 + 1, none⟩ = some (.int .i64 y.s) ∧ V.cell? ⟨eb, eo + k * 5 + 1 + 1, none⟩ = some (.slice y.A y.n y.c) ∧ V.cell? ⟨eb, eo + k * 5 + 1 + 2, none⟩ = some (.int .i64 y.t) ∧ V.cell? ⟨eb, eo + k * 5 + 1 + 3, none⟩ = some (.slice y.B y.m y.d))) (by kernel_rfl) s0 (fun hSh => ?_)
          clear s0
          refine wpAnyT.tkA 0 rfl ?_
          refine wpAnyT.tkA 1 rfl ?_
          refine wpAnyT.tkA 2 rfl ?_
          refine wpAnyT.tkA 3 rfl ?_
          refine wpAnyT.tkA 4 rfl ?_
          refine wpAnyT.tkA 5 rfl ?_
          refine wpAnyT.on 6 rfl fun KK hKK => ?_
          go_simp
          go_at_call 50; refine (HSa.out _ _ _ K0 ZMB ZMB ZMB ZMB).mono ?_; rintro e w6 ⟨rfl, k6⟩
          go_wp2_with fail
          refine hKK.out _ _ ?_ (fun hSh => ?_)
          · exact HS.out _ _ _ k6 ZMB
          clear hKK KK
          refine ZPT ?_
          have HK := Lib.hid ((k6.lessS (D' := [(⟨fxP (some ⟨bb, bo, none⟩) n cx vx, fxS (some ⟨bb, bo, none⟩) n vx⟩ : Hl)]) (by repeat (first | with_reducible exact List.Sublist.refl _ | with_reducible apply List.Sublist.cons_cons | with_reducible apply List.Sublist.cons))).part (L' := []) (List.nil_sublist _))
          clear HSa HS K0 HZ
          by_cases hqe : q = m0 k n
          · rw [decide_eq_true hqe]
            have HA2 := Lib.hid (show ∀ j, j < k + 1 → dotK (m0 j) v0 n = some (m0 j n) from fun j hj => by
             by_cases e : j = k
             · rw [e, HD.out, hqe]
             · exact HA.out j (by omega))
            clear HA HD hqe
            refine wpAnyT.tkA 7 rfl ?_
            refine wpAnyT.done (by kernel_rfl) ?_
            clear hSh
            go_wp2_with fail
            go_roundg (n - (k + 1))
            case rel => exact ⟨k + 1, hlt, rfl, by go_num, HA2, HK.out⟩
            case measure => omega
          · rw [decide_eq_false hqe]
            have HN := Lib.hid (show checkL (n : Int) l x = false from by
             rw [HCk2.out]
             refine chk_no hlt ?_
             rw [HD.out]
             exact fun h => hqe (Option.some.inj h))
            clear HA HD hqe
            refine wpAnyT.tkA 7 rfl ?_
            refine wpAnyT.done (by kernel_rfl) ?_
            clear hSh
            go_wp2_with fail
            go_ret
            exact ⟨(by rw [HN.out]; rfl), HK.out.1⟩
     · have e : n = k := by omega
       subst e
       have HY := Lib.hid (show checkL (n : Int) l x = true from by rw [HCk2.out]; exact chk_all HA.out)
       have hltd : decide (n < n) = false := decide_eq_false hlt
       clear HA hlt
       go_wp2_with fail
       go_ret
       exact ⟨by rw [HY.out]; rfl, K.1⟩
end Go.Proofs.YtdlcglndhhndpaaGreat
