/- Laws and walks; conditions stand in each theorem. -/
import Derived.Test.YtdlcglndhhndpaaGreatL30
import Derived.Test.YtdlcglndhhndpaaGreatL39
import Derived.Test.YtdlcglndhhndpaaGreatL18
set_option linter.unusedSimpArgs false
set_option linter.unusedVariables false
set_option maxHeartbeats 4000000
set_option maxRecDepth 100000
namespace Go.Proofs.YtdlcglndhhndpaaGreat
open Go.RowKit
theorem ZL42 {p : Prop} (h : p := by
 first
  | (have HN := Lib.hid (show rightL N l = false by unfold rightL; rw [decide_eq_false (by omega)]; rfl)
     clear hlen
     go_enter Tryz.func16, Tryz.ntmps16
     go_wp2_with fail
     go_ret
     exact ⟨by rw [HN.out]; rfl, K.1⟩)
  | fail) : p := h
theorem row_bad {N : Int} {l : List Rv} {k : Nat} {x : Rv} (hx : l[k]? = some x) (h : rowF N x = false) : rightL N l = false := by
 unfold rightL
 rw [Bool.and_eq_false_iff]
 right
 rw [List.all_eq_false]
 exact ⟨x, List.mem_of_getElem? hx, by rw [h]; decide⟩
theorem right6_any (N : Int) (A : Option Addr) (n cap : Nat) (l : List Rv) (w : World) (hl : RdR w w.heap.size A n cap l) :
 Calls Tryz.prog 16 #[.slice A n cap, .int .i64 N] w fun e w' => e = .returned (.bool (rightL N l)) ∧ Below w.heap.size w w' := by
 have hcap := hl.caps
 have hlen := hl.len
 have HL := Lib.hid hl
 have K := St.start w
 clear hl
 by_cases h1 : N < 0
 · exact ZL42
 by_cases h2 : N > 40
 · exact ZL42
 by_cases h3 : (n : Int) = N
 case neg =>
  exact ZL42
 subst h3
 have Hlen := Lib.hid hlen
 clear hlen
 go_enter Tryz.func16, Tryz.ntmps16
 go_wp2_with fail
 go_loopg [5] n (fun gk s5 wr => ∃ (k : Nat), k ≤ n ∧ gk = n - k ∧ s5 = .int .i64 k ∧ Hid (∀ (j : Nat) x, j < k → l[j]? = some x → rowF (n : Int) x = true) ∧ St w [] [] wr)
 case atStart => exact ⟨0, Nat.zero_le _, rfl, rfl, Lib.hid (fun j x h => absurd h (by omega)), K⟩
 case round =>
  clear K
  obtain ⟨k, hk, rfl, rfl, HA, K⟩ := hrel
  by_cases hlt : k < n
  · obtain ⟨eb, eo, A0, n0, c0, A1, n1, c1, A2, n2, c2, x, hA, hbB, hx, ⟨z0, z1, z2, z3, z4⟩, r0, r1, r2⟩ := HL.out.atR hlt
    subst hA
    have hki : (k : Int) < (n : Int) := by omega
    have hk0 : (0 : Int) ≤ (k : Int) := by omega
    have y0 := (K.1.cell (p := ⟨eb, eo + k * 5, none⟩) hbB).trans z0
    have y1 := (K.1.cell (p := ⟨eb, eo + k * 5 + 1, none⟩) hbB).trans z1
    have y2 := (K.1.cell (p := ⟨eb, eo + k * 5 + 2, none⟩) hbB).trans z2
    have y3 := (K.1.cell (p := ⟨eb, eo + k * 5 + 3, none⟩) hbB).trans z3
    have y4 := (K.1.cell (p := ⟨eb, eo + k * 5 + 4, none⟩) hbB).trans z4
    have hc0 := r0.caps
    have hc1 := r1.caps
    have hc2 := r2.caps
    have hlx := r0.len
    by_cases hnn : n0 = n
    case neg =>
     have HN := Lib.hid (row_bad (N := (n : Int)) hx (by unfold rowF; rw [decide_eq_false (by omega)]; rfl))
     have hne : ¬ (n0 : Int) = (n : Int) := by omega
     clear hx z0 z1 z2 z3 z4 r0 r1 r2 HA hlx
     go_wp2_with fail
     go_ret
     exact ⟨by rw [HN.out]; rfl, K.1⟩
    have hnn := hnn.symm
    subst hnn
    have hok : rightF x.b.s x.b.l x.b.t x.b.m = x.b.ok := rfl
    have HR := Lib.hid (gRight_any x.b.s x.b.t A1 A2 n1 c1 n2 c2 x.b.l x.b.m wr (r1.up (flat_lasts _) K.1) (r2.up (flat_lasts _) K.1))
    cases hb : x.b.ok
    case false =>
     have HN := Lib.hid (row_bad (N := (n : Int)) hx (by unfold rowF; rw [hb, Bool.and_false, Bool.false_and]))
     rw [hok, hb] at HR
     clear hx z0 z1 z2 z3 z4 r0 r1 r2 HA hlx hok hb
     go_wp2_with fail
     refine HR.out.mono ?_
     rintro e W1 ⟨rfl, hb1⟩
     replace K := K.keep hb1
     clear hb1 HR y0 y1 y2 y3 y4
     go_wp2_with fail
     go_ret
     exact ⟨by rw [HN.out]; rfl, K.1⟩
    rw [hok, hb] at HR
    have Hb := Lib.hid hb
    have Hx := Lib.hid hx
    have Hlx := Lib.hid hlx
    have HX := Lib.hid r0
    have Hz0 := Lib.hid (fun V (h : Below w.heap.size w V) => (h.cell (p := ⟨eb, eo + k * 5, none⟩) hbB).trans z0)
    clear hx z0 z1 z2 z3 z4 r0 r1 r2 hlx hok hb hbB
    go_wp2_with fail
    refine HR.out.mono ?_
    rintro e W1 ⟨rfl, hb1⟩
    replace K := K.keep hb1
    clear hb1 HR y0 y1 y2 y3 y4
    go_wp2_with fail
    go_loopg [6] n (fun gk s6 wi => ∃ (i : Nat), i ≤ n ∧ gk = n - i ∧ s6 = .int .i64 i ∧ Hid (∀ (j : Nat) y, j < i → x.a[j]? = some y → y.ok = true) ∧ St w [] [] wi)
    case atStart => exact ⟨0, Nat.zero_le _, rfl, rfl, Lib.hid (fun j x h => absurd h (by omega)), K⟩
    case round =>
     clear K
     obtain ⟨i, hi, rfl, rfl, HB, K⟩ := hrel
     by_cases hlti : i < n
     · obtain ⟨ec, ed, B1, p1, q1, B2, p2, q2, y, hA, hbC, hy, ⟨u0, u1, u2, u3⟩, s1, s2⟩ := HX.out.atF hlti
       subst hA
       have hii : (i : Int) < (n : Int) := by omega
       have hi0 : (0 : Int) ≤ (i : Int) := by omega
       have y0 := Hz0.out _ K.1
       have v0 := (K.1.cell (p := ⟨ec, ed + i * 4, none⟩) hbC).trans u0
       have v1 := (K.1.cell (p := ⟨ec, ed + i * 4 + 1, none⟩) hbC).trans u1
       have v2 := (K.1.cell (p := ⟨ec, ed + i * 4 + 2, none⟩) hbC).trans u2
       have v3 := (K.1.cell (p := ⟨ec, ed + i * 4 + 3, none⟩) hbC).trans u3
       have hd1 := s1.caps
       have hd2 := s2.caps
       have hok : rightF y.s y.l y.t y.m = y.ok := rfl
       have HR := Lib.hid (gRight_any y.s y.t B1 B2 p1 q1 p2 q2 y.l y.m wr (s1.up (flat_lasts _) K.1) (s2.up (flat_lasts _) K.1))
       cases hb : y.ok
       · have HN := Lib.hid (row_bad (N := (n : Int)) Hx.out (by
          unfold rowF
          rw [Bool.and_eq_false_iff]
          right
          rw [List.all_eq_false]
          exact ⟨y, List.mem_of_getElem? hy, by rw [hb]; decide⟩))
         rw [hok, hb] at HR
         clear hy u0 u1 u2 u3 s1 s2 HA HB hok hb
         go_wp2_with fail
         refine HR.out.mono ?_
         rintro e W1 ⟨rfl, hb1⟩
         replace K := K.keep hb1
         clear hb1 HR y0 v0 v1 v2 v3
         go_wp2_with fail
         go_ret
         exact ⟨by rw [HN.out]; rfl, K.1⟩
       · have HB2 := Lib.hid (show ∀ (j : Nat) z, j < i + 1 → x.a[j]? = some z → z.ok = true from fun j z hj hz => by
          by_cases e : j = i
          · subst e; rw [hy] at hz; cases hz; exact hb
          · exact HB.out j z (by omega) hz)
         rw [hok, hb] at HR
         clear hy u0 u1 u2 u3 s1 s2 HB hok hb
         go_wp2_with fail
         refine HR.out.mono ?_
         rintro e W1 ⟨rfl, hb1⟩
         replace K := K.keep hb1
         clear hb1 HR y0 v0 v1 v2 v3
         go_wp2_with fail
         go_roundg (n - (i + 1))
         case rel => exact ⟨i + 1, hlti, rfl, by go_num, HB2, K⟩
         case measure => omega
     · have e : i = n := by omega
       subst e
       have HA2 := Lib.hid (show ∀ (j : Nat) z, j < k + 1 → l[j]? = some z → rowF (i : Int) z = true from fun j z hj hz => by
        by_cases e : j = k
        · subst e
          rw [Hx.out] at hz
          cases hz
          unfold rowF
          rw [decide_eq_true (by have := Hlx.out; omega), Hb.out, Bool.true_and, Bool.true_and, List.all_eq_true]
          intro y hy
          obtain ⟨m, hm, rfl⟩ := List.mem_iff_getElem.1 hy
          exact HB.out m _ (by have := Hlx.out; omega) (List.getElem?_eq_getElem hm)
        · exact HA.out j z (by omega) hz)
       clear HB HA
       go_wp2_with fail
       go_roundg (i - (k + 1))
       case rel => exact ⟨k + 1, hlt, rfl, by go_num, HA2, K⟩
       case measure => omega
  · have e : k = n := by omega
    subst e
    have HY := Lib.hid (show rightL (k : Int) l = true by
     unfold rightL
     rw [decide_eq_true (by have := Hlen.out; omega), Bool.true_and, List.all_eq_true]
     intro x hx
     obtain ⟨m, hm, rfl⟩ := List.mem_iff_getElem.1 hx
     exact HA.out m _ (by have := Hlen.out; omega) (List.getElem?_eq_getElem hm))
    clear HA
    go_wp2_with fail
    go_ret
    exact ⟨by rw [HY.out]; rfl, K.1⟩
theorem solve6_any (N : Int) (A : Option Addr) (n cap : Nat) (l : List Rv) (w : World) (hl : RdR w w.heap.size A n cap l) :
 Calls Tryz.prog 10 #[.slice A n cap, .int .i64 N] w (LstE w (solL N l).1 (solL N l).2) := by
 have hlen := hl.len
 have hcap := hl.caps
 have HR := Lib.hid (right6_any N A n cap l w hl)
 cases hr : rightL N l
 · rw [hr] at HR
   have HE := Lib.hid (fun W (h : Below w.heap.size w W) => (⟨none, 0, by unfold solL; rw [hr]; rfl, by unfold solL; rw [hr]; exact Rd.nil, h⟩ : LstE w (solL N l).1 (solL N l).2 (.returned (.tuple #[.slice none 0 0, .int .i64 1])) W))
   clear hl hlen hr
   go_enter Tryz.func10, Tryz.ntmps10
   go_wp2_with fail
   refine HR.out.mono ?_
   rintro e W ⟨rfl, hb⟩
   have HX := Lib.hid (HE.out W hb)
   clear HE hb
   go_wp2
   exact bodyPost_ret (v := .tuple #[.slice none 0 0, .int .i64 1]) (by simp [results, Tryz.results10, go_sem]) rfl HX.out
 · obtain ⟨hN, hn40⟩ := rightL_len hr
   rw [hlen] at hN hn40
   subst hN
   rw [hr] at HR
   have HL := Lib.hid (fun W (h : Below w.heap.size w W) => elim6_any A n cap l true W (hl.up rE_lasts h) hr)
   have HSo := Lib.hid (show solL (n : Int) l = solM1 n (elimF n true n (mxR l) []) from by unfold solL; rw [if_pos hr, hlen])
   rw [HSo.out]
   clear hl hlen hr HSo
   generalize mxR l = m0 at *
   obtain ⟨R, hR⟩ : ∃ R, R = solM1 n (elimF n true n m0 []) := ⟨_, rfl⟩
   rw [← hR]
   have HRR := Lib.hid hR
   clear hR
   go_enter Tryz.func10, Tryz.ntmps10
   go_wp2_with fail
   refine HR.out.mono ?_
   rintro e W ⟨rfl, hb⟩
   go_wp2_with fail
   refine (HL.out W hb).mono ?_
   rintro e W' ⟨A', cc, Af, cf, b, fr, m', rfl, hb2, hfr, hB1, hB2⟩
   have hb3 := hb.trans (hb2.mono hb.size)
   have hcf := hfr.caps
   obtain ⟨fl, hfl⟩ : ∃ fl, fl = fr.length := ⟨_, rfl⟩
   rw [← hfl] at hcf ⊢
   have Hb3 := Lib.hid hb3
   cases b
   · have hRe : R = ([], 6) := by rw [HRR.out, hB1 rfl]; rfl
     have HX := Lib.hid (show LstE w R.1 R.2 _ _ from by rw [hRe]; exact ⟨none, 0, rfl, Rd.nil, Hb3.out⟩ : LstE w R.1 R.2 (.returned (.tuple #[.slice none 0 0, .int .i64 6])) W')
     clear hfr hB1 hB2 hfl hb hb2 hb3 HRR hRe HR HL
     go_wp2
     exact bodyPost_ret (v := .tuple #[.slice none 0 0, .int .i64 6]) (by simp [results, Tryz.results10, go_sem]) rfl HX.out
   · obtain ⟨he, hf, hrd⟩ := hB2 rfl
     have HRd := Lib.hid hrd
     have hcc := hrd.caps
     cases fr with
     | nil =>
      have hfl0 : fl = 0 := hfl
      subst hfl0
      have hRe : R = (ofF n fun i => fvQ (m' i n), 0) := by rw [HRR.out, he]; rfl
      have HRe := Lib.hid hRe
      clear hfr hB1 hB2 hfl he hf hrd hb hb2 hb3 HRR hRe HR HL
      go_wp2_with fail
      go_loopg [9, 10] n (fun gk s8 s35 wr => ∃ (k : Nat) (u : Nat → Rw) (X : List Blk), k ≤ n ∧ gk = n - k ∧ s35 = .int .i64 k ∧ Hid (∀ j, j < k → (u j).fv = fvQ (m' j n)) ∧ OwL 4 Rw.cs 50 s8 (ofF k u) X ∧ St W' (X ++ []) [⟨rwP k u, rwS k u⟩] wr)
      case atStart => exact ⟨0, fun _ => Rw.zero, [], Nat.zero_le _, rfl, rfl, Lib.hid (fun j h => absurd h (by omega)), OwL.nil, (St.start W').rwNew 0⟩
      case round =>
       obtain ⟨k, u, X, hk, rfl, rfl, HV, ho, K⟩ := hrel
       by_cases hlt : k < n
       · obtain ⟨gb, goff, A1, n1, c1, A2, n2, c2, B2, m2, d2, y5, hA, hbB, hX, ⟨z0, z1, z2, z3, z4⟩, r0, r1, r2⟩ := HRd.out.atR hlt
         subst hA
         rw [ofF_get hlt] at hX
         obtain ⟨y, hyy⟩ : ∃ y, y = y5.b := ⟨_, rfl⟩
         have hyv : y = fvQ (m' k n) := by
          rw [hyy, ← Option.some.inj hX]
          rfl
         rw [← hyy] at z1 z3 r1 r2
         have e0 := (K.1.cell (p := ⟨gb, goff + k * 5, none⟩) hbB).trans z0
         have e1 := (K.1.cell (p := ⟨gb, goff + k * 5 + 1, none⟩) hbB).trans z1
         have e2 := (K.1.cell (p := ⟨gb, goff + k * 5 + 2, none⟩) hbB).trans z2
         have e3 := (K.1.cell (p := ⟨gb, goff + k * 5 + 3, none⟩) hbB).trans z3
         have e4 := (K.1.cell (p := ⟨gb, goff + k * 5 + 4, none⟩) hbB).trans z4
         have hki : (k : Int) < (n : Int) := by omega
         have hk0 : (0 : Int) ≤ (k : Int) := by omega
         have hcp1 := r1.caps
         have hcp2 := r2.caps
         have hcp3 := r0.caps
         have Hr1 := Lib.hid r1
         have Hr2 := Lib.hid r2
         have HV2 := Lib.hid (show ∀ j, j < k + 1 → (putF u k (⟨y.s, A2, n2, c2, y.l, y.t, B2, m2, d2, y.m⟩ : Rw) j).fv = fvQ (m' j n) from fun j hj => by
          by_cases e : j = k
          · subst e; rw [putF_same, ← hyv]; rfl
          · rw [putF_other e]; exact HV.out j (by omega))
         clear hyv hyy hX z0 z1 z2 z3 z4 r0 r1 r2 hbB HV
         exact ZL30
       · have e : n = k := by omega
         subst e
         obtain ⟨Ao, co, hv, hro⟩ := ho.rdF K ZMB (by omega)
         subst hv
         rw [ofF_congr HV.out] at hro
         have HX := Lib.hid (show LstE w R.1 R.2 (.returned (.tuple #[.slice Ao n co, .int .i64 0])) wr from by
          exact ZL69)
         clear ho K hro HV
         go_wp2
         exact bodyPost_ret (v := .tuple #[.slice Ao n co, .int .i64 0]) (by simp [results, Tryz.results10, go_sem]) rfl HX.out
     | cons c fr =>
      have hfl0 : 0 < fl := by rw [hfl]; simp
      have hRe : R = ([], 16) := by rw [HRR.out, he]; rfl
      have HX := Lib.hid (show LstE w R.1 R.2 _ _ from by rw [hRe]; exact ⟨none, 0, rfl, Rd.nil, Hb3.out⟩ : LstE w R.1 R.2 (.returned (.tuple #[.slice none 0 0, .int .i64 16])) W')
      clear hfr hB1 hB2 hfl he hf hrd hb hb2 hb3 HRR hRe HR HL
      go_wp2
      exact bodyPost_ret (v := .tuple #[.slice none 0 0, .int .i64 16]) (by simp [results, Tryz.results10, go_sem]) rfl HX.out
theorem rank6_any (N : Int) (A : Option Addr) (n cap : Nat) (l : List Rv) (w : World) (hl : RdR w w.heap.size A n cap l) :
 Calls Tryz.prog 14 #[.slice A n cap, .int .i64 N] w fun e w' => e = .returned (.tuple #[.int .i64 (rankL N l).1, .int .i64 (rankL N l).2]) ∧ Below w.heap.size w w' := by
 have hlen := hl.len
 have hcap := hl.caps
 have HR := Lib.hid (right6_any N A n cap l w hl)
 cases hr : rightL N l
 · rw [hr] at HR
   have hRe : rankL N l = (0, 1) := by unfold rankL; rw [hr]; rfl
   rw [hRe]
   clear hl hlen hr hRe
   go_enter Tryz.func14, Tryz.ntmps14
   go_wp2_with fail
   refine HR.out.mono ?_
   rintro e W ⟨rfl, hb⟩
   go_wp2
   exact bodyPost_ret (v := .tuple #[.int .i64 0, .int .i64 1]) (by simp [results, Tryz.results14, go_sem]) rfl ⟨rfl, hb⟩
 · obtain ⟨hN, hn40⟩ := rightL_len hr
   rw [hlen] at hN hn40
   subst hN
   rw [hr] at HR
   have HL := Lib.hid (fun W (h : Below w.heap.size w W) => elim6_any A n cap l false W (hl.up rE_lasts h) hr)
   have HSo := Lib.hid (show rankL (n : Int) l = rankM1 n (elimF n false n (mxR l) []) from by unfold rankL; rw [if_pos hr, hlen])
   rw [HSo.out]
   clear hl hlen hr HSo
   generalize mxR l = m0 at *
   obtain ⟨R, hR⟩ : ∃ R, R = rankM1 n (elimF n false n m0 []) := ⟨_, rfl⟩
   rw [← hR]
   have HRR := Lib.hid hR
   clear hR
   go_enter Tryz.func14, Tryz.ntmps14
   go_wp2_with fail
   refine HR.out.mono ?_
   rintro e W ⟨rfl, hb⟩
   go_wp2_with fail
   refine (HL.out W hb).mono ?_
   rintro e W' ⟨A', cc, Af, cf, b, fr, m', rfl, hb2, hfr, hB1, hB2⟩
   have hb3 := hb.trans (hb2.mono hb.size)
   have hcf := hfr.caps
   obtain ⟨fl, hfl⟩ : ∃ fl, fl = fr.length := ⟨_, rfl⟩
   rw [← hfl] at hcf ⊢
   have Hb3 := Lib.hid hb3
   cases b
   · have HX := Lib.hid (show Ending.returned (.tuple #[.int .i64 0, .int .i64 6]) = Ending.returned (.tuple #[.int .i64 R.1, .int .i64 R.2]) ∧ Below w.heap.size w W' from by
      rw [HRR.out, hB1 rfl]
      exact ⟨rfl, Hb3.out⟩)
     clear hfr hB1 hB2 hfl hb hb2 hb3 HRR HR HL
     go_wp2
     exact bodyPost_ret (v := .tuple #[.int .i64 0, .int .i64 6]) (by simp [results, Tryz.results14, go_sem]) rfl HX.out
   · obtain ⟨he, -, -⟩ := hB2 rfl
     have hle := cntB_free he
     rw [← hfl] at hle
     have hw : IntKind.i64.wrap ((n : Int) - (fl : Int)) = (n : Int) - (fl : Int) := IntWalk.i64_in _ (by omega)
     have HX := Lib.hid (show Ending.returned (.tuple #[.int .i64 ((n : Int) - (fl : Int)), .int .i64 0]) = Ending.returned (.tuple #[.int .i64 R.1, .int .i64 R.2]) ∧ Below w.heap.size w W' from by
      rw [HRR.out, he, hfl]
      exact ⟨rfl, Hb3.out⟩)
     clear hfr hB1 hB2 hfl he hb hb2 hb3 HRR HR HL
     go_wp2
     exact bodyPost_ret (v := .tuple #[.int .i64 ((n : Int) - (fl : Int)), .int .i64 0]) (by simp [results, Tryz.results14, go_sem]) rfl HX.out
end Go.Proofs.YtdlcglndhhndpaaGreat
