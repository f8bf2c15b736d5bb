/- Laws and walks; conditions stand in each theorem. -/
import Derived.Test.YtdlcglndhhndpaaGreatL17
import Derived.Test.YtdlcglndhhndpaaGreatL12
import Derived.Test.YtdlcglndhhndpaaGreatL10
set_option linter.unusedSimpArgs false
set_option linter.unusedVariables false
set_option maxHeartbeats 2000000
set_option maxRecDepth 100000
namespace Go.Proofs.YtdlcglndhhndpaaGreat
open Go.RowKit
theorem ZL30 {p : Prop} (h : p := by
 first
  | (go_wp2_with (at_builtin; refine K.app1 ho rw_sized rfl _ _ 23 rfl _ 64 Tryz.underlying23 frac_made rfl rfl (⟨y.s, A2, n2, c2, y.l, y.t, B2, m2, d2, y.m⟩ : Rw) _ rfl _ rfl rfl (by rw [ofF_len]; omega) (by omega) ?_; intro v4 X4 W4 ho4 K4)
     go_roundg (n - (k + 1))
     case rel =>
      refine ⟨k + 1, putF u k ⟨y.s, A2, n2, c2, y.l, y.t, B2, m2, d2, y.m⟩, X4, hlt, rfl, by go_num, HV2, ?_, ?_⟩
      · rw [← ofF_put]; exact ho4
      · exact (((K4.add (K4.okRd0 Hr1.out)).add ((K4.add (K4.okRd0 Hr1.out)).okRd0 Hr2.out)).rwAdd ⟨y.s, A2, n2, c2, y.l, y.t, B2, m2, d2, y.m⟩ ZMB ZMB ZMB).less ZLE
     case measure => omega)
  | fail) : p := h
theorem ZL69 {p : Prop} (h : p := by
 first
  | (rw [HRe.out]
     exact ⟨Ao, co, by simp only [ofF_len], by simp only [ofF_len]; exact hro, Hb3.out.trans (K.1.mono Hb3.out.size)⟩)
  | fail) : p := h
def solM1 (n : Nat) : Option (Mx × List Nat) → List Fv × Int
 | none => ([], 6)
 | some (m', []) => (ofF n fun i => fvQ (m' i n), 0)
 | some (_, _ :: _) => ([], 16)
def solL (N : Int) (l : List Rv) : List Fv × Int := if rightL N l = true then solM1 l.length (elimF l.length true l.length (mxR l) []) else ([], 1)
theorem rightL_len {N : Int} {l : List Rv} (h : rightL N l = true) : N = (l.length : Int) ∧ l.length ≤ 40 := by
 unfold rightL at h
 rw [Bool.and_eq_true, decide_eq_true_eq] at h
 omega
theorem RdFF.at {w : World} {B : Nat} {A : Option Addr} {n cap : Nat} {l : List (List Fv)} (h : RdFF w B A n cap l) {k : Nat} (hk : k < n) :
 ∃ b off A1 n1 c1 x, A = some ⟨b, off, none⟩ ∧ b < B ∧ l[k]? = some x ∧ w.cell? ⟨b, off + k, none⟩ = some (.slice A1 n1 c1) ∧ RdF w B A1 n1 c1 x := by
 obtain ⟨b, off, rfl, hb, hc⟩ := h.2.2.2 (by omega)
 have hl := h.1
 obtain ⟨cs, ⟨A1, n1, c1, rfl, h1⟩, _, hj⟩ := hc k (by omega)
 exact ⟨b, off, A1, n1, c1, l[k], rfl, hb, List.getElem?_eq_getElem (by omega), by simpa using hj 0 _ rfl, h1⟩
def LstE (w : World) (l : List Fv) (E : Int) (e : Ending) (w' : World) : Prop := ∃ A c, e = .returned (.tuple #[.slice A l.length c, .int .i64 E]) ∧ RdF w' w'.heap.size A l.length c l ∧ Below w.heap.size w w'
theorem lsolve_any (N : Int) (A : Option Addr) (n cap : Nat) (l : List Rv) (w : World) (hl : RdR w w.heap.size A n cap l) :
 Calls Tryz.prog 9 #[.slice A n cap, .int .i64 N] w (LstE w (solL N l).1 (solL N l).2) := by
 have hlen := hl.len
 have hcap := hl.caps
 have HR := Lib.hid (lright_any N A n cap l w hl)
 cases hr : rightL N l
 · rw [hr] at HR
   have HE := Lib.hid (fun W (h : Below w.heap.size w W) => (⟨none, 0, by unfold solL; rw [hr]; rfl, by unfold solL; rw [hr]; exact Rd.nil, h⟩ : LstE w (solL N l).1 (solL N l).2 (.returned (.tuple #[.slice none 0 0, .int .i64 1])) W))
   clear hl hlen hr
   go_enter Tryz.func9, Tryz.ntmps9
   go_wp2_with fail
   refine HR.out.mono ?_
   rintro e W ⟨rfl, hb⟩
   have HX := Lib.hid (HE.out W hb)
   clear HE hb
   go_wp2
   exact bodyPost_ret (v := .tuple #[.slice none 0 0, .int .i64 1]) (by simp [results, Tryz.results9, go_sem]) rfl HX.out
 · obtain ⟨hN, hn40⟩ := rightL_len hr
   rw [hlen] at hN hn40
   subst hN
   rw [hr] at HR
   have HL := Lib.hid (fun W (h : Below w.heap.size w W) => lelim_any A n cap l true W (hl.up rE_lasts h) hr)
   have HSo := Lib.hid (show solL (n : Int) l = solM1 n (elimF n true n (mxR l) []) from by unfold solL; rw [if_pos hr, hlen])
   rw [HSo.out]
   clear hl hlen hr HSo
   generalize mxR l = m0 at *
   obtain ⟨R, hR⟩ : ∃ R, R = solM1 n (elimF n true n m0 []) := ⟨_, rfl⟩
   rw [← hR]
   have HRR := Lib.hid hR
   clear hR
   go_enter Tryz.func9, Tryz.ntmps9
   go_wp2_with fail
   refine HR.out.mono ?_
   rintro e W ⟨rfl, hb⟩
   go_wp2_with fail
   refine (HL.out W hb).mono ?_
   rintro e W' ⟨mb, A', cc, Af, cf, b, fr, m', rfl, hb2, ⟨c0, c2⟩, hfr, hB1, hB2⟩
   have hb3 := hb.trans (hb2.mono hb.size)
   have hcf := hfr.caps
   obtain ⟨fl, hfl⟩ : ∃ fl, fl = fr.length := ⟨_, rfl⟩
   rw [← hfl] at hcf ⊢
   have Hb3 := Lib.hid hb3
   cases b
   · obtain ⟨he, hf, hrd⟩ := hB2 rfl
     have HRd := Lib.hid hrd
     have hcc := hrd.caps
     cases fr with
     | nil =>
      have hfl0 : fl = 0 := hfl
      subst hfl0
      have hRe : R = (ofF n fun i => fvQ (m' i n), 0) := by rw [HRR.out, he]; rfl
      have HRe := Lib.hid hRe
      clear hfr hB1 hB2 hfl he hf hrd hb hb2 hb3 HRR hRe HR HL
      go_wp2_with fail
      go_loopg [35, 8] n (fun gk s35 s8 wr => ∃ (k : Nat) (u : Nat → Rw) (X : List Blk), k ≤ n ∧ gk = n - k ∧ s35 = .int .i64 k ∧ Hid (∀ j, j < k → (u j).fv = fvQ (m' j n)) ∧ OwL 4 Rw.cs 50 s8 (ofF k u) X ∧ St W' (X ++ []) [⟨rwP k u, rwS k u⟩] wr)
      case atStart => exact ⟨0, fun _ => Rw.zero, [], Nat.zero_le _, rfl, rfl, Lib.hid (fun j h => absurd h (by omega)), OwL.nil, (St.start W').rwNew 0⟩
      case round =>
       obtain ⟨k, u, X, hk, rfl, rfl, HV, ho, K⟩ := hrel
       by_cases hlt : k < n
       · obtain ⟨gb, goff, A1, n1, c1, xl, hA, hbB, hx, hc, hrow⟩ := HRd.out.at hlt
         subst hA
         rw [ofF_get hlt] at hx
         have hxl := (Option.some.inj hx).symm
         subst hxl
         have hn1 : n1 = n + 1 := by rw [← hrow.len, ofF_len]
         obtain ⟨eb, off, A2, n2, c2, B2, m2, d2, y, hA, hbB2, hy, ⟨z0, z1, z2, z3⟩, r1, r2⟩ := hrow.atF (k := n) (by omega)
         subst hA
         rw [ofF_get (by omega)] at hy
         have hyv := (Option.some.inj hy).symm
         have e0 := (K.1.cell (p := ⟨gb, goff + k, none⟩) hbB).trans hc
         have e1 := (K.1.cell (p := ⟨eb, off + n * 4, none⟩) hbB2).trans z0
         have e2 := (K.1.cell (p := ⟨eb, off + n * 4 + 1, none⟩) hbB2).trans z1
         have e3 := (K.1.cell (p := ⟨eb, off + n * 4 + 2, none⟩) hbB2).trans z2
         have e4 := (K.1.cell (p := ⟨eb, off + n * 4 + 3, none⟩) hbB2).trans z3
         have hki : (k : Int) < (n : Int) := by omega
         have hk0 : (0 : Int) ≤ (k : Int) := by omega
         have hni : (n : Int) < (n1 : Int) := by omega
         have hn0 : (0 : Int) ≤ (n : Int) := by omega
         have hcp1 := r1.caps
         have hcp2 := r2.caps
         have hcp3 := hrow.caps
         have Hr1 := Lib.hid r1
         have Hr2 := Lib.hid r2
         have HV2 := Lib.hid (show ∀ j, j < k + 1 → (putF u k (⟨y.s, A2, n2, c2, y.l, y.t, B2, m2, d2, y.m⟩ : Rw) j).fv = fvQ (m' j n) from fun j hj => by
          by_cases e : j = k
          · subst e; rw [putF_same, ← hyv]; rfl
          · rw [putF_other e]; exact HV.out j (by omega))
         clear hy hyv hx hc hrow z0 z1 z2 z3 r1 r2 hn1 hbB hbB2 HV
         exact ZL30
       · have e : n = k := by omega
         subst e
         obtain ⟨Ao, co, hv, hro⟩ := ho.rdF K ZMB (by omega)
         subst hv
         rw [ofF_congr HV.out] at hro
         have HX := Lib.hid (show LstE w R.1 R.2 (.returned (.tuple #[.slice Ao n co, .int .i64 0])) wr from by
          exact ZL69)
         clear ho K hro HV
         go_wp2
         exact bodyPost_ret (v := .tuple #[.slice Ao n co, .int .i64 0]) (by simp [results, Tryz.results9, go_sem]) rfl HX.out
     | cons c fr =>
      have hfl0 : 0 < fl := by rw [hfl]; simp
      have hRe : R = ([], 16) := by rw [HRR.out, he]; rfl
      have HX := Lib.hid (show LstE w R.1 R.2 _ _ from by rw [hRe]; exact ⟨none, 0, rfl, Rd.nil, Hb3.out⟩ : LstE w R.1 R.2 (.returned (.tuple #[.slice none 0 0, .int .i64 16])) W')
      clear hfr hB1 hB2 hfl he hf hrd hb hb2 hb3 HRR hRe HR HL
      go_wp2
      exact bodyPost_ret (v := .tuple #[.slice none 0 0, .int .i64 16]) (by simp [results, Tryz.results9, go_sem]) rfl HX.out
   · have hRe : R = ([], 6) := by rw [HRR.out, hB1 rfl]; rfl
     have HX := Lib.hid (show LstE w R.1 R.2 _ _ from by rw [hRe]; exact ⟨none, 0, rfl, Rd.nil, Hb3.out⟩ : LstE w R.1 R.2 (.returned (.tuple #[.slice none 0 0, .int .i64 6])) W')
     clear hfr hB1 hB2 hfl hb hb2 hb3 HRR hRe HR HL
     go_wp2
     exact bodyPost_ret (v := .tuple #[.slice none 0 0, .int .i64 6]) (by simp [results, Tryz.results9, go_sem]) rfl HX.out
def rankM1 (n : Nat) : Option (Mx × List Nat) → Int × Int
 | none => (0, 6)
 | some (_, fr) => ((n : Int) - (fr.length : Int), 0)
def rankL (N : Int) (l : List Rv) : Int × Int := if rightL N l = true then rankM1 l.length (elimF l.length false l.length (mxR l) []) else (0, 1)
theorem cntB_free {n : Nat} {m m' : Mx} {fr : List Nat} (h : elimF n false n m [] = some (m', fr)) : fr.length ≤ n := (rank_triv h).1
theorem lrank_any (N : Int) (A : Option Addr) (n cap : Nat) (l : List Rv) (w : World) (hl : RdR w w.heap.size A n cap l) :
 Calls Tryz.prog 13 #[.slice A n cap, .int .i64 N] w fun e w' => e = .returned (.tuple #[.int .i64 (rankL N l).1, .int .i64 (rankL N l).2]) ∧ Below w.heap.size w w' := by
 have hlen := hl.len
 have hcap := hl.caps
 have HR := Lib.hid (lright_any N A n cap l w hl)
 cases hr : rightL N l
 · rw [hr] at HR
   have hRe : rankL N l = (0, 1) := by unfold rankL; rw [hr]; rfl
   rw [hRe]
   clear hl hlen hr hRe
   go_enter Tryz.func13, Tryz.ntmps13
   go_wp2_with fail
   refine HR.out.mono ?_
   rintro e W ⟨rfl, hb⟩
   go_wp2
   exact bodyPost_ret (v := .tuple #[.int .i64 0, .int .i64 1]) (by simp [results, Tryz.results13, go_sem]) rfl ⟨rfl, hb⟩
 · obtain ⟨hN, hn40⟩ := rightL_len hr
   rw [hlen] at hN hn40
   subst hN
   rw [hr] at HR
   have HL := Lib.hid (fun W (h : Below w.heap.size w W) => lelim_any A n cap l false W (hl.up rE_lasts h) hr)
   have HSo := Lib.hid (show rankL (n : Int) l = rankM1 n (elimF n false n (mxR l) []) from by unfold rankL; rw [if_pos hr, hlen])
   rw [HSo.out]
   clear hl hlen hr HSo
   generalize mxR l = m0 at *
   obtain ⟨R, hR⟩ : ∃ R, R = rankM1 n (elimF n false n m0 []) := ⟨_, rfl⟩
   rw [← hR]
   have HRR := Lib.hid hR
   clear hR
   go_enter Tryz.func13, Tryz.ntmps13
   go_wp2_with fail
   refine HR.out.mono ?_
   rintro e W ⟨rfl, hb⟩
   go_wp2_with fail
   refine (HL.out W hb).mono ?_
   rintro e W' ⟨mb, A', cc, Af, cf, b, fr, m', rfl, hb2, ⟨c0, c2⟩, hfr, hB1, hB2⟩
   have hb3 := hb.trans (hb2.mono hb.size)
   have hcf := hfr.caps
   obtain ⟨fl, hfl⟩ : ∃ fl, fl = fr.length := ⟨_, rfl⟩
   rw [← hfl] at hcf ⊢
   have Hb3 := Lib.hid hb3
   cases b
   · obtain ⟨he, -, -⟩ := hB2 rfl
     have hle := cntB_free he
     rw [← hfl] at hle
     have hw : IntKind.i64.wrap ((n : Int) - (fl : Int)) = (n : Int) - (fl : Int) := IntWalk.i64_in _ (by omega)
     have HX := Lib.hid (show Ending.returned (.tuple #[.int .i64 ((n : Int) - (fl : Int)), .int .i64 0]) = Ending.returned (.tuple #[.int .i64 R.1, .int .i64 R.2]) ∧ Below w.heap.size w W' from by
      rw [HRR.out, he, hfl]
      exact ⟨rfl, Hb3.out⟩)
     clear hfr hB1 hB2 hfl he hb hb2 hb3 HRR HR HL
     go_wp2
     exact bodyPost_ret (v := .tuple #[.int .i64 ((n : Int) - (fl : Int)), .int .i64 0]) (by simp [results, Tryz.results13, go_sem]) rfl HX.out
   · have HX := Lib.hid (show Ending.returned (.tuple #[.int .i64 0, .int .i64 6]) = Ending.returned (.tuple #[.int .i64 R.1, .int .i64 R.2]) ∧ Below w.heap.size w W' from by
      rw [HRR.out, hB1 rfl]
      exact ⟨rfl, Hb3.out⟩)
     clear hfr hB1 hB2 hfl hb hb2 hb3 HRR HR HL
     go_wp2
     exact bodyPost_ret (v := .tuple #[.int .i64 0, .int .i64 6]) (by simp [results, Tryz.results13, go_sem]) rfl HX.out
theorem lwrongC_any (s t : Int) (A A' : Option Addr) (n cap n' cap' : Nat) (l m : List Int) (w : World) (hl : RdI w w.heap.size A n cap l) (hm : RdI w w.heap.size A' n' cap' m) :
 Calls Tryz.prog 51 #[.agg #[.int .i64 s, .slice A n cap, .int .i64 t, .slice A' n' cap']] w fun e w' => e = .returned (.bool (!rightF s l t m)) ∧ Below w.heap.size w w' := by
 have K := ((St.start w).oldRd hl).oldRd hm
 have r := K.raw
 have HR := Lib.hid (fun W h g => fRight_any s t A A' n cap n' cap' l m W h g)
 clear hl hm
 generalize rightF s l t m = R at *
 go_enter Tryz.func51, Tryz.ntmps51
 go_wp2_with (first | (refine ZAL ?_; clear K r; intro W b K r) | (refine ZST ?_; clear K r; intro W K r))
 refine (HR.out _ ZRD ZRD).mono ?_
 rintro e W' ⟨rfl, hb⟩
 replace K := K.keep hb
 clear r
 have r := K.rawS
 clear hb
 go_wp2
 go_ret
 exact ⟨rfl, K.1⟩
theorem idxFC_any (A : Option Addr) (n cap : Nat) (l : List Fv) (w : World) (hl : RdF w w.heap.size A n cap l) :
 Calls Tryz.prog 101 #[.slice A n cap, .func (.func 51) #[] #[]] w (IdxF w (l.all Fv.ok)) := by
 have hcaps := hl.caps
 have hlen := hl.len
 have eg := enters_of Tryz.func51 (by kernel_rfl) rfl
 have Hlen := Lib.hid hlen; clear hlen
 have HL := Lib.hid (fun W (h : Below w.heap.size w W) => hl.up fE_lasts h)
 go_enter Tryz.func101, Tryz.ntmps101
 go_wp2
 go_loopg [8] n (fun gk i wr => ∃ k : Nat, k ≤ n ∧ gk = n - k ∧ i = .int .i64 k ∧ (∀ j x, j < k → l[j]? = some x → x.ok = true) ∧ Below w.heap.size w wr)
 case atStart => exact ⟨0, Nat.zero_le _, rfl, rfl, (fun j x h => absurd h (by omega)), Below.refl _ _⟩
 case round =>
  obtain ⟨k, hk, rfl, rfl, hall, hb⟩ := hrel
  have Hall := Lib.hid hall; clear hall
  have HB := Lib.hid hb
  by_cases hlt : k < n
  · obtain ⟨b, off, A1, n1, c1, A2, n2, c2, x, rfl, hbB, hx, ⟨d0, d1, d2, d3⟩, r1, r2⟩ := (HL.out wr hb).atF hlt
    have hki : (k : Int) < (n : Int) := by omega
    have hk0 : (0 : Int) ≤ (k : Int) := by omega
    have Hx := Lib.hid hx; clear hx
    have HW := Lib.hid (lwrongC_any x.s x.t A1 A2 n1 c1 n2 c2 x.l x.m wr r1 r2)
    have hcap1 := r1.caps
    have hcap2 := r2.caps
    have hok : rightF x.s x.l x.t x.m = x.ok := rfl
    rw [hok] at HW
    clear hok r1 r2 hb hl
    cases hin : x.ok
    · rw [hin] at HW
      have Hno := Lib.hid (show l.all Fv.ok = false by
       exact ZL102)
      clear hin
      go_wp2_with (go_at_call 51; refine HW.out.mono ?_; rintro e w1 ⟨rfl, hb1⟩)
      exact ZL79
    · rw [hin] at HW
      have Hin := Lib.hid hin
      clear hin
      go_wp2_with (go_at_call 51; refine HW.out.mono ?_; rintro e w1 ⟨rfl, hb1⟩)
      exact ZL33
  · exact ZL52
theorem conFC_any (A : Option Addr) (n cap : Nat) (l : List Fv) (w : World) (hl : RdF w w.heap.size A n cap l) :
 Calls Tryz.prog 48 #[.slice A n cap, .func (.func 51) #[] #[]] w fun e w' => e = .returned (.bool (!l.all Fv.ok)) ∧ Below w.heap.size w w' := by
 have Hidx := Lib.hid (idxFC_any A n cap l w hl)
 clear hl
 generalize l.all Fv.ok = b at *
 go_enter Tryz.func48, Tryz.ntmps48
 go_wp2_with (go_at_call 101; refine Hidx.out.mono ?_; rintro e w1 ⟨i, rfl, hi1, hi2, hi3, hb⟩)
 go_ret
 exact ⟨rfl, hb⟩
end Go.Proofs.YtdlcglndhhndpaaGreat
