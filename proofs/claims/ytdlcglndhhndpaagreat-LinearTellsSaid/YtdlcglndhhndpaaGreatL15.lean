/- Laws and walks; conditions stand in each theorem. -/
import Derived.BigRegion
import Derived.Maps.RangeWalk
import Derived.Test.YtdlcglndhhndpaaGreatL13
set_option linter.unusedSimpArgs false
set_option linter.unusedVariables false
set_option maxHeartbeats 8000000
set_option maxRecDepth 100000
namespace Go.Proofs.YtdlcglndhhndpaaGreat
open Go.RowKit
theorem ZL59 {p : Prop} (h : p := by
 first
  | (go_roundg (n - (i + 1))
     case rel => exact ⟨i + 1, b3, V3, hin, rfl, by go_num, HSn, HP3, (K.part (List.sublist_cons_self _ _)).lessS (by repeat (first | with_reducible exact List.Sublist.refl _ | with_reducible apply List.Sublist.cons_cons | with_reducible apply List.Sublist.cons))⟩
     case measure => omega)
  | fail) : p := h
def PivP (w0 : World) (L0 : List Blk) (D : List Hl) (n r c mb hb hc : Nat) (HJ : List Value) (m : Mx) (e : Ending) (w' : World) : Prop :=
 ∃ (fr b : Bool) (M : Mm), e = .returned (.bool fr) ∧ St w0 ((mb, #[.slice (some ⟨hb, 0, none⟩) n hc, .int .i64 n, .bool b], 67) :: (hb, recA Hd.cs n (M.hd n) HJ, 23) :: (M.rows n ++ L0)) (M.fam n :: D) w' ∧ M.caps n ∧ fr = decide (findP m c (n - r) r = n) ∧ (fr = true → b = false ∧ M.good n m) ∧ (fr = false → b = !pivB (swpM m r (findP m c (n - r) r)) n r c ∧ (b = false → M.good n (pivM (swpM m r (findP m c (n - r) r)) r c)))
theorem lpivot_any (w0 w : World) (M : Mm) (L0 : List Blk) (D : List Hl) (n r0 c mb hb hc : Nat) (HJ : List Value) (m : Mx) (K : St w0 ((mb, #[.slice (some ⟨hb, 0, none⟩) n hc, .int .i64 n, .bool false], 67) :: (hb, recA Hd.cs n (M.hd n) HJ, 23) :: (M.rows n ++ L0)) (M.fam n :: D) w) (hrc : r0 ≤ c) (hcn : c < n) (hn : n ≤ 1000) (hg : M.good n m) (hcp : M.caps n) :
 Calls Tryz.prog 85 #[.pointer (some ⟨mb, 0, none⟩), .int .i64 r0, .int .i64 c] w (PivP w0 L0 D n r0 c mb hb hc HJ m) := by
 have HG := Lib.hid hg
 have HC := Lib.hid hcp
 clear hg
 have hN := hcp.1
 have hcN : c < M.N := by omega
 have hN3 : M.N ≤ 1001 := by omega
 have HNN := Lib.hid hN
 clear hN
 have hci : (c : Int) < (M.N : Int) := by omega
 have hc0 : (0 : Int) ≤ (c : Int) := by omega
 clear hcp
 go_enter Tryz.func85, Tryz.ntmps85
 go_wp2_with fail
 go_loopg [7] (n - r0) (fun gk s7 wr => ∃ a : Nat, r0 ≤ a ∧ a ≤ n ∧ gk = n - a ∧ s7 = .int .i64 a ∧ Hid (∀ i, r0 ≤ i → i < a → m i c = 0) ∧ St w0 ((mb, #[.slice (some ⟨hb, 0, none⟩) n hc, .int .i64 n, .bool false], 67) :: (hb, recA Hd.cs n (M.hd n) HJ, 23) :: (M.rows n ++ L0)) (M.fam n :: D) wr)
 case atStart => exact ⟨r0, Nat.le_refl _, by omega, rfl, rfl, Lib.hid (fun i h1 h2 => absurd h1 (by omega)), K⟩
 case round =>
  clear K
  obtain ⟨a, h1, h2, rfl, rfl, HZ, K⟩ := hrel
  have r := K.rawS
  by_cases hlt : a < n
  · have hai : (a : Int) < (n : Int) := by omega
    have ha0 : (0 : Int) ≤ (a : Int) := by omega
    have ch := K.cellH (g := hb) hlt ZMB
    have cr := K.cellM hlt hcN (by repeat (first | with_reducible exact Mm.mem hlt | with_reducible exact Mm.memV hlt | with_reducible apply List.mem_cons_of_mem))
    obtain ⟨g1, g2⟩ := HG.out a c hlt hcN
    have HW := Lib.hid (fun W => lzero_any (M.V a c).s (M.V a c).t (M.V a c).A (M.V a c).B (M.V a c).n (M.V a c).c (M.V a c).m (M.V a c).d W)
    rw [g1.zero_iff g2] at HW
    clear g1 g2
    by_cases hz : m a c = 0
    · rw [decide_eq_true hz] at HW
      have HZ2 := Lib.hid (show ∀ i, r0 ≤ i → i < a + 1 → m i c = 0 from fun i h3 h4 => by
       by_cases e : i = a
       · rw [e]; exact hz
       · exact HZ.out i h3 (by omega))
      clear hz HZ
      go_wp2_with (go_at_call 126; refine (HW.out _).mono ?_; rintro e W' ⟨rfl, hb1⟩; replace K := K.keep hb1; clear r; have r := K.rawS; clear hb1)
      go_roundg (n - (a + 1))
      case rel => exact ⟨a + 1, by omega, hlt, rfl, by go_num, HZ2, K⟩
      case measure => omega
    · rw [decide_eq_false hz] at HW
      have HA := Lib.hid (show findP m c (n - r0) r0 = a from findP_is (n - r0) r0 a h1 (by omega) HZ.out (fun _ => hz))
      have hne : ((a : Int) == (n : Int)) = false := by simp; omega
      have hrn : r0 < n := by omega
      clear HZ
      go_upto_region 6 with (go_at_call 126; refine (HW.out _).mono ?_; rintro e W' ⟨rfl, hb1⟩; replace K := K.keep hb1; clear r; have r := K.rawS; clear hb1)
      clear HW ch cr
      obtain ⟨RR, hRR⟩ : ∃ RR : World → Prop, ∀ W, RR W ↔ St w0 ((mb, #[.slice (some ⟨hb, 0, none⟩) n hc, .int .i64 n, .bool false], 67) :: (hb, recA Hd.cs n ((M.swp r0 a).hd n) HJ, 23) :: ((M.swp r0 a).rows n ++ L0)) ((M.swp r0 a).fam n :: D) W := ⟨_, fun _ => Iff.rfl⟩
      go_cut [7] from 43 to 68 (fun s7 wx => s7 = .int .i64 a ∧ RR wx)
      case first =>
       have ch := K.cellH (g := hb) hlt ZMB
       have ch2 := K.cellH (g := hb) hrn ZMB
       have zz := K.thaw (g := hb) ZMB
       have hri : (r0 : Int) < (n : Int) := by omega
       have hr0 : (0 : Int) ≤ (r0 : Int) := by omega
       have KS := Lib.hid ((hRR _).2 (K.swapped hrn hlt).drew)
       clear K HA HG HC
       by_cases era : a = r0
       · subst era
         go_region
         all_goals
          go_wp2_with fail
          go_meet
          exact ⟨rfl, KS.out⟩
       go_region
       all_goals
        go_wp2_with fail
        go_meet
        exact ⟨rfl, KS.out⟩
      obtain ⟨rfl, hk⟩ := hcut
      replace K := (hRR _).1 hk
      clear hk hRR r
      have HG2 := Lib.hid (HG.out.swp hrn hlt)
      have HC2 := Lib.hid (show (M.swp r0 a).caps n from ⟨HC.out.1, fun i hi => HC.out.2 (sw r0 a i) (sw_lt hrn hlt hi)⟩)
      have HN := Lib.hid (show swpM m r0 a r0 c ≠ 0 from by unfold swpM; rw [if_pos rfl]; exact hz)
      obtain ⟨M2, hM2⟩ : ∃ M2, M2 = M.swp r0 a := ⟨_, rfl⟩
      obtain ⟨m2, hm2⟩ : ∃ m2, m2 = swpM m r0 a := ⟨_, rfl⟩
      have hN2 : M.N = M2.N := by rw [hM2]; rfl
      rw [← hM2] at K HG2 HC2
      rw [hN2] at hcN hN3 hci
      have HN2 := Lib.hid hN2
      clear hN2
      rw [← hm2] at HG2 HN
      have HM2 := Lib.hid hm2
      clear hM2 hm2 HG HC hz hne hai ha0
      have hri : (r0 : Int) < (n : Int) := by omega
      have hr0 : (0 : Int) ≤ (r0 : Int) := by omega
      have r := K.rawS
      have ch := K.cellH (g := hb) hrn ZMB
      have cr := K.cellM hrn hcN (by repeat (first | with_reducible exact Mm.mem hrn | with_reducible exact Mm.memV hrn | with_reducible apply List.mem_cons_of_mem))
      go_wp2_with ((first | (refine ZAL ?_; clear K r; (first | ((fail_if_success revert b0); intro W b0 K r) | ((fail_if_success revert b1); intro W b1 K r) | ((fail_if_success revert b2); intro W b2 K r) | ((fail_if_success revert b3); intro W b3 K r) | ((fail_if_success revert b4); intro W b4 K r) | intro W b K r)) | (refine ZST ?_; clear K r; intro W K r)); clear ch; have ch := K.cellH (g := hb) hrn ZMB)
      clear ch cr
      have K := K.famRd (M := M2) (i := r0) (j := c) ZMB hrn hcN
      obtain ⟨gx, gy⟩ := HG2.out r0 c hrn hcN
      have HX0 := Lib.hid gx
      have HX1 := Lib.hid gy
      clear gx gy
      generalize M2.V r0 c = x0 at *
      have hx0a : x0.n ≤ x0.c := (K.rd (A := x0.A) (n := x0.n) (cap := x0.c) (l := x0.l) ZMB).2.1
      have hcapx := (K.rd (A := x0.A) (n := x0.n) (cap := x0.c) (l := x0.l) ZMB).caps
      have hcapy := (K.rd (A := x0.B) (n := x0.m) (cap := x0.d) (l := x0.k) ZMB).caps
      clear hx0a
      obtain ⟨dq, hdq⟩ : ∃ dq : Nat → Option Rat, dq = fun j => divO1 (m2 r0 j) (m2 r0 c) := ⟨_, rfl⟩
      obtain ⟨de, hde⟩ : ∃ de : Nat → Int, de = fun j => divE1 (m2 r0 j) (m2 r0 c) := ⟨_, rfl⟩
      obtain ⟨dk, hdk⟩ : ∃ dk : Nat → Bool, dk = fun j => divK (m2 r0 j) (m2 r0 c) := ⟨_, rfl⟩
      have HDq := Lib.hid hdq
      have HDe := Lib.hid hde
      have HDk := Lib.hid hdk
      clear hdq hde hdk
      go_loopg [87] M2.N (fun gk s87 wr => ∃ (k : Nat) (b : Bool) (V : Nat → Nat → Rw), k ≤ M2.N ∧ gk = M2.N - k ∧ s87 = .int .i64 k ∧ Hid (∀ i j, (i ≠ r0 ∨ k ≤ j) → V i j = M2.V i j) ∧ Hid (∀ j, j < k → OptF (V r0 j).s (V r0 j).l (V r0 j).t (V r0 j).k (dq j)) ∧ Hid (b = !(List.range k).all dk) ∧ St w0 ((b0, #[.int .i64 x0.s, .slice x0.A x0.n x0.c, .int .i64 x0.t, .slice x0.B x0.m x0.d], 50) :: ((mb, #[.slice (some ⟨hb, 0, none⟩) n hc, .int .i64 n, .bool b], 67) :: (hb, recA Hd.cs n (M2.hd n) HJ, 23) :: ((M2.wV V).rows n ++ L0))) ((M2.wV V).fam n :: ⟨rdP x0.B x0.m x0.d x0.k, rdS x0.B x0.m⟩ :: ⟨rdP x0.A x0.n x0.c x0.l, rdS x0.A x0.n⟩ :: D) wr)
      case atStart => exact ⟨0, false, M2.V, Nat.zero_le _, rfl, rfl, Lib.hid (fun i j _ => rfl), Lib.hid (fun j h => absurd h (by omega)), Lib.hid (by simp), ((K.add (x := M2.fam n) (K.okAt ZMB)).lessS (by repeat (first | with_reducible exact List.Sublist.refl _ | with_reducible apply List.Sublist.cons_cons | with_reducible apply List.Sublist.cons)) : St w0 _ (M2.fam n :: ⟨rdP x0.B x0.m x0.d x0.k, rdS x0.B x0.m⟩ :: ⟨rdP x0.A x0.n x0.c x0.l, rdS x0.A x0.n⟩ :: D) _)⟩
      case round =>
       clear K r
       obtain ⟨k, b, V, hk, rfl, rfl, HV1, HV2, HB, K⟩ := hrel
       by_cases hlt2 : k < M2.N
       · have hki : (k : Int) < (M2.N : Int) := by omega
         have hk0 : (0 : Int) ≤ (k : Int) := by omega
         have r := K.rawS
         have ch := K.cellH (M := M2) (g := hb) hrn ZMB
         have cr := K.cellV (M := M2) (V := V) (r := r0) (k := k) hlt2 (by repeat (first | with_reducible exact Mm.mem hrn | with_reducible exact Mm.memV hrn | with_reducible apply List.mem_cons_of_mem))
         have e1 : V r0 k = M2.V r0 k := HV1.out r0 k (Or.inr (Nat.le_refl _))
         obtain ⟨x, hx⟩ : ∃ x, x = V r0 k := ⟨_, rfl⟩
         have HX := Lib.hid hx
         rw [← hx] at cr
         obtain ⟨g1, g2⟩ := HG2.out r0 k hrn hlt2
         have K := K.famRdV (M := M2) (V := V) (i := r0) (j := k) ZMB hrn hlt2
         rw [← hx] at K
         rw [← e1, ← hx] at g1
         clear e1 hx
         have HDv := Lib.hid (fun W a b' c' d => qDiv (m2 r0 k) (m2 r0 c) x.s x.t x0.s x0.t x.A x.B x0.A x0.B x.n x.c x.m x.d x0.n x0.c x0.m x0.d x.l x.k x0.l x0.k W a b' c' d g1 g2 HX0.out HX1.out HN.out)
         rw [← congrFun HDq.out k, ← congrFun HDe.out k] at HDv
         have hcap1 := (K.rd (A := x.A) (n := x.n) (cap := x.c) (l := x.l) ZMB).caps
         have hcap2 := (K.rd (A := x.B) (n := x.m) (cap := x.d) (l := x.k) ZMB).caps
         clear g1 g2
         go_upto_region 11 with ((first | (refine ZAL ?_; clear K r; (first | ((fail_if_success revert b0); intro W b0 K r) | ((fail_if_success revert b1); intro W b1 K r) | ((fail_if_success revert b2); intro W b2 K r) | ((fail_if_success revert b3); intro W b3 K r) | ((fail_if_success revert b4); intro W b4 K r) | intro W b K r)) | (refine ZST ?_; clear K r; intro W K r)); clear ch; have ch := K.cellH (M := M2) (g := hb) hrn ZMB)
         have cr := K.cellV (M := M2) (V := V) (r := r0) (k := k) hlt2 (by repeat (first | with_reducible exact Mm.mem hrn | with_reducible exact Mm.memV hrn | with_reducible apply List.mem_cons_of_mem))
         rw [← HX.out] at cr
         have zz := K.thaw (g := M2.rb r0) (cs := rwA M2.N (V r0) (M2.J r0)) (by repeat (first | with_reducible exact Mm.mem hrn | with_reducible exact Mm.memV hrn | with_reducible apply List.mem_cons_of_mem))
         obtain ⟨b2, hb2⟩ : ∃ b2, b2 = (b || de k != 0) := ⟨_, rfl⟩
         have HB2 := Lib.hid hb2
         have K0 := K.drew
         have HS := Lib.hid (fun W b' V' D' (h : St w0 ((b1, #[.int .i64 x.s, .slice x.A x.n x.c, .int .i64 x.t, .slice x.B x.m x.d], 50) :: (b0, #[.int .i64 x0.s, .slice x0.A x0.n x0.c, .int .i64 x0.t, .slice x0.B x0.m x0.d], 50) :: ((mb, #[.slice (some ⟨hb, 0, none⟩) n hc, .int .i64 n, .bool b'], 67) :: (hb, recA Hd.cs n (M2.hd n) HJ, 23) :: ((M2.wV V').rows n ++ L0))) D' W) => (show (W.cell? ⟨mb, 0, none⟩ = some (.slice (some ⟨hb, 0, none⟩) n hc) ∧ W.cell? ⟨hb, r0, none⟩ = some (.slice (some ⟨M2.rb r0, 0, none⟩) M2.N (M2.cp r0))) ∧ ((W.cell? ⟨b1, 0, none⟩ = some (.int .i64 x.s) ∧ W.cell? ⟨b1, 1, none⟩ = some (.slice x.A x.n x.c) ∧ W.cell? ⟨b1, 2, none⟩ = some (.int .i64 x.t) ∧ W.cell? ⟨b1, 3, none⟩ = some (.slice x.B x.m x.d)) ∧ (W.cell? ⟨b0, 0, none⟩ = some (.int .i64 x0.s) ∧ W.cell? ⟨b0, 1, none⟩ = some (.slice x0.A x0.n x0.c) ∧ W.cell? ⟨b0, 2, none⟩ = some (.int .i64 x0.t) ∧ W.cell? ⟨b0, 3, none⟩ = some (.slice x0.B x0.m x0.d))) ∧ (W.cell? ⟨(M2.rb r0), k * 4, none⟩ = some (cellD W ⟨M2.rb r0, k * 4, none⟩) ∧ W.cell? ⟨(M2.rb r0), k * 4 + 1, none⟩ = some (cellD W ⟨M2.rb r0, k * 4 + 1, none⟩) ∧ W.cell? ⟨(M2.rb r0), k * 4 + 2, none⟩ = some (cellD W ⟨M2.rb r0, k * 4 + 2, none⟩) ∧ W.cell? ⟨(M2.rb r0), k * 4 + 3, none⟩ = some (cellD W ⟨M2.rb r0, k * 4 + 3, none⟩)) ∧ ∀ j, W.frozen? ⟨M2.rb r0, j, none⟩ = false from by
          have r := h.rawS
          have ch := h.cellH (M := M2) (g := hb) hrn ZMB
          have cr := h.cellV (M := M2) (V := V') (r := r0) (k := k) hlt2 (by repeat (first | with_reducible exact Mm.mem hrn | with_reducible exact Mm.memV hrn | with_reducible apply List.mem_cons_of_mem))
          have zz := h.thaw (g := M2.rb r0) (cs := rwA M2.N (V' r0) (M2.J r0)) (by repeat (first | with_reducible exact Mm.mem hrn | with_reducible exact Mm.memV hrn | with_reducible apply List.mem_cons_of_mem))
          exact ⟨⟨r.2.2.1.1, ch⟩, ⟨r.1, r.2.1⟩, ⟨cellD_iff.2 (by rw [cr.1]; rfl), cellD_iff.2 (by rw [cr.2.1]; rfl), cellD_iff.2 (by rw [cr.2.2.1]; rfl), cellD_iff.2 (by rw [cr.2.2.2]; rfl)⟩, zz⟩))
         have HDv1 := Lib.hid (fun W (h : St w0 ((b1, #[.int .i64 x.s, .slice x.A x.n x.c, .int .i64 x.t, .slice x.B x.m x.d], 50) :: (b0, #[.int .i64 x0.s, .slice x0.A x0.n x0.c, .int .i64 x0.t, .slice x0.B x0.m x0.d], 50) :: ((mb, #[.slice (some ⟨hb, 0, none⟩) n hc, .int .i64 n, .bool b], 67) :: (hb, recA Hd.cs n (M2.hd n) HJ, 23) :: ((M2.wV V).rows n ++ L0))) (⟨rdP x.B x.m x.d x.k, rdS x.B x.m⟩ :: ⟨rdP x.A x.n x.c x.l, rdS x.A x.n⟩ :: (M2.wV V).fam n :: ⟨rdP x0.B x0.m x0.d x0.k, rdS x0.B x0.m⟩ :: ⟨rdP x0.A x0.n x0.c x0.l, rdS x0.A x0.n⟩ :: D) W) => ((HDv.out W (h.rd ZMB) (h.rd ZMB) (h.rd ZMB) (h.rd ZMB)).mono fun e W' ⟨s31, A31, n31, c31, l31, t31, B31, m31, d31, k31, he, ⟨hra, hrb⟩, ho, ⟨hfa, hfb⟩, hbb⟩ => (⟨⟨s31, A31, n31, c31, l31, t31, B31, m31, d31, k31⟩, he, ho, h.retF hbb hra hrb hfa hfb⟩ : ∃ y : Rw, e = Ending.returned (.tuple #[.agg #[.int .i64 y.s, .slice y.A y.n y.c, .int .i64 y.t, .slice y.B y.m y.d], .int .i64 (de k)]) ∧ OptF y.s y.l y.t y.k (dq k) ∧ St w0 ((b1, #[.int .i64 x.s, .slice x.A x.n x.c, .int .i64 x.t, .slice x.B x.m x.d], 50) :: (b0, #[.int .i64 x0.s, .slice x0.A x0.n x0.c, .int .i64 x0.t, .slice x0.B x0.m x0.d], 50) :: ((mb, #[.slice (some ⟨hb, 0, none⟩) n hc, .int .i64 n, .bool b], 67) :: (hb, recA Hd.cs n (M2.hd n) HJ, 23) :: ((M2.wV V).rows n ++ L0))) (⟨rdP y.B y.m y.d y.k, rdS y.B y.m⟩ :: ⟨rdP y.A y.n y.c y.l, rdS y.A y.n⟩ :: (⟨rdP x.B x.m x.d x.k, rdS x.B x.m⟩ :: ⟨rdP x.A x.n x.c x.l, rdS x.A x.n⟩ :: (M2.wV V).fam n :: ⟨rdP x0.B x0.m x0.d x0.k, rdS x0.B x0.m⟩ :: ⟨rdP x0.A x0.n x0.c x0.l, rdS x0.A x0.n⟩ :: D)) W')))
         have HNo1 := Lib.hid (fun W (y : Rw) (h : St w0 ((b1, #[.int .i64 x.s, .slice x.A x.n x.c, .int .i64 x.t, .slice x.B x.m x.d], 50) :: (b0, #[.int .i64 x0.s, .slice x0.A x0.n x0.c, .int .i64 x0.t, .slice x0.B x0.m x0.d], 50) :: ((mb, #[.slice (some ⟨hb, 0, none⟩) n hc, .int .i64 n, .bool b], 67) :: (hb, recA Hd.cs n (M2.hd n) HJ, 23) :: ((M2.wV V).rows n ++ L0))) (⟨rdP y.B y.m y.d y.k, rdS y.B y.m⟩ :: ⟨rdP y.A y.n y.c y.l, rdS y.A y.n⟩ :: (⟨rdP x.B x.m x.d x.k, rdS x.B x.m⟩ :: ⟨rdP x.A x.n x.c x.l, rdS x.A x.n⟩ :: (M2.wV V).fam n :: ⟨rdP x0.B x0.m x0.d x0.k, rdS x0.B x0.m⟩ :: ⟨rdP x0.A x0.n x0.c x0.l, rdS x0.A x0.n⟩ :: D)) W) => lnote_any w0 W _ ((b1, #[.int .i64 x.s, .slice x.A x.n x.c, .int .i64 x.t, .slice x.B x.m x.d], 50) :: (b0, #[.int .i64 x0.s, .slice x0.A x0.n x0.c, .int .i64 x0.t, .slice x0.B x0.m x0.d], 50) :: ((mb, #[.slice (some ⟨hb, 0, none⟩) n hc, .int .i64 n, .bool b2], 67) :: (hb, recA Hd.cs n (M2.hd n) HJ, 23) :: ((M2.wV V).rows n ++ L0))) _ mb (some ⟨hb, 0, none⟩) n hc n b b2 (de k) y.s y.t y.A y.B y.n y.c y.m y.d h HB2.out (by (repeat (first | with_reducible apply Upd.head | with_reducible apply Upd.tail))))
         have HSet := Lib.hid (fun W (y : Rw) (h : St w0 ((b1, #[.int .i64 x.s, .slice x.A x.n x.c, .int .i64 x.t, .slice x.B x.m x.d], 50) :: (b0, #[.int .i64 x0.s, .slice x0.A x0.n x0.c, .int .i64 x0.t, .slice x0.B x0.m x0.d], 50) :: ((mb, #[.slice (some ⟨hb, 0, none⟩) n hc, .int .i64 n, .bool b2], 67) :: (hb, recA Hd.cs n (M2.hd n) HJ, 23) :: ((M2.wV V).rows n ++ L0))) (⟨rdP y.B y.m y.d y.k, rdS y.B y.m⟩ :: ⟨rdP y.A y.n y.c y.l, rdS y.A y.n⟩ :: (⟨rdP x.B x.m x.d x.k, rdS x.B x.m⟩ :: ⟨rdP x.A x.n x.c x.l, rdS x.A x.n⟩ :: (M2.wV V).fam n :: ⟨rdP x0.B x0.m x0.d x0.k, rdS x0.B x0.m⟩ :: ⟨rdP x0.A x0.n x0.c x0.l, rdS x0.A x0.n⟩ :: D)) W) => h.setR y hlt2 (by repeat (first | with_reducible exact Mm.updV hrn _ | with_reducible exact Upd.head _ | with_reducible apply Upd.tail)))
         clear hb2 r ch cr zz HDv
         go_region_held3 (fun W => (W.cell? ⟨mb, 0, none⟩ = some (.slice (some ⟨hb, 0, none⟩) n hc) ∧ W.cell? ⟨hb, r0, none⟩ = some (.slice (some ⟨M2.rb r0, 0, none⟩) M2.N (M2.cp r0))) ∧ ((W.cell? ⟨b1, 0, none⟩ = some (.int .i64 x.s) ∧ W.cell? ⟨b1, 1, none⟩ = some (.slice x.A x.n x.c) ∧ W.cell? ⟨b1, 2, none⟩ = some (.int .i64 x.t) ∧ W.cell? ⟨b1, 3, none⟩ = some (.slice x.B x.m x.d)) ∧ (W.cell? ⟨b0, 0, none⟩ = some (.int .i64 x0.s) ∧ W.cell? ⟨b0, 1, none⟩ = some (.slice x0.A x0.n x0.c) ∧ W.cell? ⟨b0, 2, none⟩ = some (.int .i64 x0.t) ∧ W.cell? ⟨b0, 3, none⟩ = some (.slice x0.B x0.m x0.d))) ∧ (W.cell? ⟨(M2.rb r0), k * 4, none⟩ = some (cellD W ⟨M2.rb r0, k * 4, none⟩) ∧ W.cell? ⟨(M2.rb r0), k * 4 + 1, none⟩ = some (cellD W ⟨M2.rb r0, k * 4 + 1, none⟩) ∧ W.cell? ⟨(M2.rb r0), k * 4 + 2, none⟩ = some (cellD W ⟨M2.rb r0, k * 4 + 2, none⟩) ∧ W.cell? ⟨(M2.rb r0), k * 4 + 3, none⟩ = some (cellD W ⟨M2.rb r0, k * 4 + 3, none⟩)) ∧ ∀ j, W.frozen? ⟨M2.rb r0, j, none⟩ = false)
          ((first | exact HS.out _ _ _ _ (by assumption)))
          (first
           | (go_at_call 128; refine (HDv1.out _ K0).mono ?_; rintro e w5 ⟨y, rfl, ho, k5⟩)
           | (go_at_call 127; refine (HNo1.out _ _ k5).mono ?_; rintro e w7 ⟨rfl, k7⟩; have kz := HSet.out _ _ k7))
         all_goals
          have HK := Lib.hid (((kz.famPutV (M := M2) (V := V) (n := n) ZMB y ZMB ZMB r0 k).lessS (by repeat (first | with_reducible exact List.Sublist.refl _ | with_reducible apply List.Sublist.cons_cons | with_reducible apply List.Sublist.cons)) : St w0 _ ((M2.wV (put2 V r0 k y)).fam n :: ⟨rdP x0.B x0.m x0.d x0.k, rdS x0.B x0.m⟩ :: ⟨rdP x0.A x0.n x0.c x0.l, rdS x0.A x0.n⟩ :: D) _).part (List.sublist_cons_self _ _))
          have Ho := Lib.hid ho
          clear kz k7 k5 K0 K HS HDv1 HNo1 HSet ho
          go_wp2_with fail
          go_roundg (M2.N - (k + 1))
          case rel =>
           exact ⟨k + 1, b2, put2 V r0 k y, hlt2, rfl, by go_num, Lib.hid (fun i j hij => by
            rw [put2_ne V y (by omega)]
            exact HV1.out i j (by omega)), Lib.hid (fun j hj => by
            by_cases e : j = k
            · subst e; rw [put2_at]; exact Ho.out
            · rw [put2_ne V y (by omega)]; exact HV2.out j (by omega)), Lib.hid (by
            rw [HB2.out, HB.out, congrFun HDe.out k, HDk.out, allK_succ]
            unfold divE1
            generalize (List.range k).all _ = u
            generalize divK (m2 r0 k) (m2 r0 c) = v
            cases u <;> cases v <;> rfl), HK.out⟩
          case measure => omega
       ·
        have e : k = M2.N := by omega
        subst e
        have hNv : M2.N = n + 1 := by rw [← HN2.out]; exact HNN.out
        have HNv := Lib.hid hNv
        have hbd : b = !divB m2 n r0 c := by
         rw [HB.out, HDk.out, hNv]
         rfl
        have HS0 := Lib.hid (show b = false → Stg M2.N n r0 c m2 0 V from fun hb0 => Stg.start hrn HN.out hNv (by
         rw [hb0] at hbd
         cases hd : divB m2 n r0 c
         · rw [hd] at hbd; cases hbd
         · rfl) (fun j hj => ⟨dq j, by rw [HDq.out], HV2.out j hj⟩) (fun j k' hj hk' hjr => by
         rw [HV1.out j k' (Or.inl hjr)]
         exact HG2.out j k' hj hk'))
        have HP0 := Lib.hid (show b = true → pivB m2 n r0 c = false from fun hb0 => by
         rw [hb0] at hbd
         unfold pivB
         cases hd : divB m2 n r0 c
         · rfl
         · rw [hd] at hbd; cases hbd)
        have r := K.rawS
        have K := K.lessS (D' := (M2.wV V).fam n :: D) (by repeat (first | with_reducible exact List.Sublist.refl _ | with_reducible apply List.Sublist.cons_cons | with_reducible apply List.Sublist.cons))
        clear hNv hbd HV1 HV2 HB HDq HDe HDk hk hcapx hcapy HX0 HX1 hlt2
        go_wp2_with fail
        go_loopg [114] n (fun gk s114 wr => ∃ (i : Nat) (b : Bool) (V : Vx), i ≤ n ∧ gk = n - i ∧ s114 = .int .i64 i ∧ Hid (b = false → Stg M2.N n r0 c m2 i V) ∧ Hid (b = true → pivB m2 n r0 c = false) ∧ St w0 ((b0, #[.int .i64 x0.s, .slice x0.A x0.n x0.c, .int .i64 x0.t, .slice x0.B x0.m x0.d], 50) :: ((mb, #[.slice (some ⟨hb, 0, none⟩) n hc, .int .i64 n, .bool b], 67) :: (hb, recA Hd.cs n (M2.hd n) HJ, 23) :: ((M2.wV V).rows n ++ L0))) ((M2.wV V).fam n :: D) wr)
        case atStart => exact ⟨0, b, V, Nat.zero_le _, rfl, rfl, HS0, HP0, K⟩
        case round =>
         clear K r HS0 HP0
         obtain ⟨i, b3, V3, hi, rfl, rfl, HS3, HP3, K⟩ := hrel
         by_cases hin : i < n
         · have hii : (i : Int) < (n : Int) := by omega
           have hi0 : (0 : Int) ≤ (i : Int) := by omega
           have r := K.rawS
           have ch := K.cellH (M := M2) (g := hb) hin ZMB
           have cr := K.cellV (M := M2) (V := V3) (r := i) (k := c) hcN (by repeat (first | with_reducible exact Mm.mem hin | with_reducible exact Mm.memV hin | with_reducible apply List.mem_cons_of_mem))
           have K := K.famRdV (M := M2) (V := V3) (i := i) (j := c) ZMB hin hcN
           obtain ⟨x3, hx3⟩ : ∃ x3, x3 = V3 i c := ⟨_, rfl⟩
           rw [← hx3] at cr K
           have HX3 := Lib.hid hx3
           have hcap1 := (K.rd (A := x3.A) (n := x3.n) (cap := x3.c) (l := x3.l) ZMB).caps
           have hcap2 := (K.rd (A := x3.B) (n := x3.m) (cap := x3.d) (l := x3.k) ZMB).caps
           clear hx3
           by_cases hir : i = r0
           · have hie : ((i : Int) == (r0 : Int)) = true := by simp [hir]
             have HSn := Lib.hid (fun (h : b3 = false) => (HS3.out h).next hin (Or.inl hir))
             clear hir HS3
             go_wp2_with ((first | (refine ZAL ?_; clear K r; (first | ((fail_if_success revert b0); intro W b0 K r) | ((fail_if_success revert b1); intro W b1 K r) | ((fail_if_success revert b2); intro W b2 K r) | ((fail_if_success revert b3); intro W b3 K r) | ((fail_if_success revert b4); intro W b4 K r) | intro W b K r)) | (refine ZST ?_; clear K r; intro W K r)))
             exact ZL59
           · have hie : ((i : Int) == (r0 : Int)) = false := by simp; omega
             have HW := Lib.hid (fun W => lzero_any x3.s x3.t x3.A x3.B x3.n x3.c x3.m x3.d W)
             have HQ3 := Lib.hid (show b3 = false → isQ x3 (m2 i c) from fun h => by
              have := (HS3.out h).2.1 i c hin hcN
              rw [if_neg (by omega), ← HX3.out] at this
              exact this)
             cases hz : (x3.s == 0)
             · rw [hz] at HW
               have HZ3 := Lib.hid (show b3 = false → m2 i c ≠ 0 from fun h e => by
                have h1 := (HQ3.out h).1.zero_iff (HQ3.out h).2
                rw [hz, decide_eq_true e] at h1
                cases h1)
               clear hz
               go_wp2_with (first | ((first | (refine ZAL ?_; clear K r; (first | ((fail_if_success revert b0); intro W b0 K r) | ((fail_if_success revert b1); intro W b1 K r) | ((fail_if_success revert b2); intro W b2 K r) | ((fail_if_success revert b3); intro W b3 K r) | ((fail_if_success revert b4); intro W b4 K r) | intro W b K r)) | (refine ZST ?_; clear K r; intro W K r))) | (go_at_call 126; refine (HW.out _).mono ?_; rintro e W' ⟨rfl, hb1⟩; replace K := K.keep hb1; clear r; have r := K.rawS; clear hb1))
               have K := (K.add (x := (M2.wV V3).fam n) (K.okAt ZMB)).lessS (D' := (M2.wV V3).fam n :: ⟨rdP x3.B x3.m x3.d x3.k, rdS x3.B x3.m⟩ :: ⟨rdP x3.A x3.n x3.c x3.l, rdS x3.A x3.n⟩ :: D) (by repeat (first | with_reducible exact List.Sublist.refl _ | with_reducible apply List.Sublist.cons_cons | with_reducible apply List.Sublist.cons))
               have HI0 := Lib.hid (show b3 = false → Stg2 M2.N n r0 c m2 i 0 V3 ∧ isQ x3 (m2 i c) ∧ m2 i c ≠ 0 from fun h => ⟨(HS3.out h).inner, HQ3.out h, HZ3.out h⟩)
               clear HS3 HQ3 HZ3 HX3 HW ch cr
               go_loopg [14] M2.N (fun gk s14 wr => ∃ (k : Nat) (b : Bool) (V : Vx), k ≤ M2.N ∧ gk = M2.N - k ∧ s14 = .int .i64 k ∧ Hid (b = false → Stg2 M2.N n r0 c m2 i k V ∧ isQ x3 (m2 i c) ∧ m2 i c ≠ 0) ∧ Hid (b = true → pivB m2 n r0 c = false) ∧ St w0 ((b1, #[.int .i64 x3.s, .slice x3.A x3.n x3.c, .int .i64 x3.t, .slice x3.B x3.m x3.d], 50) :: (b0, #[.int .i64 x0.s, .slice x0.A x0.n x0.c, .int .i64 x0.t, .slice x0.B x0.m x0.d], 50) :: ((mb, #[.slice (some ⟨hb, 0, none⟩) n hc, .int .i64 n, .bool b], 67) :: (hb, recA Hd.cs n (M2.hd n) HJ, 23) :: ((M2.wV V).rows n ++ L0))) ((M2.wV V).fam n :: ⟨rdP x3.B x3.m x3.d x3.k, rdS x3.B x3.m⟩ :: ⟨rdP x3.A x3.n x3.c x3.l, rdS x3.A x3.n⟩ :: D) wr)
               case atStart => exact ⟨0, b3, V3, Nat.zero_le _, rfl, rfl, HI0, HP3, K⟩
               case round =>
                clear K r HI0 HP3
                obtain ⟨k, b4, V4, hk4, rfl, rfl, HS4, HP4, K⟩ := hrel
                have r := K.rawS
                have hk0 : (0 : Int) ≤ (k : Int) := by omega
                by_cases hlt4 : k < M2.N
                · have hki : (k : Int) < (M2.N : Int) := by omega
                  cases b4
                  · obtain ⟨hS, hQ, h0⟩ := HS4.out rfl
                    have gx := hS.2.1 i k hin hlt4
                    rw [if_neg (by omega)] at gx
                    have gq := hS.2.1 r0 k hrn hlt4
                    rw [if_pos (Or.inl rfl), pivM_r] at gq
                    have K := K.famRdV (M := M2) (V := V4) (i := r0) (j := k) ZMB hrn hlt4
                    have K := K.famRdV (M := M2) (V := V4) (i := i) (j := k) ZMB hin hlt4
                    obtain ⟨x, hx⟩ : ∃ x, x = V4 i k := ⟨_, rfl⟩
                    obtain ⟨q, hq⟩ : ∃ q, q = V4 r0 k := ⟨_, rfl⟩
                    rw [← hx, ← hq] at K
                    rw [← hx] at gx
                    rw [← hq] at gq
                    have HSS := Lib.hid hS
                    have HQQ := Lib.hid hQ
                    have H00 := Lib.hid h0
                    have HX := Lib.hid hx
                    have HQ := Lib.hid hq
                    have hki2 := hki
                    have hri : (r0 : Int) < (n : Int) := by omega
                    have hcap3 := (K.rd (A := x.A) (n := x.n) (cap := x.c) (l := x.l) ZMB).caps
                    have hcap4 := (K.rd (A := x.B) (n := x.m) (cap := x.d) (l := x.k) ZMB).caps
                    have hcap5 := (K.rd (A := q.A) (n := q.n) (cap := q.c) (l := q.l) ZMB).caps
                    have hcap6 := (K.rd (A := q.B) (n := q.m) (cap := q.d) (l := q.k) ZMB).caps
                    clear hx hq hki2 HS4
                    obtain ⟨om, hom⟩ : ∃ om, om = mulO1 (m2 i c) (m2 r0 k / m2 r0 c) := ⟨_, rfl⟩
                    obtain ⟨em, hem⟩ : ∃ em, em = mulE1 (m2 i c) (m2 r0 k / m2 r0 c) := ⟨_, rfl⟩
                    obtain ⟨os, hos⟩ : ∃ os, os = subO1 (m2 i k) om := ⟨_, rfl⟩
                    obtain ⟨es, hes⟩ : ∃ es, es = subE1 (m2 i k) om := ⟨_, rfl⟩
                    have HMu := Lib.hid (fun W a b' c' d => qMul (m2 i c) (m2 r0 k / m2 r0 c) x3.s x3.t q.s q.t x3.A x3.B q.A q.B x3.n x3.c x3.m x3.d q.n q.c q.m q.d x3.l x3.k q.l q.k W a b' c' d hQ.1 hQ.2 gq.1 gq.2)
                    have HSu := Lib.hid (fun (y : Rw) (hy : OptF y.s y.l y.t y.k om) W a b' c' d => qSub (m2 i k) x.s x.t y.s y.t x.A x.B y.A y.B x.n x.c x.m x.d y.n y.c y.m y.d x.l x.k y.l y.k W a b' c' d gx.1 gx.2 om hy (fun z hz => mulO1_fits (hom.symm.trans hz)))
                    rw [← hom, ← hem] at HMu
                    rw [← hos, ← hes] at HSu
                    obtain ⟨bm, hbm⟩ : ∃ bm, bm = (false || em != 0) := ⟨_, rfl⟩
                    obtain ⟨bs, hbs⟩ : ∃ bs, bs = (bm || es != 0) := ⟨_, rfl⟩
                    have HBs := Lib.hid (show bs = !stepK (m2 i k) (m2 i c) (m2 r0 k / m2 r0 c) from by rw [← step_bad, hbs, hbm, hes, hem, hom, Bool.false_or])
                    have HOs := Lib.hid (show os = subO1 (m2 i k) (mulO1 (m2 i c) (m2 r0 k / m2 r0 c)) from by rw [hos, hom])
                    have HB1 := Lib.hid hbm
                    have HB2 := Lib.hid hbs
                    clear hom hem hos hes hbm hbs gx gq hS hQ h0
                    have HSA := Lib.hid (fun W b' D' (h : St w0 ((b1, #[.int .i64 x3.s, .slice x3.A x3.n x3.c, .int .i64 x3.t, .slice x3.B x3.m x3.d], 50) :: (b0, #[.int .i64 x0.s, .slice x0.A x0.n x0.c, .int .i64 x0.t, .slice x0.B x0.m x0.d], 50) :: ((mb, #[.slice (some ⟨hb, 0, none⟩) n hc, .int .i64 n, .bool b'], 67) :: (hb, recA Hd.cs n (M2.hd n) HJ, 23) :: ((M2.wV V4).rows n ++ L0))) D' W) => (show (W.cell? ⟨mb, 0, none⟩ = some (.slice (some ⟨hb, 0, none⟩) n hc) ∧ W.cell? ⟨hb, r0, none⟩ = some (.slice (some ⟨M2.rb r0, 0, none⟩) M2.N (M2.cp r0))) ∧ (W.cell? ⟨b1, 0, none⟩ = some (.int .i64 x3.s) ∧ W.cell? ⟨b1, 1, none⟩ = some (.slice x3.A x3.n x3.c) ∧ W.cell? ⟨b1, 2, none⟩ = some (.int .i64 x3.t) ∧ W.cell? ⟨b1, 3, none⟩ = some (.slice x3.B x3.m x3.d)) ∧ (W.cell? ⟨M2.rb i, k * 4, none⟩ = some (.int .i64 x.s) ∧ W.cell? ⟨M2.rb i, k * 4 + 1, none⟩ = some (.slice x.A x.n x.c) ∧ W.cell? ⟨M2.rb i, k * 4 + 2, none⟩ = some (.int .i64 x.t) ∧ W.cell? ⟨M2.rb i, k * 4 + 3, none⟩ = some (.slice x.B x.m x.d)) ∧ (W.cell? ⟨M2.rb r0, k * 4, none⟩ = some (.int .i64 q.s) ∧ W.cell? ⟨M2.rb r0, k * 4 + 1, none⟩ = some (.slice q.A q.n q.c) ∧ W.cell? ⟨M2.rb r0, k * 4 + 2, none⟩ = some (.int .i64 q.t) ∧ W.cell? ⟨M2.rb r0, k * 4 + 3, none⟩ = some (.slice q.B q.m q.d)) from by
                     have r := h.rawS
                     have ch := h.cellH (M := M2) (g := hb) hrn ZMB
                     have cr := h.cellV (M := M2) (V := V4) (r := i) (k := k) hlt4 (by repeat (first | with_reducible exact Mm.mem hin | with_reducible exact Mm.memV hin | with_reducible apply List.mem_cons_of_mem))
                     have cq := h.cellV (M := M2) (V := V4) (r := r0) (k := k) hlt4 (by repeat (first | with_reducible exact Mm.mem hrn | with_reducible exact Mm.memV hrn | with_reducible apply List.mem_cons_of_mem))
                     rw [← HX.out] at cr
                     rw [← HQ.out] at cq
                     exact ⟨⟨r.2.2.1.1, ch⟩, r.1, cr, cq⟩))
                    have HMu1 := Lib.hid (fun W (h : St w0 ((b1, #[.int .i64 x3.s, .slice x3.A x3.n x3.c, .int .i64 x3.t, .slice x3.B x3.m x3.d], 50) :: (b0, #[.int .i64 x0.s, .slice x0.A x0.n x0.c, .int .i64 x0.t, .slice x0.B x0.m x0.d], 50) :: ((mb, #[.slice (some ⟨hb, 0, none⟩) n hc, .int .i64 n, .bool false], 67) :: (hb, recA Hd.cs n (M2.hd n) HJ, 23) :: ((M2.wV V4).rows n ++ L0))) (⟨rdP x.B x.m x.d x.k, rdS x.B x.m⟩ :: ⟨rdP x.A x.n x.c x.l, rdS x.A x.n⟩ :: ⟨rdP q.B q.m q.d q.k, rdS q.B q.m⟩ :: ⟨rdP q.A q.n q.c q.l, rdS q.A q.n⟩ :: (M2.wV V4).fam n :: ⟨rdP x3.B x3.m x3.d x3.k, rdS x3.B x3.m⟩ :: ⟨rdP x3.A x3.n x3.c x3.l, rdS x3.A x3.n⟩ :: D) W) => ((HMu.out W (h.rd ZMB) (h.rd ZMB) (h.rd ZMB) (h.rd ZMB)).mono fun e W' ⟨s31, A31, n31, c31, l31, t31, B31, m31, d31, k31, he, ⟨hra, hrb⟩, ho, ⟨hfa, hfb⟩, hbb⟩ => (⟨⟨s31, A31, n31, c31, l31, t31, B31, m31, d31, k31⟩, he, ho, h.retF hbb hra hrb hfa hfb⟩ : ∃ y : Rw, e = Ending.returned (.tuple #[.agg #[.int .i64 y.s, .slice y.A y.n y.c, .int .i64 y.t, .slice y.B y.m y.d], .int .i64 em]) ∧ OptF y.s y.l y.t y.k om ∧ St w0 ((b1, #[.int .i64 x3.s, .slice x3.A x3.n x3.c, .int .i64 x3.t, .slice x3.B x3.m x3.d], 50) :: (b0, #[.int .i64 x0.s, .slice x0.A x0.n x0.c, .int .i64 x0.t, .slice x0.B x0.m x0.d], 50) :: ((mb, #[.slice (some ⟨hb, 0, none⟩) n hc, .int .i64 n, .bool false], 67) :: (hb, recA Hd.cs n (M2.hd n) HJ, 23) :: ((M2.wV V4).rows n ++ L0))) (⟨rdP y.B y.m y.d y.k, rdS y.B y.m⟩ :: ⟨rdP y.A y.n y.c y.l, rdS y.A y.n⟩ :: (⟨rdP x.B x.m x.d x.k, rdS x.B x.m⟩ :: ⟨rdP x.A x.n x.c x.l, rdS x.A x.n⟩ :: ⟨rdP q.B q.m q.d q.k, rdS q.B q.m⟩ :: ⟨rdP q.A q.n q.c q.l, rdS q.A q.n⟩ :: (M2.wV V4).fam n :: ⟨rdP x3.B x3.m x3.d x3.k, rdS x3.B x3.m⟩ :: ⟨rdP x3.A x3.n x3.c x3.l, rdS x3.A x3.n⟩ :: D)) W')))
                    have HNo1 := Lib.hid (fun W (y : Rw) (h : St w0 ((b1, #[.int .i64 x3.s, .slice x3.A x3.n x3.c, .int .i64 x3.t, .slice x3.B x3.m x3.d], 50) :: (b0, #[.int .i64 x0.s, .slice x0.A x0.n x0.c, .int .i64 x0.t, .slice x0.B x0.m x0.d], 50) :: ((mb, #[.slice (some ⟨hb, 0, none⟩) n hc, .int .i64 n, .bool false], 67) :: (hb, recA Hd.cs n (M2.hd n) HJ, 23) :: ((M2.wV V4).rows n ++ L0))) (⟨rdP y.B y.m y.d y.k, rdS y.B y.m⟩ :: ⟨rdP y.A y.n y.c y.l, rdS y.A y.n⟩ :: (⟨rdP x.B x.m x.d x.k, rdS x.B x.m⟩ :: ⟨rdP x.A x.n x.c x.l, rdS x.A x.n⟩ :: ⟨rdP q.B q.m q.d q.k, rdS q.B q.m⟩ :: ⟨rdP q.A q.n q.c q.l, rdS q.A q.n⟩ :: (M2.wV V4).fam n :: ⟨rdP x3.B x3.m x3.d x3.k, rdS x3.B x3.m⟩ :: ⟨rdP x3.A x3.n x3.c x3.l, rdS x3.A x3.n⟩ :: D)) W) => lnote_any w0 W _ ((b1, #[.int .i64 x3.s, .slice x3.A x3.n x3.c, .int .i64 x3.t, .slice x3.B x3.m x3.d], 50) :: (b0, #[.int .i64 x0.s, .slice x0.A x0.n x0.c, .int .i64 x0.t, .slice x0.B x0.m x0.d], 50) :: ((mb, #[.slice (some ⟨hb, 0, none⟩) n hc, .int .i64 n, .bool bm], 67) :: (hb, recA Hd.cs n (M2.hd n) HJ, 23) :: ((M2.wV V4).rows n ++ L0))) _ mb (some ⟨hb, 0, none⟩) n hc n false bm em y.s y.t y.A y.B y.n y.c y.m y.d h HB1.out (by (repeat (first | with_reducible apply Upd.head | with_reducible apply Upd.tail))))
                    have HSu1 := Lib.hid (fun W (y : Rw) (hy : OptF y.s y.l y.t y.k om) (h : St w0 ((b1, #[.int .i64 x3.s, .slice x3.A x3.n x3.c, .int .i64 x3.t, .slice x3.B x3.m x3.d], 50) :: (b0, #[.int .i64 x0.s, .slice x0.A x0.n x0.c, .int .i64 x0.t, .slice x0.B x0.m x0.d], 50) :: ((mb, #[.slice (some ⟨hb, 0, none⟩) n hc, .int .i64 n, .bool bm], 67) :: (hb, recA Hd.cs n (M2.hd n) HJ, 23) :: ((M2.wV V4).rows n ++ L0))) (⟨rdP y.B y.m y.d y.k, rdS y.B y.m⟩ :: ⟨rdP y.A y.n y.c y.l, rdS y.A y.n⟩ :: (⟨rdP x.B x.m x.d x.k, rdS x.B x.m⟩ :: ⟨rdP x.A x.n x.c x.l, rdS x.A x.n⟩ :: ⟨rdP q.B q.m q.d q.k, rdS q.B q.m⟩ :: ⟨rdP q.A q.n q.c q.l, rdS q.A q.n⟩ :: (M2.wV V4).fam n :: ⟨rdP x3.B x3.m x3.d x3.k, rdS x3.B x3.m⟩ :: ⟨rdP x3.A x3.n x3.c x3.l, rdS x3.A x3.n⟩ :: D)) W) => ((HSu.out y hy W (h.rd ZMB) (h.rd ZMB) (h.rd ZMB) (h.rd ZMB)).mono fun e W' ⟨s31, A31, n31, c31, l31, t31, B31, m31, d31, k31, he, ⟨hra, hrb⟩, ho, ⟨hfa, hfb⟩, hbb⟩ => (⟨⟨s31, A31, n31, c31, l31, t31, B31, m31, d31, k31⟩, he, ho, h.retF hbb hra hrb hfa hfb⟩ : ∃ z : Rw, e = Ending.returned (.tuple #[.agg #[.int .i64 z.s, .slice z.A z.n z.c, .int .i64 z.t, .slice z.B z.m z.d], .int .i64 es]) ∧ OptF z.s z.l z.t z.k os ∧ St w0 ((b1, #[.int .i64 x3.s, .slice x3.A x3.n x3.c, .int .i64 x3.t, .slice x3.B x3.m x3.d], 50) :: (b0, #[.int .i64 x0.s, .slice x0.A x0.n x0.c, .int .i64 x0.t, .slice x0.B x0.m x0.d], 50) :: ((mb, #[.slice (some ⟨hb, 0, none⟩) n hc, .int .i64 n, .bool bm], 67) :: (hb, recA Hd.cs n (M2.hd n) HJ, 23) :: ((M2.wV V4).rows n ++ L0))) (⟨rdP z.B z.m z.d z.k, rdS z.B z.m⟩ :: ⟨rdP z.A z.n z.c z.l, rdS z.A z.n⟩ :: ⟨rdP y.B y.m y.d y.k, rdS y.B y.m⟩ :: ⟨rdP y.A y.n y.c y.l, rdS y.A y.n⟩ :: (⟨rdP x.B x.m x.d x.k, rdS x.B x.m⟩ :: ⟨rdP x.A x.n x.c x.l, rdS x.A x.n⟩ :: ⟨rdP q.B q.m q.d q.k, rdS q.B q.m⟩ :: ⟨rdP q.A q.n q.c q.l, rdS q.A q.n⟩ :: (M2.wV V4).fam n :: ⟨rdP x3.B x3.m x3.d x3.k, rdS x3.B x3.m⟩ :: ⟨rdP x3.A x3.n x3.c x3.l, rdS x3.A x3.n⟩ :: D)) W')))
                    have HNo2 := Lib.hid (fun W (y z : Rw) (h : St w0 ((b1, #[.int .i64 x3.s, .slice x3.A x3.n x3.c, .int .i64 x3.t, .slice x3.B x3.m x3.d], 50) :: (b0, #[.int .i64 x0.s, .slice x0.A x0.n x0.c, .int .i64 x0.t, .slice x0.B x0.m x0.d], 50) :: ((mb, #[.slice (some ⟨hb, 0, none⟩) n hc, .int .i64 n, .bool bm], 67) :: (hb, recA Hd.cs n (M2.hd n) HJ, 23) :: ((M2.wV V4).rows n ++ L0))) (⟨rdP z.B z.m z.d z.k, rdS z.B z.m⟩ :: ⟨rdP z.A z.n z.c z.l, rdS z.A z.n⟩ :: ⟨rdP y.B y.m y.d y.k, rdS y.B y.m⟩ :: ⟨rdP y.A y.n y.c y.l, rdS y.A y.n⟩ :: (⟨rdP x.B x.m x.d x.k, rdS x.B x.m⟩ :: ⟨rdP x.A x.n x.c x.l, rdS x.A x.n⟩ :: ⟨rdP q.B q.m q.d q.k, rdS q.B q.m⟩ :: ⟨rdP q.A q.n q.c q.l, rdS q.A q.n⟩ :: (M2.wV V4).fam n :: ⟨rdP x3.B x3.m x3.d x3.k, rdS x3.B x3.m⟩ :: ⟨rdP x3.A x3.n x3.c x3.l, rdS x3.A x3.n⟩ :: D)) W) => lnote_any w0 W _ ((b1, #[.int .i64 x3.s, .slice x3.A x3.n x3.c, .int .i64 x3.t, .slice x3.B x3.m x3.d], 50) :: (b0, #[.int .i64 x0.s, .slice x0.A x0.n x0.c, .int .i64 x0.t, .slice x0.B x0.m x0.d], 50) :: ((mb, #[.slice (some ⟨hb, 0, none⟩) n hc, .int .i64 n, .bool bs], 67) :: (hb, recA Hd.cs n (M2.hd n) HJ, 23) :: ((M2.wV V4).rows n ++ L0))) _ mb (some ⟨hb, 0, none⟩) n hc n bm bs es z.s z.t z.A z.B z.n z.c z.m z.d h HB2.out (by (repeat (first | with_reducible apply Upd.head | with_reducible apply Upd.tail))))
                    clear HMu HSu
                    go_upto_region 21 with fail
                    have K0 := K.drew
                    have s0 := HSA.out _ _ _ K0
                    clear r
                    refine wp_region_T 28 (fun W => (W.cell? ⟨mb, 0, none⟩ = some (.slice (some ⟨hb, 0, none⟩) n hc) ∧ W.cell? ⟨hb, r0, none⟩ = some (.slice (some ⟨M2.rb r0, 0, none⟩) M2.N (M2.cp r0))) ∧ (W.cell? ⟨b1, 0, none⟩ = some (.int .i64 x3.s) ∧ W.cell? ⟨b1, 1, none⟩ = some (.slice x3.A x3.n x3.c) ∧ W.cell? ⟨b1, 2, none⟩ = some (.int .i64 x3.t) ∧ W.cell? ⟨b1, 3, none⟩ = some (.slice x3.B x3.m x3.d)) ∧ (W.cell? ⟨M2.rb i, k * 4, none⟩ = some (.int .i64 x.s) ∧ W.cell? ⟨M2.rb i, k * 4 + 1, none⟩ = some (.slice x.A x.n x.c) ∧ W.cell? ⟨M2.rb i, k * 4 + 2, none⟩ = some (.int .i64 x.t) ∧ W.cell? ⟨M2.rb i, k * 4 + 3, none⟩ = some (.slice x.B x.m x.d)) ∧ (W.cell? ⟨M2.rb r0, k * 4, none⟩ = some (.int .i64 q.s) ∧ W.cell? ⟨M2.rb r0, k * 4 + 1, none⟩ = some (.slice q.A q.n q.c) ∧ W.cell? ⟨M2.rb r0, k * 4 + 2, none⟩ = some (.int .i64 q.t) ∧ W.cell? ⟨M2.rb r0, k * 4 + 3, none⟩ = some (.slice q.B q.m q.d))) (by kernel_rfl) s0 (fun hSh => ?_)
                    clear s0
                    refine wpAnyT.tk 0 rfl ?_
                    refine wpAnyT.tk 1 rfl ?_
                    refine wpAnyT.tk 2 rfl ?_
                    refine wpAnyT.tk 3 rfl ?_
                    refine wpAnyT.tk 4 rfl ?_
                    refine wpAnyT.tk 5 rfl ?_
                    refine wpAnyT.tk 6 rfl ?_
                    refine wpAnyT.tk 7 rfl ?_
                    refine wpAnyT.tk 8 rfl ?_
                    refine wpAnyT.tk 9 rfl ?_
                    refine wpAnyT.tk 10 rfl ?_
                    refine wpAnyT.tk 11 rfl ?_
                    refine wpAnyT.tk 12 rfl ?_
                    refine wpAnyT.tk 13 rfl ?_
                    refine wpAnyT.tk 14 rfl ?_
                    refine wpAnyT.tk 15 rfl ?_
                    refine wpAnyT.tk 16 rfl ?_
                    refine wpAnyT.tk 17 rfl ?_
                    refine wpAnyT.tk 18 rfl ?_
                    refine wpAnyT.on 19 rfl fun KK hKK => ?_
                    go_simp
                    go_at_call 52; refine (HMu1.out _ K0).mono ?_; rintro e w5 ⟨y, rfl, ho, k5⟩
                    go_wp2_with fail
                    refine hKK.out _ _ ?_ (fun hSh => ?_)
                    · exact HSA.out _ _ _ (by assumption)
                    clear hKK KK
                    refine ZPT ?_
                    refine wpAnyT.tk 20 rfl ?_
                    refine wpAnyT.tk 21 rfl ?_
                    refine wpAnyT.on 22 rfl fun KK hKK => ?_
                    go_simp
                    go_at_call 127; refine (HNo1.out _ _ k5).mono ?_; rintro e w6 ⟨rfl, k6⟩
                    go_wp2_with fail
                    refine hKK.out _ _ ?_ (fun hSh => ?_)
                    · exact HSA.out _ _ _ (by assumption)
                    clear hKK KK
                    refine ZPT ?_
                    refine wpAnyT.on 23 rfl fun KK hKK => ?_
                    go_simp
                    go_at_call 42; refine (HSu1.out _ _ ho k6).mono ?_; rintro e w7 ⟨z, rfl, ho7, k7⟩
                    go_wp2_with fail
                    refine hKK.out _ _ ?_ (fun hSh => ?_)
                    · exact HSA.out _ _ _ (by assumption)
                    clear hKK KK
                    refine ZPT ?_
                    refine wpAnyT.tk 24 rfl ?_
                    refine wpAnyT.tk 25 rfl ?_
                    refine wpAnyT.on 26 rfl fun KK hKK => ?_
                    go_simp
                    go_at_call 127; refine (HNo2.out _ _ _ k7).mono ?_; rintro e w8 ⟨rfl, k8⟩
                    go_wp2_with fail
                    refine hKK.out _ _ ?_ (fun hSh => ?_)
                    · exact HSA.out _ _ _ (by assumption)
                    clear hKK KK
                    refine ZPT ?_
                    refine wpAnyT.tk 27 rfl ?_
                    refine wpAnyT.last rfl (by kernel_rfl) ?_
                    have Ho := Lib.hid ho7
                    clear k7 k6 k5 K0 K HSA HMu1 HSu1 HNo1 HNo2 ho7 ho hSh
                    refine k8.storeR (v := V4 i) (J := M2.J i) (t := 50) rfl rfl _ _ _ rfl (M2.rb i) k M2.N z rfl rfl hlt4 (by repeat (first | with_reducible exact Mm.updV hin _ | with_reducible exact Upd.head _ | with_reducible apply Upd.tail)) frac_size ?_
                    intro W K
                    clear k8
                    go_wp2_with fail
                    replace K := ((K.famPutV (M := M2) (V := V4) (n := n) ZMB z ZMB ZMB i k).lessS (by repeat (first | with_reducible exact List.Sublist.refl _ | with_reducible apply List.Sublist.cons_cons | with_reducible apply List.Sublist.cons)) : St w0 _ ((M2.wV (put2 V4 i k z)).fam n :: ⟨rdP x3.B x3.m x3.d x3.k, rdS x3.B x3.m⟩ :: ⟨rdP x3.A x3.n x3.c x3.l, rdS x3.A x3.n⟩ :: D) _)
                    have HN1 := Lib.hid (show bs = false → Stg2 M2.N n r0 c m2 i (k + 1) (put2 V4 i k z) ∧ isQ x3 (m2 i c) ∧ m2 i c ≠ 0 from fun hb => by
                     have hst : stepK (m2 i k) (m2 i c) (m2 r0 k / m2 r0 c) = true := by
                      have := HBs.out
                      rw [hb] at this
                      cases h : stepK (m2 i k) (m2 i c) (m2 r0 k / m2 r0 c)
                      · rw [h] at this; cases this
                      · rfl
                     obtain ⟨e1, e2⟩ := step_val hst
                     have ho := Ho.out
                     rw [HOs.out, e1] at ho
                     exact ⟨HSS.out.step hir hst ⟨ho, e2⟩, HQQ.out, H00.out⟩)
                    have HN2 := Lib.hid (show bs = true → pivB m2 n r0 c = false from fun hb => Stg2.bad (k := k) HNv.out hin hir H00.out hlt4 (by
                     have := HBs.out
                     rw [hb] at this
                     cases h : stepK (m2 i k) (m2 i c) (m2 r0 k / m2 r0 c)
                     · rfl
                     · rw [h] at this; cases this))
                    clear HBs HOs HSS HQQ H00 Ho HB1 HB2 HX HQ
                    go_wp2_with fail
                    go_roundg (M2.N - (k + 1))
                    case rel => exact ⟨k + 1, bs, put2 V4 i k z, hlt4, rfl, by go_num, HN1, HN2, K⟩
                    case measure => omega
                  · go_wp2_with fail
                    go_roundg (n - (i + 1))
                    case rel => exact ⟨i + 1, true, V4, hin, rfl, by go_num, Lib.hid (fun h => by cases h), Lib.hid (fun _ => HP4.out trivial), (K.part (List.sublist_cons_self _ _)).lessS (by repeat (first | with_reducible exact List.Sublist.refl _ | with_reducible apply List.Sublist.cons_cons | with_reducible apply List.Sublist.cons))⟩
                    case measure => omega
                · have e : k = M2.N := by omega
                  have HSn := Lib.hid (fun (h : b4 = false) => Stg2.done HNv.out (V := V4) (by
                   have := (HS4.out h).1
                   rw [e] at this
                   exact this))
                  clear HS4
                  subst e
                  go_wp2_with fail
                  go_roundg (n - (i + 1))
                  case rel => exact ⟨i + 1, b4, V4, hin, rfl, by go_num, HSn, HP4, (K.part (List.sublist_cons_self _ _)).lessS (by repeat (first | with_reducible exact List.Sublist.refl _ | with_reducible apply List.Sublist.cons_cons | with_reducible apply List.Sublist.cons))⟩
                  case measure => omega
             · rw [hz] at HW
               have HSn := Lib.hid (fun (h : b3 = false) => (HS3.out h).next hin (Or.inr (by
                have h1 := (HQ3.out h).1.zero_iff (HQ3.out h).2
                rw [hz] at h1
                exact of_decide_eq_true h1.symm)))
               clear hz HS3 HQ3
               go_wp2_with (first | ((first | (refine ZAL ?_; clear K r; (first | ((fail_if_success revert b0); intro W b0 K r) | ((fail_if_success revert b1); intro W b1 K r) | ((fail_if_success revert b2); intro W b2 K r) | ((fail_if_success revert b3); intro W b3 K r) | ((fail_if_success revert b4); intro W b4 K r) | intro W b K r)) | (refine ZST ?_; clear K r; intro W K r))) | (go_at_call 126; refine (HW.out _).mono ?_; rintro e W' ⟨rfl, hb1⟩; replace K := K.keep hb1; clear r; have r := K.rawS; clear hb1))
               exact ZL59
         · have e : n = i := by omega
           subst e
           have HE := Lib.hid (⟨false, b3, M2.wV V3, rfl, K.part (List.sublist_cons_self _ _), HC2.out, by rw [HA.out]; simp; omega, fun h => by (cases h), fun _ => by
            rw [HA.out, ← HM2.out]
            refine ⟨?_, fun h => ?_⟩
            · cases b3
              · rw [(HS3.out rfl).pivot]; rfl
              · rw [HP3.out rfl]; rfl
            · exact (HS3.out h).all⟩ : PivP w0 L0 D n r0 c mb hb hc HJ m (.returned (.bool false)) wr)
           clear HS3 HP3 HA HM2 HC2 K hin
           go_wp2
           go_ret
           exact HE.out
  ·
   have e : a = n := by omega
   subst e
   have HA := Lib.hid (show findP m c (a - r0) r0 = a from findP_is (a - r0) r0 a h1 (by omega) HZ.out (fun h => absurd h (by omega)))
   have HE := Lib.hid (⟨true, false, M, rfl, K, HC.out, by rw [HA.out]; simp, fun _ => ⟨rfl, HG.out⟩, fun h => by cases h⟩ : PivP w0 L0 D a r0 c mb hb hc HJ m (.returned (.bool true)) wr)
   clear HZ HA HC HG K
   go_wp2
   go_ret
   exact HE.out
end Go.Proofs.YtdlcglndhhndpaaGreat
