/- Laws and walks; conditions stand in each theorem. -/
import Derived.Test.YtdlcglndhhndpaaGreatL38
set_option linter.unusedSimpArgs false
set_option linter.unusedVariables false
set_option maxHeartbeats 8000000
set_option maxRecDepth 100000
namespace Go.Proofs.YtdlcglndhhndpaaGreat
open Go.RowKit
theorem copied6_nil (A : Option Addr) (cap : Nat) (W : World) : Calls Tryz.prog 86 #[.slice A 0 cap] W fun e W' => e = .returned (.slice none 0 0) ∧ Below W.heap.size W W' := by
 have K := St.start W
 go_enter Tryz.func86, Tryz.ntmps86
 go_wp2_with fail
 go_loopg [3, 4] 0 (fun gk s3 s4 wr => gk = 0 ∧ s3 = .slice none 0 0 ∧ s4 = .int .i64 0 ∧ St W [] [] wr)
 case atStart => exact ⟨rfl, rfl, rfl, K⟩
 case round =>
  clear K
  obtain ⟨rfl, rfl, rfl, K⟩ := hrel
  go_wp2_with fail
  go_ret
  exact ⟨rfl, K.1⟩
theorem elim6_nil (A : Option Addr) (cap : Nat) (stop : Bool) (m0 : Mx) (w : World) : Calls Tryz.prog 39 #[.slice A 0 cap, .int .i64 0, .bool stop] w (ElimR w 0 stop m0) := by
 have K := St.start w
 go_enter Tryz.func39, Tryz.ntmps39
 go_wp2_with fail
 refine (copied6_nil A cap _).mono ?_
 rintro e W1 ⟨rfl, hb1⟩
 replace K := K.keep hb1
 clear hb1
 go_wp2_with fail
 go_loopg [10, 11, 12] 0 (fun gk s10 s11 s12 wr => gk = 0 ∧ s10 = .slice none 0 0 ∧ s11 = .int .i64 0 ∧ s12 = .int .i64 0 ∧ St w [] [] wr)
 case atStart => exact ⟨rfl, rfl, rfl, rfl, K⟩
 case round =>
  clear K
  obtain ⟨rfl, rfl, rfl, rfl, K⟩ := hrel
  have HEx := Lib.hid (show ElimR w 0 stop m0 (.returned (.tuple #[.slice none 0 0, .slice none 0 0, .bool true])) wr from ⟨none, 0, none, 0, true, [], m0, rfl, K.1, Rd.nil, fun h => (by cases h), fun _ => ⟨rfl, fun i k hi => absurd hi (by omega), Rd.nil⟩⟩)
  clear K
  go_wp2_with fail
  exact bodyPost_ret (v := .tuple #[.slice none 0 0, .slice none 0 0, .bool true]) (by simp [results, Tryz.results39, go_sem] <;> rfl) rfl HEx.out
theorem elim6_any (A : Option Addr) (n cap : Nat) (l : List Rv) (stop : Bool) (w : World) (hl : RdR w w.heap.size A n cap l) (hr : rightL (n : Int) l = true) :
 Calls Tryz.prog 39 #[.slice A n cap, .int .i64 n, .bool stop] w (ElimR w n stop (mxR l)) := by
 have hn40 : n ≤ 40 := by
  unfold rightL at hr
  rw [Bool.and_eq_true, decide_eq_true_eq] at hr
  omega
 have hcap := hl.caps
 by_cases hn0 : n = 0
 · subst hn0
   exact elim6_nil A cap stop _ w
 have hnp : 0 < n := by omega
 have HRw := Lib.hid (show ∀ (k : Nat) x, l[k]? = some x → GoodR n (⟨none, n, 0, x.a, ⟨x.b.s, none, 0, 0, x.b.l, x.b.t, none, 0, 0, x.b.m⟩⟩ : Rr) (mxR l k) ∧ x.a.length = n from fun k x hx => by
  have h1 := right_row hr hx
  have e1 : ∀ j, j < n → x.a[j]? = some (fvQ (mxR l k j)) ∧ fitsF (mxR l k j) = true := fun j hj => by
   have h2 := List.getElem?_eq_getElem (l := x.a) (i := j) (by rw [h1.1]; exact hj)
   have h3 := h1.2.2 _ (List.getElem_mem (l := x.a) (n := j) (by rw [h1.1]; exact hj))
   have h4 := mxR_el hx h1.1 h2
   have h5 := fv_std h3
   rw [h4, h2]
   exact ⟨congrArg some (fv_form h3), h5.2⟩
  have e2 : x.b = fvQ (mxR l k n) ∧ fitsF (mxR l k n) = true := by
   rw [mxR_val hx h1.1]
   exact ⟨fv_form h1.2.1, (fv_std h1.2.1).2⟩
  refine ⟨⟨?_, rfl, fun j hj => ?_⟩, h1.1⟩
  · unfold rowV Rr.rv
    have e3 : x.a = ofF n fun j => fvQ (mxR l k j) := List.ext_getElem? fun j => by
     by_cases hj : j < n
     · rw [(e1 j hj).1, ofF_get hj]
     · rw [List.getElem?_eq_none (by rw [h1.1]; omega), List.getElem?_eq_none (by rw [ofF_len]; omega)]
    rw [← e2.1, ← e3]
    rfl
  · by_cases e : j = n
    · rw [e]; exact e2.2
    · exact (e1 j (by omega)).2)
 obtain ⟨m0, hm0⟩ : ∃ m0, m0 = mxR l := ⟨_, rfl⟩
 rw [← hm0] at HRw ⊢
 have HL := Lib.hid hl
 have K := St.start w
 have HCo := Lib.hid (fun W (K : St w [] [] W) => copied6_own A n cap n l w W [] [] K HL.out (by omega) (fun k x hx => (HRw.out k x hx).2) hnp (by omega))
 clear hl hr hm0
 go_enter Tryz.func39, Tryz.ntmps39
 go_wp2_with fail
 refine (HCo.out _ K).mono ?_
 rintro e W1 ⟨u, S, v, X, rfl, hV, hO, k1⟩
 obtain ⟨g, gc, J, hv1, hX1, hgc, -⟩ := hO.out.blk2 rr_sized hnp
 subst hv1 hX1
 have K1 : St w [((g, recA Rr.cs n u J, 56) : Blk)] [rrF n u S] W1 := k1
 have HG0 := Lib.hid (show GoodU n u m0 from fun i hi => by
  obtain ⟨x, h1, h2, h3⟩ := hV.out i hi
  have h4 := (HRw.out i x h1).1
  exact ⟨h2.trans h4.1, h3, h4.2.2⟩)
 clear k1 hV hO HCo K HRw HL
 go_wp2_with fail
 go_loopg [10, 11, 12] n (fun gk s10 s11 s12 wr => ∃ (c : Nat) (m : Mx) (fr : List Nat) (vf : Value) (Xf : List Blk) (u : Nat → Rr) (S : Nat → Nat → Prop), c ≤ n ∧ gk = n - c ∧ s10 = vf ∧ s11 = .int .i64 ((c - fr.length : Nat) : Int) ∧ s12 = .int .i64 c ∧ Hid (fr.length ≤ c) ∧ Hid (elimF n stop n m0 [] = elimF n stop (n - c) m fr) ∧ Hid (GoodU n u m) ∧ Hid (OwL 1 iEnc 3 vf (fr.map fun c : Nat => (c : Int)) Xf) ∧ St w ((g, recA Rr.cs n u J, 56) :: Xf) [rrF n u S] wr)
 case atStart => exact ⟨0, m0, [], _, [], u, S, Nat.zero_le _, rfl, rfl, rfl, rfl, Lib.hid (Nat.le_refl _), Lib.hid rfl, HG0, Lib.hid OwL.nil, K1⟩
 case round =>
  clear K1 HG0
  obtain ⟨c, m, fr, vf, Xf, u, S, hcn, rfl, rfl, rfl, rfl, HF, HE, HG, Hof, K⟩ := hrel
  by_cases hlt : c < n
  · have hci : (c : Int) < (n : Int) := by omega
    have hc0 : (0 : Int) ≤ (c : Int) := by omega
    have hltd : decide (c < n) = true := decide_eq_true hlt
    obtain ⟨Af, cf, hs⟩ := Hof.out.shapeL
    rw [List.length_map] at hs
    subst hs
    have he := HE.out
    rw [elim_step hlt] at he
    obtain ⟨rr, hrr⟩ : ∃ rr, rr = c - fr.length := ⟨_, rfl⟩
    rw [← hrr] at he ⊢
    have hrc : rr ≤ c := by omega
    have hrn := Lib.hid (show rr < n by omega)
    have HRr := Lib.hid hrr
    have HEl := Lib.hid he
    obtain ⟨fl, hfl⟩ : ∃ fl, fl = fr.length := ⟨_, rfl⟩
    rw [← hfl] at Hof HF ⊢
    have HFl := Lib.hid hfl
    clear hrr he HE hfl
    go_wp2_with fail
    go_loopg [13] (n + 1 - rr) (fun gk s13 wb => ∃ (a : Nat), rr ≤ a ∧ a ≤ n ∧ gk = n + 1 - a ∧ s13 = .int .i64 a ∧ Hid (∀ i, rr ≤ i → i < a → m i c = 0) ∧ St w ((g, recA Rr.cs n u J, 56) :: Xf) [rrF n u S] wb)
    case atStart => exact ⟨rr, Nat.le_refl _, by omega, rfl, rfl, Lib.hid (fun i h1 h2 => absurd h2 (by omega)), K⟩
    case round =>
     clear K
     obtain ⟨a, hra, han, rfl, rfl, HZ, K⟩ := hrel
     by_cases hla : a < n
     · have hai : (a : Int) < (n : Int) := by omega
       have ha0 : (0 : Int) ≤ (a : Int) := by omega
       have halt : decide (a < n) = true := decide_eq_true hla
       have pa := (K.cellRR (v := u) (i := a) hla ZMB).1.1
       obtain ⟨eb, eo, ye, hAe, hce, hqe, hr1, hr2⟩ := elR ((K.famAt (P := fun i => (u i).on) (i := a) ZMB hla).1) (HG.out a hla) hlt
       rw [hAe, (HG.out a hla).2.1] at pa
       have hcA : n ≤ (u a).c ∧ (u a).c ≤ 9223372036854775807 := by
        have h1 := ((K.famAt (P := fun i => (u i).on) (i := a) ZMB hla).1).1.caps
        rw [(HG.out a hla).2.1] at h1
        exact ⟨h1.1, h1.2.1⟩
       by_cases hz : m a c = 0
       · have HZ2 := Lib.hid (show ∀ i, rr ≤ i → i < a + 1 → m i c = 0 from fun i h1 h2 => by
          by_cases e : i = a
          · rw [e]; exact hz
          · exact HZ.out i h1 (by omega))
         have Hqe := Lib.hid hqe
         clear hqe
         go_wp2_with fail
         refine (callZero K Hqe.out).mono ?_
         rintro e W2 ⟨rfl, k2⟩
         rw [decide_eq_true hz]
         clear K pa hce hr1 hr2 hAe hz HZ
         go_wp2_with fail
         go_roundg (n + 1 - (a + 1))
         case rel => exact ⟨a + 1, by omega, hla, rfl, by go_num, HZ2, k2⟩
         case measure => omega
       · have ha := findP_is (m := m) (c := c) (n - rr) rr a hra (by omega) HZ.out (fun _ => hz)
         have he := HEl.out
         rw [ha, if_neg (show ¬ a = n by omega)] at he
         have HE2 := Lib.hid he
         have hane : ¬ (a : Int) = (n : Int) := by omega
         have H0 := Lib.hid (show swpM m rr a rr c ≠ 0 by unfold swpM; rw [if_pos rfl]; exact hz)
         have HG1 := Lib.hid (swp_good HG.out hrn.out hla)
         have Hqe := Lib.hid hqe
         clear hqe HEl he ha HZ
         go_wp2_with fail
         refine (callZero K Hqe.out).mono ?_
         rintro e W2 ⟨rfl, k2⟩
         rw [decide_eq_false hz]
         replace K := k2
         clear k2 pa hce hr1 hr2 hAe hz Hqe
         have hri : (rr : Int) < (n : Int) := by have := hrn.out; omega
         have hr0 : (0 : Int) ≤ (rr : Int) := by omega
         have hrn' := hrn.out
         go_upto_region 14 with fail
         have pr := (K.cellRR (v := u) (i := rr) hrn' ZMB).1
         go_upto_region 15 with (first | (apply K.alloc; rfl; rfl; exact row_zero; clear K; intro W b1 K) | (apply K.storeA; rfl; rfl; rfl; rfl; rfl; (exact ZUP); exact row_size; rfl; rfl; rfl; clear K; intro W K))
         clear pr
         have pa := (K.cellRR (v := u) (i := a) hla ZMB).1
         go_upto_region 16 with (refine K.storeRR rfl rfl _ _ _ rfl g rr n (u a) rfl rfl (by assumption) ZUA row_size ?_; clear K; intro W K)
         clear pa
         have hBb1 := K.blk (b := b1) (cs := #[.slice (u rr).A (u rr).n (u rr).c, .int .i64 (u rr).y.s, .slice (u rr).y.A (u rr).y.n (u rr).y.c, .int .i64 (u rr).y.t, .slice (u rr).y.B (u rr).y.m (u rr).y.d]) (t := 56) ZMB
         have q0b1 := hBb1.cell (j := 0) rfl
         have q1b1 := hBb1.cell (j := 1) rfl
         have q2b1 := hBb1.cell (j := 2) rfl
         have q3b1 := hBb1.cell (j := 3) rfl
         have q4b1 := hBb1.cell (j := 4) rfl
         clear hBb1
         go_upto_region 17 with (refine K.storeRR rfl rfl _ _ _ rfl g a n (u rr) rfl rfl (by assumption) ZUA row_size ?_; clear K; intro W K)
         clear q0b1 q1b1 q2b1 q3b1 q4b1
         have k3 := K.rrPut (u := u) (S := S) ZMB rr (u a) (S a) (K.famAt (P := fun i => (u i).on) (i := a) ZMB hla)
         have k4 := k3.rrPut (u := putF u rr (u a)) (S := putF S rr (S a)) List.mem_cons_self a (u rr) (S rr) (k3.famAt (P := fun i => (u i).on) (i := rr) (List.mem_cons_of_mem _ List.mem_cons_self) hrn')
         have k5 := (k4.lessS (D' := [rrF n (putF (putF u rr (u a)) a (u rr)) (putF (putF S rr (S a)) a (S rr))]) (by repeat (first | with_reducible exact List.Sublist.refl _ | with_reducible apply List.Sublist.cons_cons | with_reducible apply List.Sublist.cons))).part (L' := (g, recA Rr.cs n (putF (putF u rr (u a)) a (u rr)) J, 56) :: Xf) (List.sublist_cons_self _ _)
         clear K k3 k4 HG
         generalize putF (putF u rr (u a)) a (u rr) = u1 at k5 HG1
         generalize putF (putF S rr (S a)) a (S rr) = S1 at k5
         generalize swpM m rr a = m1 at H0 HG1 HE2
         have K := k5
         clear k5
         have pr := (K.cellRR (v := u1) (i := rr) hrn' ZMB).1
         cases hd : divX (m1 rr) n c
         case false =>
          have he := HE2.out
          rw [piv_no1 hd, if_neg (by decide)] at he
          have HN := Lib.hid he
          have Hd := Lib.hid hd
          clear HE2 he hd
          go_wp2_with fail
          refine (callDvd K ((K.famAt (P := fun i => (u1 i).on) (i := rr) ZMB hrn').1) (HG1.out rr hrn') hlt H0.out (by omega) Hd.out).mono ?_
          rintro e W3 ⟨z, rfl, -, k3, -⟩
          replace K := k3
          clear k3 pr
          go_wp2_with (first | (apply K.alloc; rfl; rfl; exact row_zero; clear K; intro W b2 K) | (apply K.storeA; rfl; rfl; rfl; rfl; rfl; (exact ZUP); exact row_size; rfl; rfl; rfl; clear K; intro W K))
          have HEx := Lib.hid (ElimR.mk (stop := stop) (b := false) (m0 := m0) (m' := m1) (fr := fr) (K.part (L' := (g, recA Rr.cs n u1 J, 56) :: Xf) (List.sublist_cons_self _ _)) (by omega) (by have := HF.out; have := HFl.out; omega) Hof.out hgc (fun _ => HN.out) (fun h => by cases h))
          clear K
          exact bodyPost_ret (v := .tuple #[.slice (some ⟨g, 0, none⟩) n gc, _, .bool false]) (by simp [results, Tryz.results39, go_sem] <;> rfl) rfl HEx.out
         have Hd := Lib.hid hd
         clear hd
         go_wp2_with fail
         refine (callDvd K ((K.famAt (P := fun i => (u1 i).on) (i := rr) ZMB hrn').1) (HG1.out rr hrn') hlt H0.out (by omega) Hd.out).mono ?_
         rintro e W3 ⟨z, rfl, gz, -, hS1⟩
         obtain ⟨S9, k3⟩ := hS1 rfl
         replace K := k3
         clear k3 pr hS1
         go_upto_region 20 with (first | (apply K.alloc; rfl; rfl; exact row_zero; clear K; intro W b2 K) | (apply K.storeA; rfl; rfl; rfl; rfl; rfl; (exact ZUP); exact row_size; rfl; rfl; rfl; clear K; intro W K))
         have hBb2 := K.blk (b := b2) (cs := #[.slice z.A z.n z.c, .int .i64 z.y.s, .slice z.y.A z.y.n z.y.c, .int .i64 z.y.t, .slice z.y.B z.y.m z.y.d]) (t := 56) ZMB
         have q0b2 := hBb2.cell (j := 0) rfl
         have q1b2 := hBb2.cell (j := 1) rfl
         have q2b2 := hBb2.cell (j := 2) rfl
         have q3b2 := hBb2.cell (j := 3) rfl
         have q4b2 := hBb2.cell (j := 4) rfl
         clear hBb2
         go_wp2_with (refine K.storeRR rfl rfl _ _ _ rfl g rr n z rfl rfl (by assumption) ZUA row_size ?_; clear K; intro W K)
         clear q0b2 q1b2 q2b2 q3b2 q4b2
         have HGs := Lib.hid (stg_first (c := c) HG1.out (gz.out (by simp)))
         have k4 := ((K.rrPut (u := u1) (S := S1) ZMB rr z S9 (K.okAt ZMB)).lessS (D' := [rrF n (putF u1 rr z) (putF S1 rr S9)]) (by repeat (first | with_reducible exact List.Sublist.refl _ | with_reducible apply List.Sublist.cons_cons | with_reducible apply List.Sublist.cons))).part (L' := (g, recA Rr.cs n (putF u1 rr z) J, 56) :: Xf) (List.sublist_cons_self _ _)
         clear K HG1 gz
         go_loopg [17] n (fun gk s17 wc => ∃ (i : Nat) (u2 : Nat → Rr) (S2 : Nat → Nat → Prop), i ≤ n ∧ gk = n - i ∧ s17 = .int .i64 i ∧ Hid (GoodU n u2 (stgM m1 rr c i)) ∧ Hid (∀ j, j < i → j = rr ∨ m1 j c = 0 ∨ subX (m1 j) (fun k => m1 rr k / m1 rr c) n c = true) ∧ St w ((g, recA Rr.cs n u2 J, 56) :: Xf) [rrF n u2 S2] wc)
         case atStart => exact ⟨0, putF u1 rr z, putF S1 rr S9, Nat.zero_le _, rfl, rfl, HGs, Lib.hid (fun j h => absurd h (by omega)), k4⟩
         case round =>
          clear k4 HGs
          obtain ⟨i, u2, S2, hi, rfl, rfl, HG2, HSb, K⟩ := hrel
          by_cases hlt2 : i < n
          · have hii : (i : Int) < (n : Int) := by omega
            have hi0 : (0 : Int) ≤ (i : Int) := by omega
            by_cases hir : i = rr
            · have hire : (i : Int) = (rr : Int) := by omega
              have HG3 := Lib.hid (HG2.out)
              rw [← stg_skip (Or.inl hir)] at HG3
              have HSb2 := Lib.hid (show ∀ j, j < i + 1 → j = rr ∨ m1 j c = 0 ∨ subX (m1 j) (fun k => m1 rr k / m1 rr c) n c = true from fun j hj => by
               by_cases e : j = i
               · exact Or.inl (e.trans hir)
               · exact HSb.out j (by omega))
              clear HG2 HSb hir
              go_wp2_with fail
              go_roundg (n - (i + 1))
              case rel => exact ⟨i + 1, u2, S2, hlt2, rfl, by go_num, HG3, HSb2, K⟩
              case measure => omega
            have hire : ¬ (i : Int) = (rr : Int) := by omega
            have pi := (K.cellRR (v := u2) (i := i) hlt2 ZMB).1.1
            obtain ⟨eb2, eo2, y2, hAe, hce, hqe, hr1, hr2⟩ := elR ((K.famAt (P := fun i => (u2 i).on) (i := i) ZMB hlt2).1) ((HG2.out i hlt2).congr (stg_row hir)) hlt
            rw [hAe, (HG2.out i hlt2).2.1] at pi
            have hcA2 : n ≤ (u2 i).c ∧ (u2 i).c ≤ 9223372036854775807 := by
             have h1 := ((K.famAt (P := fun i => (u2 i).on) (i := i) ZMB hlt2).1).1.caps
             rw [(HG2.out i hlt2).2.1] at h1
             exact ⟨h1.1, h1.2.1⟩
            have Hqe := Lib.hid hqe
            clear hqe
            go_wp2_with fail
            refine (callZero K Hqe.out).mono ?_
            rintro e W4 ⟨rfl, k5⟩
            replace K := k5
            clear k5 pi hce hr1 hr2 hAe Hqe hcA2
            by_cases hz2 : m1 i c = 0
            · rw [decide_eq_true hz2]
              have HG3 := Lib.hid (HG2.out)
              rw [← stg_skip (Or.inr hz2)] at HG3
              have HSb2 := Lib.hid (show ∀ j, j < i + 1 → j = rr ∨ m1 j c = 0 ∨ subX (m1 j) (fun k => m1 rr k / m1 rr c) n c = true from fun j hj => by
               by_cases e : j = i
               · exact Or.inr (Or.inl (by rw [e]; exact hz2))
               · exact HSb.out j (by omega))
              clear HG2 HSb hz2
              go_wp2_with fail
              go_roundg (n - (i + 1))
              case rel => exact ⟨i + 1, u2, S2, hlt2, rfl, by go_num, HG3, HSb2, K⟩
              case measure => omega
            rw [decide_eq_false hz2]
            cases hsb : subX (m1 i) (fun k => m1 rr k / m1 rr c) n c
            · have he := HE2.out
              rw [piv_no2 hlt2 hir hz2 hsb, if_neg (by decide)] at he
              have HN := Lib.hid he
              clear HE2 he HSb hz2
              go_upto_region 25 with fail
              have HS := Lib.hid (fun V L5 D5 (h : St w L5 D5 V) (hm : ((g, recA Rr.cs n u2 J, 56) : Blk) ∈ L5) => (show (V.cell? ⟨g, i * 5, none⟩ = some (.slice (u2 i).A (u2 i).n (u2 i).c) ∧ V.cell? ⟨g, i * 5 + 1, none⟩ = some (.int .i64 (u2 i).y.s) ∧ V.cell? ⟨g, i * 5 + 2, none⟩ = some (.slice (u2 i).y.A (u2 i).y.n (u2 i).y.c) ∧ V.cell? ⟨g, i * 5 + 3, none⟩ = some (.int .i64 (u2 i).y.t) ∧ V.cell? ⟨g, i * 5 + 4, none⟩ = some (.slice (u2 i).y.B (u2 i).y.m (u2 i).y.d)) ∧ (V.cell? ⟨g, rr * 5, none⟩ = some (.slice (u2 rr).A (u2 rr).n (u2 rr).c) ∧ V.cell? ⟨g, rr * 5 + 1, none⟩ = some (.int .i64 (u2 rr).y.s) ∧ V.cell? ⟨g, rr * 5 + 2, none⟩ = some (.slice (u2 rr).y.A (u2 rr).y.n (u2 rr).y.c) ∧ V.cell? ⟨g, rr * 5 + 3, none⟩ = some (.int .i64 (u2 rr).y.t) ∧ V.cell? ⟨g, rr * 5 + 4, none⟩ = some (.slice (u2 rr).y.B (u2 rr).y.m (u2 rr).y.d)) from ⟨(h.cellRR hlt2 hm).1, (h.cellRR hrn.out hm).1⟩))
              have HCal := Lib.hid (fun V L5 D5 (h : St w L5 D5 V) (hm : rrF n u2 S2 ∈ D5) => callRdc h ((h.famAt hm (i := i) hlt2).1) ((h.famAt hm (i := rr) hrn.out).1) ((HG2.out i hlt2).congr (stg_row hir)) ((HG2.out rr hrn.out).congr stg_piv) hlt (by omega) hsb)
              have K0 := K.drew
              have s0 := HS.out _ _ _ K0 ZMB
              clear K hsb
              refine wp_region_P 15 (fun V => (V.cell? ⟨g, i * 5, none⟩ = some (.slice (u2 i).A (u2 i).n (u2 i).c) ∧ V.cell? ⟨g, i * 5 + 1, none⟩ = some (.int .i64 (u2 i).y.s) ∧ V.cell? ⟨g, i * 5 + 2, none⟩ = some (.slice (u2 i).y.A (u2 i).y.n (u2 i).y.c) ∧ V.cell? ⟨g, i * 5 + 3, none⟩ = some (.int .i64 (u2 i).y.t) ∧ V.cell? ⟨g, i * 5 + 4, none⟩ = some (.slice (u2 i).y.B (u2 i).y.m (u2 i).y.d)) ∧ (V.cell? ⟨g, rr * 5, none⟩ = some (.slice (u2 rr).A (u2 rr).n (u2 rr).c) ∧ V.cell? ⟨g, rr * 5 + 1, none⟩ = some (.int .i64 (u2 rr).y.s) ∧ V.cell? ⟨g, rr * 5 + 2, none⟩ = some (.slice (u2 rr).y.A (u2 rr).y.n (u2 rr).y.c) ∧ V.cell? ⟨g, rr * 5 + 3, none⟩ = some (.int .i64 (u2 rr).y.t) ∧ V.cell? ⟨g, rr * 5 + 4, none⟩ = some (.slice (u2 rr).y.B (u2 rr).y.m (u2 rr).y.d))) (by kernel_rfl) s0 (fun hSh => ?_)
              clear s0
              generalize World.drew W4 = V0 at K0 hSh ⊢
              refine wpAnyP.tkU 0 rfl ?_
              refine wpAnyP.tkU 1 rfl ?_
              refine wpAnyP.tkU 2 rfl ?_
              refine wpAnyP.tk 3 rfl ?_
              refine wpAnyP.tkU 4 rfl ?_
              refine wpAnyP.tkU 5 rfl ?_
              refine wpAnyP.tkU 6 rfl ?_
              refine wpAnyP.tk 7 rfl ?_
              refine wpAnyP.tkU 8 rfl ?_
              refine wpAnyP.tkU 9 rfl ?_
              refine wpAnyP.two (i := 10) (j := 14) rfl rfl rfl rfl (by kernel_rfl) (fun KK hKK => ?_) (fun KK hKK => ?_)
              focus
               go_simp
               go_at_call 89
               refine (HCal.out _ _ _ K0 ZMB).mono ?_
               rintro e V1 ⟨z1, rfl, gz1, k1, hS1⟩
               clear hS1
               go_wp2_with fail
               refine hKK.out _ _ (fun _ => HS.out _ _ _ k1 ZMB) (fun hSq => ?_)
               have hSh := HS.out _ _ _ k1 ZMB
               clear hKK KK hSq
               refine ZPT ?_
               refine wpAnyP.tkU 11 rfl ?_
               refine wpAnyP.tkU 12 rfl ?_
               refine wpAnyP.tkU 13 rfl ?_
               refine wpAnyP.on 14 rfl fun KK hKK => ?_
               go_simp
               have k2 := k1.new #[.slice none 0 0, .int .i64 0, .slice none 0 0, .int .i64 0, .slice none 0 0] 56
               generalize V1.alloc (.cells #[.slice none 0 0, .int .i64 0, .slice none 0 0, .int .i64 0, .slice none 0 0] 56) = V2 at k2 ⊢
               generalize V1.heap.size = g9 at k2 ⊢
               refine hKK.out _ _ (fun _ => HS.out _ _ _ k2 ZMB) (fun hSq => ?_)
               have hSh := HS.out _ _ _ k2 ZMB
               clear hKK KK hSq
               refine ZPT ?_
               have kz := k2
               clear k2 k1
              rotate_right
              focus
               go_simp
               have k1 := K0.new #[.slice none 0 0, .int .i64 0, .slice none 0 0, .int .i64 0, .slice none 0 0] 56
               generalize V0.alloc (.cells #[.slice none 0 0, .int .i64 0, .slice none 0 0, .int .i64 0, .slice none 0 0] 56) = V1 at k1 ⊢
               generalize V0.heap.size = g9 at k1 ⊢
               refine hKK.out _ _ (fun _ => HS.out _ _ _ k1 ZMB) (fun hSq => ?_)
               have hSh := HS.out _ _ _ k1 ZMB
               clear hKK KK hSq
               refine ZPT ?_
               refine wpAnyP.on 10 rfl fun KK hKK => ?_
               go_simp
               go_at_call 89
               refine (HCal.out _ _ _ k1 ZMB).mono ?_
               rintro e V2 ⟨z1, rfl, gz1, k2, hS1⟩
               clear hS1
               go_wp2_with fail
               refine hKK.out _ _ (fun _ => HS.out _ _ _ k2 ZMB) (fun hSq => ?_)
               have hSh := HS.out _ _ _ k2 ZMB
               clear hKK KK hSq
               refine ZPT ?_
               refine wpAnyP.tkU 11 rfl ?_
               refine wpAnyP.tkU 12 rfl ?_
               refine wpAnyP.tkU 13 rfl ?_
               have kz := k2
               clear k2 k1
              all_goals
               refine wpAnyP.onF 15 rfl fun KK hKK => ?_
               have r := kz.rawS
               have zz := kz.thaw (g := g9) (cs := #[.slice none 0 0, .int .i64 0, .slice none 0 0, .int .i64 0, .slice none 0 0]) (t := 56) ZMB
               go_simp
               have K9 := kz.set5R (b := g9) (t := 56) (x0 := .slice none 0 0) (x1 := .int .i64 0) (x2 := .slice none 0 0) (x3 := .int .i64 0) (x4 := .slice none 0 0) (u0 := .slice z1.A z1.n z1.c) (u1 := .int .i64 z1.y.s) (u2 := .slice z1.y.A z1.y.n z1.y.c) (u3 := .int .i64 z1.y.t) (u4 := .slice z1.y.B z1.y.m z1.y.d) (Upd.head _)
               refine hKK.out _ _ ?_
               clear hKK KK r zz
               refine ZPT ?_
               refine wpAnyP.tkF 16 rfl ?_
               refine ⟨by kernel_rfl, ?_⟩
               generalize (((((V2.setCell ⟨g9, 0, none⟩ (.slice z1.A z1.n z1.c)).setCell ⟨g9, 1, none⟩ (.int .i64 z1.y.s)).setCell ⟨g9, 2, none⟩ (.slice z1.y.A z1.y.n z1.y.c)).setCell ⟨g9, 3, none⟩ (.int .i64 z1.y.t)).setCell ⟨g9, 4, none⟩ (.slice z1.y.B z1.y.m z1.y.d)) = W9 at K9 ⊢
               clear kz hSh HS HCal
               have K := K9
               clear K9
              all_goals
               go_wp2_with fail
               have HEx := Lib.hid (ElimR.mk (stop := stop) (b := false) (m0 := m0) (m' := m1) (fr := fr) (K.part (L' := (g, recA Rr.cs n u2 J, 56) :: Xf) (List.sublist_cons_self _ _)) (by omega) (by have := HF.out; have := HFl.out; omega) Hof.out hgc (fun _ => HN.out) (fun h => by cases h))
               clear K
               exact bodyPost_ret (v := .tuple #[.slice (some ⟨g, 0, none⟩) n gc, _, .bool false]) (by simp [results, Tryz.results39, go_sem] <;> rfl) rfl HEx.out
            · have HSb2 := Lib.hid (show ∀ j, j < i + 1 → j = rr ∨ m1 j c = 0 ∨ subX (m1 j) (fun k => m1 rr k / m1 rr c) n c = true from fun j hj => by
               by_cases e : j = i
               · exact Or.inr (Or.inr (by rw [e]; exact hsb))
               · exact HSb.out j (by omega))
              clear HSb hz2
              go_upto_region 25 with fail
              have HS := Lib.hid (fun V L5 D5 (h : St w L5 D5 V) (hm : ((g, recA Rr.cs n u2 J, 56) : Blk) ∈ L5) => (show (V.cell? ⟨g, i * 5, none⟩ = some (.slice (u2 i).A (u2 i).n (u2 i).c) ∧ V.cell? ⟨g, i * 5 + 1, none⟩ = some (.int .i64 (u2 i).y.s) ∧ V.cell? ⟨g, i * 5 + 2, none⟩ = some (.slice (u2 i).y.A (u2 i).y.n (u2 i).y.c) ∧ V.cell? ⟨g, i * 5 + 3, none⟩ = some (.int .i64 (u2 i).y.t) ∧ V.cell? ⟨g, i * 5 + 4, none⟩ = some (.slice (u2 i).y.B (u2 i).y.m (u2 i).y.d)) ∧ (V.cell? ⟨g, rr * 5, none⟩ = some (.slice (u2 rr).A (u2 rr).n (u2 rr).c) ∧ V.cell? ⟨g, rr * 5 + 1, none⟩ = some (.int .i64 (u2 rr).y.s) ∧ V.cell? ⟨g, rr * 5 + 2, none⟩ = some (.slice (u2 rr).y.A (u2 rr).y.n (u2 rr).y.c) ∧ V.cell? ⟨g, rr * 5 + 3, none⟩ = some (.int .i64 (u2 rr).y.t) ∧ V.cell? ⟨g, rr * 5 + 4, none⟩ = some (.slice (u2 rr).y.B (u2 rr).y.m (u2 rr).y.d)) from ⟨(h.cellRR hlt2 hm).1, (h.cellRR hrn.out hm).1⟩))
              have HCal := Lib.hid (fun V L5 D5 (h : St w L5 D5 V) (hm : rrF n u2 S2 ∈ D5) => callRdc h ((h.famAt hm (i := i) hlt2).1) ((h.famAt hm (i := rr) hrn.out).1) ((HG2.out i hlt2).congr (stg_row hir)) ((HG2.out rr hrn.out).congr stg_piv) hlt (by omega) hsb)
              have K0 := K.drew
              have s0 := HS.out _ _ _ K0 ZMB
              clear K hsb
              refine wp_region_P 15 (fun V => (V.cell? ⟨g, i * 5, none⟩ = some (.slice (u2 i).A (u2 i).n (u2 i).c) ∧ V.cell? ⟨g, i * 5 + 1, none⟩ = some (.int .i64 (u2 i).y.s) ∧ V.cell? ⟨g, i * 5 + 2, none⟩ = some (.slice (u2 i).y.A (u2 i).y.n (u2 i).y.c) ∧ V.cell? ⟨g, i * 5 + 3, none⟩ = some (.int .i64 (u2 i).y.t) ∧ V.cell? ⟨g, i * 5 + 4, none⟩ = some (.slice (u2 i).y.B (u2 i).y.m (u2 i).y.d)) ∧ (V.cell? ⟨g, rr * 5, none⟩ = some (.slice (u2 rr).A (u2 rr).n (u2 rr).c) ∧ V.cell? ⟨g, rr * 5 + 1, none⟩ = some (.int .i64 (u2 rr).y.s) ∧ V.cell? ⟨g, rr * 5 + 2, none⟩ = some (.slice (u2 rr).y.A (u2 rr).y.n (u2 rr).y.c) ∧ V.cell? ⟨g, rr * 5 + 3, none⟩ = some (.int .i64 (u2 rr).y.t) ∧ V.cell? ⟨g, rr * 5 + 4, none⟩ = some (.slice (u2 rr).y.B (u2 rr).y.m (u2 rr).y.d))) (by kernel_rfl) s0 (fun hSh => ?_)
              clear s0
              generalize World.drew W4 = V0 at K0 hSh ⊢
              refine wpAnyP.tkU 0 rfl ?_
              refine wpAnyP.tkU 1 rfl ?_
              refine wpAnyP.tkU 2 rfl ?_
              refine wpAnyP.tk 3 rfl ?_
              refine wpAnyP.tkU 4 rfl ?_
              refine wpAnyP.tkU 5 rfl ?_
              refine wpAnyP.tkU 6 rfl ?_
              refine wpAnyP.tk 7 rfl ?_
              refine wpAnyP.tkU 8 rfl ?_
              refine wpAnyP.tkU 9 rfl ?_
              refine wpAnyP.two (i := 10) (j := 14) rfl rfl rfl rfl (by kernel_rfl) (fun KK hKK => ?_) (fun KK hKK => ?_)
              focus
               go_simp
               go_at_call 89
               refine (HCal.out _ _ _ K0 ZMB).mono ?_
               rintro e V1 ⟨z1, rfl, gz1, -, hS1⟩
               obtain ⟨S9, k1⟩ := hS1 rfl
               clear hS1
               go_wp2_with fail
               refine hKK.out _ _ (fun _ => HS.out _ _ _ k1 ZMB) (fun hSq => ?_)
               have hSh := HS.out _ _ _ k1 ZMB
               clear hKK KK hSq
               refine ZPT ?_
               refine wpAnyP.tkU 11 rfl ?_
               refine wpAnyP.tkU 12 rfl ?_
               refine wpAnyP.tkU 13 rfl ?_
               refine wpAnyP.on 14 rfl fun KK hKK => ?_
               go_simp
               have k2 := k1.new #[.slice none 0 0, .int .i64 0, .slice none 0 0, .int .i64 0, .slice none 0 0] 56
               generalize V1.alloc (.cells #[.slice none 0 0, .int .i64 0, .slice none 0 0, .int .i64 0, .slice none 0 0] 56) = V2 at k2 ⊢
               generalize V1.heap.size = g9 at k2 ⊢
               refine hKK.out _ _ (fun _ => HS.out _ _ _ k2 ZMB) (fun hSq => ?_)
               have hSh := HS.out _ _ _ k2 ZMB
               clear hKK KK hSq
               refine ZPT ?_
               have kz := k2
               clear k2 k1
              rotate_right
              focus
               go_simp
               have k1 := K0.new #[.slice none 0 0, .int .i64 0, .slice none 0 0, .int .i64 0, .slice none 0 0] 56
               generalize V0.alloc (.cells #[.slice none 0 0, .int .i64 0, .slice none 0 0, .int .i64 0, .slice none 0 0] 56) = V1 at k1 ⊢
               generalize V0.heap.size = g9 at k1 ⊢
               refine hKK.out _ _ (fun _ => HS.out _ _ _ k1 ZMB) (fun hSq => ?_)
               have hSh := HS.out _ _ _ k1 ZMB
               clear hKK KK hSq
               refine ZPT ?_
               refine wpAnyP.on 10 rfl fun KK hKK => ?_
               go_simp
               go_at_call 89
               refine (HCal.out _ _ _ k1 ZMB).mono ?_
               rintro e V2 ⟨z1, rfl, gz1, -, hS1⟩
               obtain ⟨S9, k2⟩ := hS1 rfl
               clear hS1
               go_wp2_with fail
               refine hKK.out _ _ (fun _ => HS.out _ _ _ k2 ZMB) (fun hSq => ?_)
               have hSh := HS.out _ _ _ k2 ZMB
               clear hKK KK hSq
               refine ZPT ?_
               refine wpAnyP.tkU 11 rfl ?_
               refine wpAnyP.tkU 12 rfl ?_
               refine wpAnyP.tkU 13 rfl ?_
               have kz := k2
               clear k2 k1
              all_goals
               refine wpAnyP.onF 15 rfl fun KK hKK => ?_
               have r := kz.rawS
               have zz := kz.thaw (g := g9) (cs := #[.slice none 0 0, .int .i64 0, .slice none 0 0, .int .i64 0, .slice none 0 0]) (t := 56) ZMB
               go_simp
               have K9 := kz.set5R (b := g9) (t := 56) (x0 := .slice none 0 0) (x1 := .int .i64 0) (x2 := .slice none 0 0) (x3 := .int .i64 0) (x4 := .slice none 0 0) (u0 := .slice z1.A z1.n z1.c) (u1 := .int .i64 z1.y.s) (u2 := .slice z1.y.A z1.y.n z1.y.c) (u3 := .int .i64 z1.y.t) (u4 := .slice z1.y.B z1.y.m z1.y.d) (Upd.head _)
               refine hKK.out _ _ ?_
               clear hKK KK r zz
               refine ZPT ?_
               refine wpAnyP.tkF 16 rfl ?_
               refine ⟨by kernel_rfl, ?_⟩
               generalize (((((V2.setCell ⟨g9, 0, none⟩ (.slice z1.A z1.n z1.c)).setCell ⟨g9, 1, none⟩ (.int .i64 z1.y.s)).setCell ⟨g9, 2, none⟩ (.slice z1.y.A z1.y.n z1.y.c)).setCell ⟨g9, 3, none⟩ (.int .i64 z1.y.t)).setCell ⟨g9, 4, none⟩ (.slice z1.y.B z1.y.m z1.y.d)) = W9 at K9 ⊢
               clear kz hSh HS HCal
               have K := K9
               clear K9
              all_goals
               have hBg9 := K.blk (b := g9) (cs := #[.slice z1.A z1.n z1.c, .int .i64 z1.y.s, .slice z1.y.A z1.y.n z1.y.c, .int .i64 z1.y.t, .slice z1.y.B z1.y.m z1.y.d]) (t := 56) ZMB
               have q0g9 := hBg9.cell (j := 0) rfl
               have q1g9 := hBg9.cell (j := 1) rfl
               have q2g9 := hBg9.cell (j := 2) rfl
               have q3g9 := hBg9.cell (j := 3) rfl
               have q4g9 := hBg9.cell (j := 4) rfl
               clear hBg9
               go_wp2_with (refine K.storeRR rfl rfl _ _ _ rfl g i n z1 rfl rfl (by assumption) ZUA row_size ?_; clear K; intro W K)
               have HK := Lib.hid (((K.rrPut (u := u2) (S := S2) ZMB i z1 S9 (K.okAt ZMB)).lessS (D' := [rrF n (putF u2 i z1) (putF S2 i S9)]) (by repeat (first | with_reducible exact List.Sublist.refl _ | with_reducible apply List.Sublist.cons_cons | with_reducible apply List.Sublist.cons))).part (L' := (g, recA Rr.cs n (putF u2 i z1) J, 56) :: Xf) (List.sublist_cons_self _ _))
               have HG3 := Lib.hid (stg_next hir HG2.out (gz1.out (by simp)))
               clear K HG2 gz1
               go_wp2_with fail
               go_roundg (n - (i + 1))
               case rel => exact ⟨i + 1, putF u2 i z1, putF S2 i S9, hlt2, rfl, by go_num, HG3, HSb2, HK.out⟩
               case measure => omega
          · have e : i = n := by omega
            subst e
            have he := HE2.out
            rw [piv_yes Hd.out HSb.out, if_pos rfl] at he
            have HE3 := Lib.hid he
            have HG3 := Lib.hid (stg_last HG2.out)
            have hcr : ((c + 1 - fr.length : Nat) : Int) = (rr : Int) + 1 := by have := HRr.out; have := HF.out; have := HFl.out; omega
            clear HE2 he HSb HG2 hlt2
            go_wp2_with fail
            go_roundg (i - (c + 1))
            case rel => exact ⟨c + 1, pivM m1 rr c, fr, _, Xf, u2, S2, hlt, rfl, rfl, by rw [hcr], by go_num, Lib.hid (by have := HF.out; have := HFl.out; omega), HE3, HG3, Hof, K⟩
            case measure => omega
     · have e : a = n := by omega
       subst e
       have ha := findP_is (m := m) (c := c) (a - rr) rr a hra (by omega) HZ.out (fun h => absurd h (by omega))
       have he := HEl.out
       rw [ha, if_pos rfl] at he
       clear HEl ha HZ hla
       cases stop
       · rw [if_neg (by decide)] at he
         have HE2 := Lib.hid he
         clear he
         go_wp2_with (at_builtin; refine (K.perm (List.perm_append_comm (l₁ := Xf) (l₂ := [_]))).app1 Hof.out iSized rfl _ _ 46 rfl _ 8 Tryz.underlying46 int_made rfl rfl (c : Int) _ rfl _ rfl (by exact rfl) (by rw [List.length_map]; have := HF.out; have := HFl.out; omega) (by omega) ?_; intro v4 X4 W4 ho4 K4)
         have hcr : ((c + 1 - (fr ++ [c]).length : Nat) : Int) = (rr : Int) := by rw [List.length_append]; show ((c + 1 - (fr.length + 1) : Nat) : Int) = _; have := HRr.out; omega
         have Ho4 := Lib.hid (show OwL 1 iEnc 3 v4 ((fr ++ [c]).map fun c : Nat => (c : Int)) X4 from by rw [List.map_append]; exact ho4)
         have HK := Lib.hid (K4.perm (List.perm_append_comm (l₁ := [_]) (l₂ := X4)))
         clear K K4 ho4
         go_wp2_with fail
         go_roundg (a - (c + 1))
         case rel => exact ⟨c + 1, m, fr ++ [c], _, X4, u, S, hlt, rfl, rfl, by rw [hcr], by go_num, Lib.hid (by rw [List.length_append]; show fr.length + 1 ≤ _; have := HF.out; have := HFl.out; omega), HE2, HG, Ho4, HK.out⟩
         case measure => omega
       · rw [if_pos rfl] at he
         have HE2 := Lib.hid he
         clear he
         go_wp2_with (at_builtin; refine (K.perm (List.perm_append_comm (l₁ := Xf) (l₂ := [_]))).app1 Hof.out iSized rfl _ _ 46 rfl _ 8 Tryz.underlying46 int_made rfl rfl (c : Int) _ rfl _ rfl (by exact rfl) (by rw [List.length_map]; have := HF.out; have := HFl.out; omega) (by omega) ?_; intro v4 X4 W4 ho4 K4)
         have HEx := Lib.hid (ElimR.mk (stop := true) (b := true) (m0 := m0) (m' := m) (fr := fr ++ [c]) (K4.perm (List.perm_append_comm (l₁ := [_]) (l₂ := X4))) (by omega) (by rw [List.length_append]; show fr.length + 1 ≤ _; have := HF.out; have := HFl.out; omega) (by rw [List.map_append]; exact ho4) hgc (fun h => by cases h) (fun _ => ⟨HE2.out, HG.out⟩))
         clear K K4 ho4
         exact bodyPost_ret (v := .tuple #[.slice (some ⟨g, 0, none⟩) a gc, _, .bool true]) (by simp [results, Tryz.results39, go_sem] <;> rfl) rfl HEx.out
  · have e : c = n := by omega
    subst e
    have he := HE.out
    rw [Nat.sub_self] at he
    have HEx := Lib.hid (ElimR.mk (stop := stop) (b := true) (m0 := m0) (m' := m) (fr := fr) K (by omega) HF.out Hof.out hgc (fun h => by cases h) (fun _ => ⟨he, HG.out⟩))
    have hltd : decide (c < c) = false := decide_eq_false hlt
    clear he HE hlt K
    go_wp2_with fail
    exact bodyPost_ret (v := .tuple #[.slice (some ⟨g, 0, none⟩) c gc, _, .bool true]) (by simp [results, Tryz.results39, go_sem] <;> rfl) rfl HEx.out
end Go.Proofs.YtdlcglndhhndpaaGreat
