
/- Walks over Right and ask of the reference of layer 27. Conditions stand in each theorem. -/
import Derived.Test.YtinfcngkbdiddaaCa
import Derived.Test.YtinfcngkbdiddaaL
import Derived.Test.YtinfcngkbdiddaaL
namespace Go.Proofs.Ytinfcngkbdiddaa
open Go.RowKit
set_option linter.unusedVariables false
set_option linter.unusedSimpArgs false

section
variable (x y : Rat) (s1 t1 s2 t2 : Int) (A1 B1 A2 B2 : Option Addr) (n1 c1 m1 d1 n2 c2 m2 d2 : Nat) (l1 k1 l2 k2 : List Int) (w : World) (r1 : RdI w w.heap.size A1 n1 c1 l1) (q1 : RdI w w.heap.size B1 m1 d1 k1) (r2 : RdI w w.heap.size A2 n2 c2 l2) (q2 : RdI w w.heap.size B2 m2 d2 k2)
variable (h1 : StdF s1 l1 t1 k1 x) (h2 : StdF s2 l2 t2 k2 y)
include r1 q1 r2 q2 h1 h2
theorem qCmp (f1 : fitsF x = true) (f2 : fitsF y = true) : Calls Try.prog 19 #[.agg #[.int .i64 s1, .slice A1 n1 c1, .int .i64 t1, .slice B1 m1 d1], .agg #[.int .i64 s2, .slice A2 n2 c2, .int .i64 t2, .slice B2 m2 d2]] w fun e w' => e = .returned (.int .i64 (cmpQ x y)) ∧ Below w.heap.size w w' := by
  have h := gCompare_any s1 t1 s2 t2 A1 B1 A2 B2 n1 c1 m1 d1 n2 c2 m2 d2 l1 k1 l2 k2 w r1 q1 r2 q2
  rw [h1.right f1, h2.right f2, h1.rat, h2.rat] at h
  exact h
theorem qSame : Calls Try.prog 17 #[.agg #[.int .i64 s1, .slice A1 n1 c1, .int .i64 t1, .slice B1 m1 d1], .agg #[.int .i64 s2, .slice A2 n2 c2, .int .i64 t2, .slice B2 m2 d2]] w fun e w' => e = .returned (.bool (decide (x = y))) ∧ Below w.heap.size w w' := by
  have h := gsame_any s1 t1 s2 t2 A1 B1 A2 B2 n1 c1 m1 d1 n2 c2 m2 d2 l1 k1 l2 k2 w r1 q1 r2 q2
  have e : sameF s1 l1 t1 k1 s2 l2 t2 k2 = decide (x = y) := by
    unfold sameF sameB
    rw [← Bool.decide_and]
    refine decide_eq_decide.2 ⟨fun ⟨⟨a1, a2⟩, a3, a4⟩ => ?_, fun e => ?_⟩
    · have e1 := h1.rat
      have e2 := h2.rat
      rw [a1, a2, a3, a4, e2] at e1
      exact e1.symm
    · subst e
      obtain ⟨a1, a2, a3, a4⟩ := h1.same h2
      exact ⟨⟨a1, a2⟩, a3, a4⟩
  rw [e] at h
  exact h
end
theorem out_any (l : List Fv) : (l.all fun x => decide (-1 < x.rat ∧ x.rat < 1)) = !(l.any outV) := any_out l
set_option maxRecDepth 100000 in
set_option maxHeartbeats 4000000 in
theorem rright_any (A : Option Addr) (n cap : Nat) (l : List Fv) (w : World) (hl : RdF w w.heap.size A n cap l) :
    Calls Try.prog 14 #[.slice A n cap] w fun e w' => e = .returned (.bool (rightM l)) ∧ Below w.heap.size w w' := by
  have hcaps := hl.caps
  have hlen := hl.len
  have K := St.start w
  have r := K.raw
  have HL := Lib.hid (fun W (h : Below w.heap.size w W) => hl.up fE_lasts h)
  have HL0 := Lib.hid hl
  have HF := Lib.hid (fun W h => rfine_any A n cap l W h)
  by_cases h1 : (n : Int) < 1
  · have hR := rightM_len (l := l) (by rw [hlen]; omega)
    rw [hR]
    have hd : decide ((n : Int) < 1) = true := decide_eq_true h1
    clear hR hlen
    go_enter Try.func14, Try.ntmps14
    go_wp2_with (first | ((first | (apply K.alloc; rfl; rfl; (first | with_reducible exact big_zero | with_reducible exact frac_zero)) | (apply K.box; rfl; rfl; rfl)); clear K r; (first | ((fail_if_success revert b0); intro W b0 K) | ((fail_if_success revert b1); intro W b1 K) | ((fail_if_success revert b2); intro W b2 K) | ((fail_if_success revert b3); intro W b3 K) | ((fail_if_success revert b4); intro W b4 K) | ((fail_if_success revert b5); intro W b5 K) | ((fail_if_success revert b6); intro W b6 K) | ((fail_if_success revert b7); intro W b7 K)); have r := K.rawS) | (apply K.storeA; rfl; rfl; rfl; rfl; rfl; (repeat (first | with_reducible exact Upd.head _ | with_reducible apply Upd.tail)); (first | with_reducible exact big_size | with_reducible exact frac_size); rfl; rfl; rfl; clear K r; intro W K; have r := K.rawS))
    go_ret
    exact ⟨rfl, K.1⟩
  have hd : decide ((n : Int) < 1) = false := decide_eq_false h1
  by_cases h2 : (60 : Int) < (n : Int)
  · have hR := rightM_len (l := l) (by rw [hlen]; omega)
    rw [hR]
    have hd2 : decide ((60 : Int) < (n : Int)) = true := decide_eq_true h2
    clear hR hlen
    go_enter Try.func14, Try.ntmps14
    go_wp2_with (first | ((first | (apply K.alloc; rfl; rfl; (first | with_reducible exact big_zero | with_reducible exact frac_zero)) | (apply K.box; rfl; rfl; rfl)); clear K r; (first | ((fail_if_success revert b0); intro W b0 K) | ((fail_if_success revert b1); intro W b1 K) | ((fail_if_success revert b2); intro W b2 K) | ((fail_if_success revert b3); intro W b3 K) | ((fail_if_success revert b4); intro W b4 K) | ((fail_if_success revert b5); intro W b5 K) | ((fail_if_success revert b6); intro W b6 K) | ((fail_if_success revert b7); intro W b7 K)); have r := K.rawS) | (apply K.storeA; rfl; rfl; rfl; rfl; rfl; (repeat (first | with_reducible exact Upd.head _ | with_reducible apply Upd.tail)); (first | with_reducible exact big_size | with_reducible exact frac_size); rfl; rfl; rfl; clear K r; intro W K; have r := K.rawS))
    go_ret
    exact ⟨rfl, K.1⟩
  have hd2 : decide ((60 : Int) < (n : Int)) = false := decide_eq_false h2
  have hR : rightM l = (l.all Fv.ok && (decide (sumF 0 (l.map Fv.rat) = some 0) && !(l.any outV))) := by
    unfold rightM
    rw [decide_eq_true (by rw [hlen]; omega), Bool.true_and, any_out]
  obtain ⟨RM, hRM⟩ : ∃ b, b = rightM l := ⟨_, rfl⟩
  rw [← hRM]
  rw [hR] at hRM
  cases hall : l.all Fv.ok
  · rw [hall] at HF hRM
    have HX := Lib.hid (show RM = false from by rw [hRM]; rfl)
    clear hall hR hlen hl hRM
    go_enter Try.func14, Try.ntmps14
    go_wp2_with (first | ((first | (apply K.alloc; rfl; rfl; (first | with_reducible exact big_zero | with_reducible exact frac_zero)) | (apply K.box; rfl; rfl; rfl)); clear K r; (first | ((fail_if_success revert b0); intro W b0 K) | ((fail_if_success revert b1); intro W b1 K) | ((fail_if_success revert b2); intro W b2 K) | ((fail_if_success revert b3); intro W b3 K) | ((fail_if_success revert b4); intro W b4 K) | ((fail_if_success revert b5); intro W b5 K) | ((fail_if_success revert b6); intro W b6 K) | ((fail_if_success revert b7); intro W b7 K)); have r := K.rawS) | (apply K.storeA; rfl; rfl; rfl; rfl; rfl; (repeat (first | with_reducible exact Upd.head _ | with_reducible apply Upd.tail)); (first | with_reducible exact big_size | with_reducible exact frac_size); rfl; rfl; rfl; clear K r; intro W K; have r := K.rawS))
    refine (HF.out _ (HL.out _ K.1)).mono ?_
    rintro e W' ⟨rfl, hb⟩
    replace K := K.keep hb
    clear r
    have r := K.rawS
    clear hb
    go_wp2_with (first | ((first | (apply K.alloc; rfl; rfl; (first | with_reducible exact big_zero | with_reducible exact frac_zero)) | (apply K.box; rfl; rfl; rfl)); clear K r; (first | ((fail_if_success revert b0); intro W b0 K) | ((fail_if_success revert b1); intro W b1 K) | ((fail_if_success revert b2); intro W b2 K) | ((fail_if_success revert b3); intro W b3 K) | ((fail_if_success revert b4); intro W b4 K) | ((fail_if_success revert b5); intro W b5 K) | ((fail_if_success revert b6); intro W b6 K) | ((fail_if_success revert b7); intro W b7 K)); have r := K.rawS) | (apply K.storeA; rfl; rfl; rfl; rfl; rfl; (repeat (first | with_reducible exact Upd.head _ | with_reducible apply Upd.tail)); (first | with_reducible exact big_size | with_reducible exact frac_size); rfl; rfl; rfl; clear K r; intro W K; have r := K.rawS))
    go_ret
    exact ⟨by rw [HX.out]; first | done | rfl, K.1⟩
  rw [hall] at HF hRM
  rw [Bool.true_and] at hRM
  have HAll := Lib.hid (fun x hx => List.all_eq_true.1 hall x hx)
  have HRM := Lib.hid hRM
  have Hlen := Lib.hid hlen
  have HSum := Lib.hid (fun W h => rsum_any A n cap l W h (fun x hx => List.all_eq_true.1 hall x hx))
  clear hall hR hlen hl hRM
  go_enter Try.func14, Try.ntmps14
  go_wp2_with (first | ((first | (apply K.alloc; rfl; rfl; (first | with_reducible exact big_zero | with_reducible exact frac_zero)) | (apply K.box; rfl; rfl; rfl)); clear K r; (first | ((fail_if_success revert b0); intro W b0 K) | ((fail_if_success revert b1); intro W b1 K) | ((fail_if_success revert b2); intro W b2 K) | ((fail_if_success revert b3); intro W b3 K) | ((fail_if_success revert b4); intro W b4 K) | ((fail_if_success revert b5); intro W b5 K) | ((fail_if_success revert b6); intro W b6 K) | ((fail_if_success revert b7); intro W b7 K)); have r := K.rawS) | (apply K.storeA; rfl; rfl; rfl; rfl; rfl; (repeat (first | with_reducible exact Upd.head _ | with_reducible apply Upd.tail)); (first | with_reducible exact big_size | with_reducible exact frac_size); rfl; rfl; rfl; clear K r; intro W K; have r := K.rawS))
  refine (HF.out _ (HL.out _ K.1)).mono ?_
  rintro e W' ⟨rfl, hb⟩
  replace K := K.keep hb
  clear r
  have r := K.rawS
  clear hb
  go_wp2_with (first | ((first | (apply K.alloc; rfl; rfl; (first | with_reducible exact big_zero | with_reducible exact frac_zero)) | (apply K.box; rfl; rfl; rfl)); clear K r; (first | ((fail_if_success revert b0); intro W b0 K) | ((fail_if_success revert b1); intro W b1 K) | ((fail_if_success revert b2); intro W b2 K) | ((fail_if_success revert b3); intro W b3 K) | ((fail_if_success revert b4); intro W b4 K) | ((fail_if_success revert b5); intro W b5 K) | ((fail_if_success revert b6); intro W b6 K) | ((fail_if_success revert b7); intro W b7 K)); have r := K.rawS) | (apply K.storeA; rfl; rfl; rfl; rfl; rfl; (repeat (first | with_reducible exact Upd.head _ | with_reducible apply Upd.tail)); (first | with_reducible exact big_size | with_reducible exact frac_size); rfl; rfl; rfl; clear K r; intro W K; have r := K.rawS))
  go_loopg [3] n (fun gk s3 wr => ∃ j : Nat, j ≤ n ∧ gk = n - j ∧ s3 = .int .i64 j ∧ Hid (∀ (i : Nat) x, i < j → l[i]? = some x → outV x = false) ∧ St w [] [] wr)
  case atStart => exact ⟨0, Nat.zero_le _, rfl, rfl, Lib.hid (fun i x h => absurd h (by omega)), K⟩
  case round =>
    clear K r
    obtain ⟨j, hj, rfl, rfl, HA, K⟩ := hrel
    have r := K.rawS
    by_cases hlt : j < n
    · obtain ⟨eb1, off1, A1, n1, c1, B1, m1, d1, x, hA1, hbB1, hx1, ⟨z0, z1, z2, z3⟩, r1, q1⟩ := HL0.out.atF hlt
      subst hA1
      have Ex1 := Lib.hid (fun W (h : Below w.heap.size w W) => (⟨(h.cell (p := ⟨eb1, off1 + j * 4, none⟩) hbB1).trans z0, (h.cell (p := ⟨eb1, off1 + j * 4 + 1, none⟩) hbB1).trans z1, (h.cell (p := ⟨eb1, off1 + j * 4 + 2, none⟩) hbB1).trans z2, (h.cell (p := ⟨eb1, off1 + j * 4 + 3, none⟩) hbB1).trans z3⟩ : W.cell? ⟨eb1, off1 + j * 4, none⟩ = some (.int .i64 (x).s) ∧ W.cell? ⟨eb1, off1 + j * 4 + 1, none⟩ = some (.slice A1 n1 c1) ∧ W.cell? ⟨eb1, off1 + j * 4 + 2, none⟩ = some (.int .i64 (x).t) ∧ W.cell? ⟨eb1, off1 + j * 4 + 3, none⟩ = some (.slice B1 m1 d1)))
      have hki : (j : Int) < (n : Int) := by omega
      have hk0 : (0 : Int) ≤ (j : Int) := by omega
      have hcap1 := r1.caps
      have hcbp1 := q1.caps
      replace K := (K.oldRd r1).oldRd q1
      have Hx1 := Lib.hid hx1
      clear hx1 z0 z1 z2 z3 r1 q1
      have e1 := Ex1.out _ K.1
      obtain ⟨hsx, fx⟩ := fv_std (HAll.out x (List.mem_of_getElem? Hx1.out))
      obtain ⟨M1, hM1⟩ : ∃ M, cmpQ x.rat (-1) = M := ⟨_, rfl⟩
      obtain ⟨M2, hM2⟩ : ∃ M, cmpQ x.rat 1 = M := ⟨_, rfl⟩
      have i1 : M1 ≤ 0 ↔ x.rat ≤ -1 := by rw [← hM1]; exact cmpQ_le
      have i2 : 0 ≤ M2 ↔ 1 ≤ x.rat := by
        have h := cmpQ_le (x := (1 : Rat)) (y := x.rat)
        rw [cmpQ_neg, hM2] at h
        rw [← h]; omega
      have y1 : Rat.divInt (-1) 1 = -1 := by decide +kernel
      have y2 : Rat.divInt 1 1 = 1 := by decide +kernel
      have P1 := Lib.hid (fun s2 t2 A2 B2 n2 c2 m2 d2 l2 k2 W a b c d h2 => qCmp x.rat (-1) x.s x.t s2 t2 A1 B1 A2 B2 n1 c1 m1 d1 n2 c2 m2 d2 x.l x.m l2 k2 W a b c d hsx h2 fx (by decide +kernel))
      have P2 := Lib.hid (fun s2 t2 A2 B2 n2 c2 m2 d2 l2 k2 W a b c d h2 => qCmp x.rat 1 x.s x.t s2 t2 A1 B1 A2 B2 n1 c1 m1 d1 n2 c2 m2 d2 x.l x.m l2 k2 W a b c d hsx h2 fx (by decide +kernel))
      rw [hM1] at P1
      rw [hM2] at P2
      have HYes := Lib.hid (show outV x = true → RM = false from fun h => by
        rw [HRM.out, List.any_eq_true.2 ⟨x, List.mem_of_getElem? Hx1.out, h⟩]
        simp)
      have HNo := Lib.hid (show outV x = false → ∀ (i : Nat) y, i < j + 1 → l[i]? = some y → outV y = false from fun h i y hi hy => by
        by_cases e : i = j
        · subst e; rw [Hx1.out] at hy; cases hy; exact h
        · exact HA.out i y (by omega) hy)
      have hrg := cmpQ_rng x.rat (-1)
      rw [hM1] at hrg
      clear hM1 hM2 hsx fx HA
      by_cases j1 : M1 ≤ 0
      · have j2 : decide (M1 ≤ 0) = true := decide_eq_true j1
        have HO := Lib.hid (HYes.out (decide_eq_true (Or.inl (i1.1 j1))))
        have HWh := Lib.hid (fun W => rOf_any (-1) 1 W (by decide) (by decide) (by decide))
        rw [y1] at HWh
        clear i1 i2 P2 HYes HNo y1 y2
        go_upto_region 6 with (first | ((first | (apply K.alloc; rfl; rfl; (first | with_reducible exact big_zero | with_reducible exact frac_zero)) | (apply K.box; rfl; rfl; rfl)); clear K r; (first | ((fail_if_success revert b0); intro W b0 K) | ((fail_if_success revert b1); intro W b1 K) | ((fail_if_success revert b2); intro W b2 K) | ((fail_if_success revert b3); intro W b3 K) | ((fail_if_success revert b4); intro W b4 K) | ((fail_if_success revert b5); intro W b5 K) | ((fail_if_success revert b6); intro W b6 K) | ((fail_if_success revert b7); intro W b7 K)); have r := K.rawS) | (apply K.storeA; rfl; rfl; rfl; rfl; rfl; (repeat (first | with_reducible exact Upd.head _ | with_reducible apply Upd.tail)); (first | with_reducible exact big_size | with_reducible exact frac_size); rfl; rfl; rfl; clear K r; intro W K; have r := K.rawS))
        have Kd := K.drew
        first
          | go_region_with (first
              | (go_at_call 36; (with_reducible refine (HWh.out _).mono ?_); rintro e W ⟨s50, A50, n50, c50, l50, t50, B50, m50, d50, k50, rfl, ⟨hra, hrb⟩, hs50, ⟨hfa, hfb⟩, hb⟩; (first | with_reducible replace K := Kd.retF hb hra hrb hfa hfb | with_reducible replace K := K.retF hb hra hrb hfa hfb); clear r e1 hra hrb hfa hfb hb; have r := K.rawS; have e1 := Ex1.out _ K.1)
              | (go_at_call 19; (with_reducible refine (P1.out _ _ _ _ _ _ _ _ _ _ _ ?qa ?qb ?qc ?qd hs50).mono ?_); (case qa => exact K.rd (by repeat (first | with_reducible exact List.mem_cons_self | with_reducible apply List.mem_cons_of_mem))); (case qb => exact K.rd (by repeat (first | with_reducible exact List.mem_cons_self | with_reducible apply List.mem_cons_of_mem))); (case qc => exact K.rd (by repeat (first | with_reducible exact List.mem_cons_self | with_reducible apply List.mem_cons_of_mem))); (case qd => exact K.rd (by repeat (first | with_reducible exact List.mem_cons_self | with_reducible apply List.mem_cons_of_mem))); rintro e W ⟨rfl, hb⟩; replace K := K.keep hb; clear r e1 hb; have r := K.rawS; have e1 := Ex1.out _ K.1))
          | fail
        all_goals
          go_wp2_with fail
          go_ret
          exact ⟨by rw [HO.out]; first | done | rfl, K.1⟩
      · have j2 : decide (M1 ≤ 0) = false := decide_eq_false j1
        obtain rfl : M1 = 1 := by omega
        clear hrg j2
        obtain ⟨KS, X0, XK, XF, XS⟩ := K.pack3 (fun W => (W.cell? ⟨eb1, off1 + j * 4, none⟩ = some (.int .i64 x.s) ∧ W.cell? ⟨eb1, off1 + j * 4 + 1, none⟩ = some (.slice A1 n1 c1) ∧ W.cell? ⟨eb1, off1 + j * 4 + 2, none⟩ = some (.int .i64 x.t) ∧ W.cell? ⟨eb1, off1 + j * 4 + 3, none⟩ = some (.slice B1 m1 d1))) (fun W K => Ex1.out W K.1)
        have HSx := Lib.hid (fun W (h : KS W) => (show KS W ∧ (W.cell? ⟨eb1, off1 + j * 4, none⟩ = some (.int .i64 x.s) ∧ W.cell? ⟨eb1, off1 + j * 4 + 1, none⟩ = some (.slice A1 n1 c1) ∧ W.cell? ⟨eb1, off1 + j * 4 + 2, none⟩ = some (.int .i64 x.t) ∧ W.cell? ⟨eb1, off1 + j * 4 + 3, none⟩ = some (.slice B1 m1 d1)) from ⟨h, XF W h⟩))
        have XD := Lib.hid (fun W (h : KS W) => XK W W.drew h (Below.refl _ _).drew)
        have XSt := Lib.hid XS
        have HW1 := Lib.hid (fun W (h : KS W) => (rOf_any (-1) 1 W (by decide) (by decide) (by decide)).mono fun e W' ⟨s, A, n, cap, l, t, A', n', cap', m, he, hr, hs, hf, hb⟩ => (⟨s, A, n, cap, l, t, A', n', cap', m, he, hr, by rw [y1] at hs; exact hs, XK _ _ h hb⟩ : ∃ s A n cap l t A' n' cap' m, e = Ending.returned (.agg #[.int .i64 s, .slice A n cap, .int .i64 t, .slice A' n' cap']) ∧ (RdI W' W'.heap.size A n cap l ∧ RdI W' W'.heap.size A' n' cap' m) ∧ StdF s l t m (-1) ∧ KS W'))
        have HW2 := Lib.hid (fun W (h : KS W) => (rOf_any 1 1 W (by decide) (by decide) (by decide)).mono fun e W' ⟨s, A, n, cap, l, t, A', n', cap', m, he, hr, hs, hf, hb⟩ => (⟨s, A, n, cap, l, t, A', n', cap', m, he, hr, by rw [y2] at hs; exact hs, XK _ _ h hb⟩ : ∃ s A n cap l t A' n' cap' m, e = Ending.returned (.agg #[.int .i64 s, .slice A n cap, .int .i64 t, .slice A' n' cap']) ∧ (RdI W' W'.heap.size A n cap l ∧ RdI W' W'.heap.size A' n' cap' m) ∧ StdF s l t m 1 ∧ KS W'))
        have HC1 := Lib.hid (fun s2 t2 A2 B2 n2 c2 m2 d2 l2 k2 W (r2 : RdI W W.heap.size A2 n2 c2 l2) (q2 : RdI W W.heap.size B2 m2 d2 k2) h2 (h : KS W) => (P1.out s2 t2 A2 B2 n2 c2 m2 d2 l2 k2 W ((XS W h).rd (by repeat (first | with_reducible exact List.mem_cons_self | with_reducible apply List.mem_cons_of_mem))) ((XS W h).rd (by repeat (first | with_reducible exact List.mem_cons_self | with_reducible apply List.mem_cons_of_mem))) r2 q2 h2).mono fun e W' ⟨he, hb⟩ => (⟨he, XK _ _ h hb⟩ : e = Ending.returned (.int .i64 1) ∧ KS W'))
        have HC2 := Lib.hid (fun s2 t2 A2 B2 n2 c2 m2 d2 l2 k2 W (r2 : RdI W W.heap.size A2 n2 c2 l2) (q2 : RdI W W.heap.size B2 m2 d2 k2) h2 (h : KS W) => (P2.out s2 t2 A2 B2 n2 c2 m2 d2 l2 k2 W ((XS W h).rd (by repeat (first | with_reducible exact List.mem_cons_self | with_reducible apply List.mem_cons_of_mem))) ((XS W h).rd (by repeat (first | with_reducible exact List.mem_cons_self | with_reducible apply List.mem_cons_of_mem))) r2 q2 h2).mono fun e W' ⟨he, hb⟩ => (⟨he, XK _ _ h hb⟩ : e = Ending.returned (.int .i64 M2) ∧ KS W'))
        clear XF XK XS K r e1 P1 P2 y1 y2
        by_cases j3 : 0 ≤ M2
        · have j4 : decide (0 ≤ M2) = true := decide_eq_true j3
          have HO := Lib.hid (HYes.out (decide_eq_true (Or.inr (i2.1 j3))))
          clear i1 i2 HYes HNo
          go_wp2_with fail
          go_region_held3 (fun W => KS W ∧ (W.cell? ⟨eb1, off1 + j * 4, none⟩ = some (.int .i64 x.s) ∧ W.cell? ⟨eb1, off1 + j * 4 + 1, none⟩ = some (.slice A1 n1 c1) ∧ W.cell? ⟨eb1, off1 + j * 4 + 2, none⟩ = some (.int .i64 x.t) ∧ W.cell? ⟨eb1, off1 + j * 4 + 3, none⟩ = some (.slice B1 m1 d1)))
            ((refine HSx.out _ ?_; first | assumption | exact XD.out _ X0 | exact And.left (by assumption)))
            (first
              | (go_at_call 36; (with_reducible refine (HW1.out _ (And.left (by assumption))).mono ?_); rintro e w5 ⟨s50, A50, n50, c50, l50, t50, B50, m50, d50, k50, rfl, ⟨ra50, rb50⟩, hs50, x50⟩)
              | (go_at_call 36; (with_reducible refine (HW2.out _ (And.left (by assumption))).mono ?_); rintro e w6 ⟨s60, A60, n60, c60, l60, t60, B60, m60, d60, k60, rfl, ⟨ra60, rb60⟩, hs60, x60⟩)
              | (go_at_call 19; (with_reducible refine (HC1.out _ _ _ _ _ _ _ _ _ _ _ (by (first | with_reducible exact ra50 | with_reducible exact ra50.up (flat_lasts _) (Below.refl _ _).drew)) (by (first | with_reducible exact rb50 | with_reducible exact rb50.up (flat_lasts _) (Below.refl _ _).drew)) hs50 (And.left (by assumption))).mono ?_); rintro e w7 ⟨rfl, x70⟩)
              | (go_at_call 19; (with_reducible refine (HC2.out _ _ _ _ _ _ _ _ _ _ _ (by (first | with_reducible exact ra60 | with_reducible exact ra60.up (flat_lasts _) (Below.refl _ _).drew)) (by (first | with_reducible exact rb60 | with_reducible exact rb60.up (flat_lasts _) (Below.refl _ _).drew)) hs60 (And.left (by assumption))).mono ?_); rintro e w8 ⟨rfl, x80⟩))
          all_goals
            have K := XSt.out _ x80
            go_wp2_with fail
            go_ret
            exact ⟨by rw [HO.out]; first | done | rfl, K.1⟩
        · have j4 : decide (0 ≤ M2) = false := decide_eq_false j3
          have HO := Lib.hid (HNo.out (decide_eq_false (fun h => h.elim (fun e => j1 (i1.2 e)) (fun e => j3 (i2.2 e)))))
          clear i1 i2 HYes HNo
          go_wp2_with fail
          go_region_held3 (fun W => KS W ∧ (W.cell? ⟨eb1, off1 + j * 4, none⟩ = some (.int .i64 x.s) ∧ W.cell? ⟨eb1, off1 + j * 4 + 1, none⟩ = some (.slice A1 n1 c1) ∧ W.cell? ⟨eb1, off1 + j * 4 + 2, none⟩ = some (.int .i64 x.t) ∧ W.cell? ⟨eb1, off1 + j * 4 + 3, none⟩ = some (.slice B1 m1 d1)))
            ((refine HSx.out _ ?_; first | assumption | exact XD.out _ X0 | exact And.left (by assumption)))
            (first
              | (go_at_call 36; (with_reducible refine (HW1.out _ (And.left (by assumption))).mono ?_); rintro e w5 ⟨s50, A50, n50, c50, l50, t50, B50, m50, d50, k50, rfl, ⟨ra50, rb50⟩, hs50, x50⟩)
              | (go_at_call 36; (with_reducible refine (HW2.out _ (And.left (by assumption))).mono ?_); rintro e w6 ⟨s60, A60, n60, c60, l60, t60, B60, m60, d60, k60, rfl, ⟨ra60, rb60⟩, hs60, x60⟩)
              | (go_at_call 19; (with_reducible refine (HC1.out _ _ _ _ _ _ _ _ _ _ _ (by (first | with_reducible exact ra50 | with_reducible exact ra50.up (flat_lasts _) (Below.refl _ _).drew)) (by (first | with_reducible exact rb50 | with_reducible exact rb50.up (flat_lasts _) (Below.refl _ _).drew)) hs50 (And.left (by assumption))).mono ?_); rintro e w7 ⟨rfl, x70⟩)
              | (go_at_call 19; (with_reducible refine (HC2.out _ _ _ _ _ _ _ _ _ _ _ (by (first | with_reducible exact ra60 | with_reducible exact ra60.up (flat_lasts _) (Below.refl _ _).drew)) (by (first | with_reducible exact rb60 | with_reducible exact rb60.up (flat_lasts _) (Below.refl _ _).drew)) hs60 (And.left (by assumption))).mono ?_); rintro e w8 ⟨rfl, x80⟩))
          all_goals
            have K := XSt.out _ x80
            go_wp2_with fail
            go_roundg (n - (j + 1))
            case rel => exact ⟨j + 1, hlt, rfl, by go_num, HO, K.less (fun _ h => by cases h)⟩
            case measure => omega
    · have e : j = n := by omega
      subst e
      have hout : l.any outV = false := by
        rw [List.any_eq_false]
        intro x hx
        obtain ⟨i, hi, rfl⟩ := List.mem_iff_getElem.1 hx
        rw [HA.out i _ (by rw [Hlen.out] at hi; exact hi) (List.getElem?_eq_getElem hi)]
        simp
      have HX := HRM.out
      rw [hout] at HX
      have HX := Lib.hid HX
      clear HA hout HRM
      go_wp2_with (first | ((first | (apply K.alloc; rfl; rfl; (first | with_reducible exact big_zero | with_reducible exact frac_zero)) | (apply K.box; rfl; rfl; rfl)); clear K r; (first | ((fail_if_success revert b0); intro W b0 K) | ((fail_if_success revert b1); intro W b1 K) | ((fail_if_success revert b2); intro W b2 K) | ((fail_if_success revert b3); intro W b3 K) | ((fail_if_success revert b4); intro W b4 K) | ((fail_if_success revert b5); intro W b5 K) | ((fail_if_success revert b6); intro W b6 K) | ((fail_if_success revert b7); intro W b7 K)); have r := K.rawS) | (apply K.storeA; rfl; rfl; rfl; rfl; rfl; (repeat (first | with_reducible exact Upd.head _ | with_reducible apply Upd.tail)); (first | with_reducible exact big_size | with_reducible exact frac_size); rfl; rfl; rfl; clear K r; intro W K; have r := K.rawS))
      refine (HSum.out _ (HL.out _ K.1)).mono ?_
      rintro e W' ⟨s3, A3, n3, c3, l3, t3, B3, m3, d3, k3, rfl, ⟨hra, hrb⟩, hV, ⟨hfa, hfb⟩, hb⟩
      have HV := Lib.hid hV
      clear hV
      have hf3 := Lib.hid (hfa.mono K.1.size)
      have hg3 := Lib.hid (hfb.mono K.1.size)
      replace K := K.retF hb hra hrb hfa hfb
      clear r
      have r := K.rawS
      clear hra hrb hfa hfb hb
      have hrl : ratL l = l.map Fv.rat := rfl
      rw [hrl] at HV ⊢
      cases hs : sumF 0 (l.map Fv.rat) with
      | none =>
        rw [hs] at HX
        have HX := Lib.hid (show RM = false from by rw [HX.out, decide_eq_false (by simp)]; rfl)
        have eI : (none : Option Rat).isSome = false := rfl
        rw [eI]
        clear hs HV eI
        go_wp2_with (first | ((first | (apply K.alloc; rfl; rfl; (first | with_reducible exact big_zero | with_reducible exact frac_zero)) | (apply K.box; rfl; rfl; rfl)); clear K r; (first | ((fail_if_success revert b0); intro W b0 K) | ((fail_if_success revert b1); intro W b1 K) | ((fail_if_success revert b2); intro W b2 K) | ((fail_if_success revert b3); intro W b3 K) | ((fail_if_success revert b4); intro W b4 K) | ((fail_if_success revert b5); intro W b5 K) | ((fail_if_success revert b6); intro W b6 K) | ((fail_if_success revert b7); intro W b7 K)); have r := K.rawS) | (apply K.storeA; rfl; rfl; rfl; rfl; rfl; (repeat (first | with_reducible exact Upd.head _ | with_reducible apply Upd.tail)); (first | with_reducible exact big_size | with_reducible exact frac_size); rfl; rfl; rfl; clear K r; intro W K; have r := K.rawS))
        go_ret
        exact ⟨by rw [HX.out]; first | done | rfl, K.1⟩
      | some q =>
        rw [hs] at HX
        obtain ⟨hs3, fq⟩ := HV.out q hs
        have eI : (some q).isSome = true := rfl
        rw [eI]
        have hsg : s3 = sgI q.num := hs3.1.1
        by_cases hq : q = 0
        · have HX := Lib.hid (show RM = true from by rw [HX.out, decide_eq_true (by rw [hq])]; rfl)
          have h3 : s3 = 0 := by rw [hsg, hq]; rfl
          have hd3 : (s3 == 0) = true := by rw [h3]; rfl
          clear hs HV eI hsg hs3 fq hq h3
          go_wp2_with (first | ((first | (apply K.alloc; rfl; rfl; (first | with_reducible exact big_zero | with_reducible exact frac_zero)) | (apply K.box; rfl; rfl; rfl)); clear K r; (first | ((fail_if_success revert b0); intro W b0 K) | ((fail_if_success revert b1); intro W b1 K) | ((fail_if_success revert b2); intro W b2 K) | ((fail_if_success revert b3); intro W b3 K) | ((fail_if_success revert b4); intro W b4 K) | ((fail_if_success revert b5); intro W b5 K) | ((fail_if_success revert b6); intro W b6 K) | ((fail_if_success revert b7); intro W b7 K)); have r := K.rawS) | (apply K.storeA; rfl; rfl; rfl; rfl; rfl; (repeat (first | with_reducible exact Upd.head _ | with_reducible apply Upd.tail)); (first | with_reducible exact big_size | with_reducible exact frac_size); rfl; rfl; rfl; clear K r; intro W K; have r := K.rawS))
          go_ret
          exact ⟨by rw [HX.out]; first | done | simp_all, K.1⟩
        · have HX := Lib.hid (show RM = false from by rw [HX.out, decide_eq_false (by simpa using hq)]; rfl)
          have h3 : s3 ≠ 0 := by
            rw [hsg]
            have : q.num ≠ 0 := fun e => hq (Rat.num_eq_zero.1 e)
            unfold sgI
            by_cases h : q.num < 0
            · rw [if_pos h]; omega
            · rw [if_neg h, if_neg this]; omega
          have hd3 : (s3 == 0) = false := by simp [h3]
          clear hs HV eI hsg hs3 fq hq
          go_wp2_with (first | ((first | (apply K.alloc; rfl; rfl; (first | with_reducible exact big_zero | with_reducible exact frac_zero)) | (apply K.box; rfl; rfl; rfl)); clear K r; (first | ((fail_if_success revert b0); intro W b0 K) | ((fail_if_success revert b1); intro W b1 K) | ((fail_if_success revert b2); intro W b2 K) | ((fail_if_success revert b3); intro W b3 K) | ((fail_if_success revert b4); intro W b4 K) | ((fail_if_success revert b5); intro W b5 K) | ((fail_if_success revert b6); intro W b6 K) | ((fail_if_success revert b7); intro W b7 K)); have r := K.rawS) | (apply K.storeA; rfl; rfl; rfl; rfl; rfl; (repeat (first | with_reducible exact Upd.head _ | with_reducible apply Upd.tail)); (first | with_reducible exact big_size | with_reducible exact frac_size); rfl; rfl; rfl; clear K r; intro W K; have r := K.rawS))
          go_ret
          exact ⟨by rw [HX.out]; first | done | simp_all, K.1⟩
end Go.Proofs.Ytinfcngkbdiddaa
