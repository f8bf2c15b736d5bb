
/- Walks over Right$1, check$1 of package cents, and over IndexFunc, ContainsFunc at them. Conditions stand in each theorem. -/
import Derived.Test.YtinfcngkbdiddaaCs
import Derived.Outline
namespace Go.Proofs.Ytinfcngkbdiddaa
open Go.RowKit
set_option linter.unusedVariables false
set_option linter.unusedSimpArgs false

theorem St.pack3 {w W : World} {L : List Blk} {D : List Hl} (K : St w L D W) (F : World → Prop) (hF : ∀ W, St w L D W → F W) : ∃ KS : World → Prop, KS W ∧ (∀ W W', KS W → Below W.heap.size W W' → KS W') ∧ (∀ W, KS W → F W) ∧ ∀ W, KS W → St w L D W :=
  ⟨St w L D, K, fun W W' h hb => h.keep hb, hF, fun _ h => h⟩
/-- is a number no memory -/
def outM (x : Rat) : Bool := decide (x ≤ -1 ∨ 1 ≤ x)
set_option maxRecDepth 100000 in
set_option maxHeartbeats 2000000 in
theorem cout_any (x : Rat) (s1 t1 : Int) (A1 B1 : Option Addr) (n1 c1 m1 d1 : Nat) (l1 k1 : List Int) (w : World) (r1 : RdI w w.heap.size A1 n1 c1 l1) (q1 : RdI w w.heap.size B1 m1 d1 k1) (h1 : StdF s1 l1 t1 k1 x) (f1 : fitsF x = true) :
    Calls Try.prog 39 #[.agg #[.int .i64 s1, .slice A1 n1 c1, .int .i64 t1, .slice B1 m1 d1]] w fun e w' => e = .returned (.bool (outM x)) ∧ Below w.heap.size w w' := by
  have K := ((St.start w).oldRd r1).oldRd q1
  have r := K.raw
  obtain ⟨M1, hM1⟩ : ∃ M, cmpQ x (-1) = M := ⟨_, rfl⟩
  obtain ⟨M2, hM2⟩ : ∃ M, cmpQ x 1 = M := ⟨_, rfl⟩
  have i1 : M1 ≤ 0 ↔ x ≤ -1 := by rw [← hM1]; exact cmpQ_le
  have i2 : 0 ≤ M2 ↔ 1 ≤ x := by
    have h := cmpQ_le (x := (1 : Rat)) (y := x)
    rw [cmpQ_neg, hM2] at h
    rw [← h]; omega
  have y1 : ((-1 : Int) : Rat) = -1 := rfl
  have y2 : ((1 : Int) : Rat) = 1 := rfl
  have P1 := Lib.hid (fun s2 t2 A2 B2 n2 c2 m2 d2 l2 k2 W r1 q1 r2 q2 h2 => pCmp x (-1) s1 t1 s2 t2 A1 B1 A2 B2 n1 c1 m1 d1 n2 c2 m2 d2 l1 k1 l2 k2 W r1 q1 r2 q2 h1 h2 f1 (by decide +kernel))
  have P2 := Lib.hid (fun s2 t2 A2 B2 n2 c2 m2 d2 l2 k2 W r1 q1 r2 q2 h2 => pCmp x 1 s1 t1 s2 t2 A1 B1 A2 B2 n1 c1 m1 d1 n2 c2 m2 d2 l1 k1 l2 k2 W r1 q1 r2 q2 h1 h2 f1 (by decide +kernel))
  rw [hM1] at P1
  rw [hM2] at P2
  clear hM1 hM2 r1 q1
  go_enter Try.func39, Try.ntmps39
  go_upto_region 1 with (first | ((first | (apply K.alloc; rfl; rfl; (first | with_reducible exact big_zero | with_reducible exact frac_zero)) | (apply K.box; rfl; rfl; rfl)); clear K r; (first | ((fail_if_success revert b0); intro W b0 K) | ((fail_if_success revert b1); intro W b1 K) | ((fail_if_success revert b2); intro W b2 K) | ((fail_if_success revert b3); intro W b3 K) | ((fail_if_success revert b4); intro W b4 K) | ((fail_if_success revert b5); intro W b5 K) | ((fail_if_success revert b6); intro W b6 K) | ((fail_if_success revert b7); intro W b7 K)); have r := K.rawS) | (apply K.storeA; rfl; rfl; rfl; rfl; rfl; (repeat (first | with_reducible exact Upd.head _ | with_reducible apply Upd.tail)); (first | with_reducible exact big_size | with_reducible exact frac_size); rfl; rfl; rfl; clear K r; intro W K; have r := K.rawS))
  by_cases j1 : M1 ≤ 0
  · have j2 : decide (M1 ≤ 0) = true := decide_eq_true j1
    have HO := Lib.hid (show outM x = true from decide_eq_true (Or.inl (i1.1 j1)))
    have HWh := Lib.hid (fun W => cwhole_any (-1) W (by decide))
    rw [y1] at HWh
    clear i1 i2 P2
    have Kd := K.drew
    go_region_with (first
      | (go_at_call 28; (with_reducible refine (HWh.out _).mono ?_); rintro e W ⟨s50, A50, n50, c50, l50, t50, B50, m50, d50, k50, rfl, ⟨hra, hrb⟩, hs50, ⟨hfa, hfb⟩, hb⟩; (first | with_reducible replace K := Kd.retF hb hra hrb hfa hfb | with_reducible replace K := K.retF hb hra hrb hfa hfb); clear r hra hrb hfa hfb hb; have r := K.rawS)
      | (go_at_call 31; (with_reducible refine (P1.out _ _ _ _ _ _ _ _ _ _ _ ?qa ?qb ?qc ?qd hs50).mono ?_); (case qa => exact K.rd (by repeat (first | with_reducible exact List.mem_cons_self | with_reducible apply List.mem_cons_of_mem))); (case qb => exact K.rd (by repeat (first | with_reducible exact List.mem_cons_self | with_reducible apply List.mem_cons_of_mem))); (case qc => exact K.rd (by repeat (first | with_reducible exact List.mem_cons_self | with_reducible apply List.mem_cons_of_mem))); (case qd => exact K.rd (by repeat (first | with_reducible exact List.mem_cons_self | with_reducible apply List.mem_cons_of_mem))); rintro e W ⟨rfl, hb⟩; replace K := K.keep hb; clear r hb; have r := K.rawS))
    all_goals
      go_wp2_with fail
      go_ret
      exact ⟨by rw [HO.out]; first | done | rfl, K.1⟩
  · have j2 : decide (M1 ≤ 0) = false := decide_eq_false j1
    obtain ⟨KS, X0, XK, XF, XS⟩ := K.pack3 (fun W => (W.cell? ⟨b0, 0, none⟩ = some (.int .i64 s1) ∧ W.cell? ⟨b0, 1, none⟩ = some (.slice A1 n1 c1) ∧ W.cell? ⟨b0, 2, none⟩ = some (.int .i64 t1) ∧ W.cell? ⟨b0, 3, none⟩ = some (.slice B1 m1 d1))) (fun W K => by
      have r := K.raw
      simp only [Raw, RawC, and_true, true_and, Nat.zero_add, Nat.reduceAdd] at r
      simp only [r, and_self])
    have HSx := Lib.hid (fun W (h : KS W) => (show KS W ∧ (W.cell? ⟨b0, 0, none⟩ = some (.int .i64 s1) ∧ W.cell? ⟨b0, 1, none⟩ = some (.slice A1 n1 c1) ∧ W.cell? ⟨b0, 2, none⟩ = some (.int .i64 t1) ∧ W.cell? ⟨b0, 3, none⟩ = some (.slice B1 m1 d1)) from ⟨h, XF W h⟩))
    have XD := Lib.hid (fun W (h : KS W) => XK W W.drew h (Below.refl _ _).drew)
    have XSt := Lib.hid XS
    have HW1 := Lib.hid (fun W (h : KS W) => (cwhole_any (-1) W (by decide)).mono fun e W' ⟨s, A, n, cap, l, t, A', n', cap', m, he, hr, hs, hf, hb⟩ => (⟨s, A, n, cap, l, t, A', n', cap', m, he, hr, by rw [y1] at hs; exact hs, XK _ _ h hb⟩ : ∃ s A n cap l t A' n' cap' m, e = Ending.returned (.agg #[.int .i64 s, .slice A n cap, .int .i64 t, .slice A' n' cap']) ∧ (RdI W' W'.heap.size A n cap l ∧ RdI W' W'.heap.size A' n' cap' m) ∧ StdF s l t m (-1) ∧ KS W'))
    have HW2 := Lib.hid (fun W (h : KS W) => (cwhole_any 1 W (by decide)).mono fun e W' ⟨s, A, n, cap, l, t, A', n', cap', m, he, hr, hs, hf, hb⟩ => (⟨s, A, n, cap, l, t, A', n', cap', m, he, hr, by rw [y2] at hs; exact hs, XK _ _ h hb⟩ : ∃ s A n cap l t A' n' cap' m, e = Ending.returned (.agg #[.int .i64 s, .slice A n cap, .int .i64 t, .slice A' n' cap']) ∧ (RdI W' W'.heap.size A n cap l ∧ RdI W' W'.heap.size A' n' cap' m) ∧ StdF s l t m 1 ∧ KS W'))
    have HC1 := Lib.hid (fun s2 t2 A2 B2 n2 c2 m2 d2 l2 k2 W (r2 : RdI W W.heap.size A2 n2 c2 l2) (q2 : RdI W W.heap.size B2 m2 d2 k2) h2 (h : KS W) => (P1.out s2 t2 A2 B2 n2 c2 m2 d2 l2 k2 W ((XS W h).rd (by repeat (first | with_reducible exact List.mem_cons_self | with_reducible apply List.mem_cons_of_mem))) ((XS W h).rd (by repeat (first | with_reducible exact List.mem_cons_self | with_reducible apply List.mem_cons_of_mem))) r2 q2 h2).mono fun e W' ⟨he, hb⟩ => (⟨he, XK _ _ h hb⟩ : e = Ending.returned (.int .i64 M1) ∧ KS W'))
    have HC2 := Lib.hid (fun s2 t2 A2 B2 n2 c2 m2 d2 l2 k2 W (r2 : RdI W W.heap.size A2 n2 c2 l2) (q2 : RdI W W.heap.size B2 m2 d2 k2) h2 (h : KS W) => (P2.out s2 t2 A2 B2 n2 c2 m2 d2 l2 k2 W ((XS W h).rd (by repeat (first | with_reducible exact List.mem_cons_self | with_reducible apply List.mem_cons_of_mem))) ((XS W h).rd (by repeat (first | with_reducible exact List.mem_cons_self | with_reducible apply List.mem_cons_of_mem))) r2 q2 h2).mono fun e W' ⟨he, hb⟩ => (⟨he, XK _ _ h hb⟩ : e = Ending.returned (.int .i64 M2) ∧ KS W'))
    clear XF XK XS K r P1 P2
    by_cases j3 : 0 ≤ M2
    · have j4 : decide (0 ≤ M2) = true := decide_eq_true j3
      have HO := Lib.hid (show outM x = true from decide_eq_true (Or.inr (i2.1 j3)))
      clear i1 i2
      go_region_held3 (fun W => KS W ∧ (W.cell? ⟨b0, 0, none⟩ = some (.int .i64 s1) ∧ W.cell? ⟨b0, 1, none⟩ = some (.slice A1 n1 c1) ∧ W.cell? ⟨b0, 2, none⟩ = some (.int .i64 t1) ∧ W.cell? ⟨b0, 3, none⟩ = some (.slice B1 m1 d1)))
        ((refine HSx.out _ ?_; first | assumption | exact XD.out _ X0 | exact And.left (by assumption)))
        (first
          | (go_at_call 28; (with_reducible refine (HW1.out _ (And.left (by assumption))).mono ?_); rintro e w5 ⟨s50, A50, n50, c50, l50, t50, B50, m50, d50, k50, rfl, ⟨ra50, rb50⟩, hs50, x50⟩)
          | (go_at_call 28; (with_reducible refine (HW2.out _ (And.left (by assumption))).mono ?_); rintro e w6 ⟨s60, A60, n60, c60, l60, t60, B60, m60, d60, k60, rfl, ⟨ra60, rb60⟩, hs60, x60⟩)
          | (go_at_call 31; (with_reducible refine (HC1.out _ _ _ _ _ _ _ _ _ _ _ (by (first | with_reducible exact ra50 | with_reducible exact ra50.up (flat_lasts _) (Below.refl _ _).drew)) (by (first | with_reducible exact rb50 | with_reducible exact rb50.up (flat_lasts _) (Below.refl _ _).drew)) hs50 (And.left (by assumption))).mono ?_); rintro e w7 ⟨rfl, x70⟩)
          | (go_at_call 31; (with_reducible refine (HC2.out _ _ _ _ _ _ _ _ _ _ _ (by (first | with_reducible exact ra60 | with_reducible exact ra60.up (flat_lasts _) (Below.refl _ _).drew)) (by (first | with_reducible exact rb60 | with_reducible exact rb60.up (flat_lasts _) (Below.refl _ _).drew)) hs60 (And.left (by assumption))).mono ?_); rintro e w8 ⟨rfl, x80⟩))
      all_goals
        have K := XSt.out _ x80
        go_wp2
        go_ret
        exact ⟨by rw [HO.out]; first | done | rfl, K.1⟩
    · have j4 : decide (0 ≤ M2) = false := decide_eq_false j3
      have HO := Lib.hid (show outM x = false from decide_eq_false (fun h => h.elim (fun e => j1 (i1.2 e)) (fun e => j3 (i2.2 e))))
      clear i1 i2
      go_region_held3 (fun W => KS W ∧ (W.cell? ⟨b0, 0, none⟩ = some (.int .i64 s1) ∧ W.cell? ⟨b0, 1, none⟩ = some (.slice A1 n1 c1) ∧ W.cell? ⟨b0, 2, none⟩ = some (.int .i64 t1) ∧ W.cell? ⟨b0, 3, none⟩ = some (.slice B1 m1 d1)))
        ((refine HSx.out _ ?_; first | assumption | exact XD.out _ X0 | exact And.left (by assumption)))
        (first
          | (go_at_call 28; (with_reducible refine (HW1.out _ (And.left (by assumption))).mono ?_); rintro e w5 ⟨s50, A50, n50, c50, l50, t50, B50, m50, d50, k50, rfl, ⟨ra50, rb50⟩, hs50, x50⟩)
          | (go_at_call 28; (with_reducible refine (HW2.out _ (And.left (by assumption))).mono ?_); rintro e w6 ⟨s60, A60, n60, c60, l60, t60, B60, m60, d60, k60, rfl, ⟨ra60, rb60⟩, hs60, x60⟩)
          | (go_at_call 31; (with_reducible refine (HC1.out _ _ _ _ _ _ _ _ _ _ _ (by (first | with_reducible exact ra50 | with_reducible exact ra50.up (flat_lasts _) (Below.refl _ _).drew)) (by (first | with_reducible exact rb50 | with_reducible exact rb50.up (flat_lasts _) (Below.refl _ _).drew)) hs50 (And.left (by assumption))).mono ?_); rintro e w7 ⟨rfl, x70⟩)
          | (go_at_call 31; (with_reducible refine (HC2.out _ _ _ _ _ _ _ _ _ _ _ (by (first | with_reducible exact ra60 | with_reducible exact ra60.up (flat_lasts _) (Below.refl _ _).drew)) (by (first | with_reducible exact rb60 | with_reducible exact rb60.up (flat_lasts _) (Below.refl _ _).drew)) hs60 (And.left (by assumption))).mono ?_); rintro e w8 ⟨rfl, x80⟩))
      all_goals
        have K := XSt.out _ x80
        go_wp2
        go_ret
        exact ⟨by rw [HO.out]; first | done | rfl, K.1⟩
set_option maxRecDepth 100000 in
set_option maxHeartbeats 1000000 in
theorem cneg_any (s1 t1 : Int) (A1 B1 : Option Addr) (n1 c1 m1 d1 : Nat) (l1 k1 : List Int) (w : World) (r1 : RdI w w.heap.size A1 n1 c1 l1) (q1 : RdI w w.heap.size B1 m1 d1 k1) : Calls Try.prog 50 #[.agg #[.int .i64 s1, .slice A1 n1 c1, .int .i64 t1, .slice B1 m1 d1]] w fun e w' => e = .returned (.bool (decide (s1 < 0))) ∧ Below w.heap.size w w' := by
  have K := St.start w
  have r := K.raw
  go_enter Try.func50, Try.ntmps50
  go_wp2_with (first | ((first | (apply K.alloc; rfl; rfl; (first | with_reducible exact big_zero | with_reducible exact frac_zero)) | (apply K.box; rfl; rfl; rfl)); clear K r; (first | ((fail_if_success revert b0); intro W b0 K) | ((fail_if_success revert b1); intro W b1 K) | ((fail_if_success revert b2); intro W b2 K) | ((fail_if_success revert b3); intro W b3 K) | ((fail_if_success revert b4); intro W b4 K) | ((fail_if_success revert b5); intro W b5 K) | ((fail_if_success revert b6); intro W b6 K) | ((fail_if_success revert b7); intro W b7 K)); have r := K.rawS) | (apply K.storeA; rfl; rfl; rfl; rfl; rfl; (repeat (first | with_reducible exact Upd.head _ | with_reducible apply Upd.tail)); (first | with_reducible exact big_size | with_reducible exact frac_size); rfl; rfl; rfl; clear K r; intro W K; have r := K.rawS))
  go_ret
  exact ⟨rfl, K.1⟩
end Go.Proofs.Ytinfcngkbdiddaa
