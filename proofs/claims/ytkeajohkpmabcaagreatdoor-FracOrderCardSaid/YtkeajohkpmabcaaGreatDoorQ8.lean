
/- The plain law of FracOrder and FracFloor; walk over the law FracOrder. Conditions stand in each theorem. -/
import Derived.Test.YtkeajohkpmabcaaGreatDoorQ5
import Derived.Test.YtkeajohkpmabcaaGreatDoorU
import Derived.Test.YtkeajohkpmabcaaGreatDoorU
namespace Go.Proofs.YtkeajohkpmabcaaGreatDoor
open Go.RowKit
set_option linter.unusedVariables false
set_option linter.unusedSimpArgs false

set_option maxRecDepth 1000000 in
set_option maxHeartbeats 16000000 in
theorem fracOrder_walk (s1 t1 : Int) (A1 B1 : Option Addr) (n1 c1 m1 d1 : Nat) (l1 k1 : List Int) (s2 t2 : Int) (A2 B2 : Option Addr) (n2 c2 m2 d2 : Nat) (l2 k2 : List Int) (s3 t3 : Int) (A3 B3 : Option Addr) (n3 c3 m3 d3 : Nat) (l3 k3 : List Int) (w : World) (r1 : RdI w w.heap.size A1 n1 c1 l1) (q1 : RdI w w.heap.size B1 m1 d1 k1) (r2 : RdI w w.heap.size A2 n2 c2 l2) (q2 : RdI w w.heap.size B2 m2 d2 k2) (r3 : RdI w w.heap.size A3 n3 c3 l3) (q3 : RdI w w.heap.size B3 m3 d3 k3) (htab : TabM w) :
    Calls Tryz.prog 6 #[.agg #[.int .i64 s1, .slice A1 n1 c1, .int .i64 t1, .slice B1 m1 d1], .agg #[.int .i64 s2, .slice A2 n2 c2, .int .i64 t2, .slice B2 m2 d2], .agg #[.int .i64 s3, .slice A3 n3 c3, .int .i64 t3, .slice B3 m3 d3]] w fun e w' => e = .returned (.bool true) ∧ Below w.heap.size w w' := by
  have K := ((((((St.start w).oldRd r1).oldRd q1).oldRd r2).oldRd q2).oldRd r3).oldRd q3
  have r := K.raw
  have HS := Lib.hid (fun W (h : Below w.heap.size w W) => small5_any W (htab.on h))
  have HF1 := Lib.hid (fun W => gfew_any s1 t1 A1 B1 n1 c1 m1 d1 12 W)
  have HF2 := Lib.hid (fun W => gfew_any s2 t2 A2 B2 n2 c2 m2 d2 12 W)
  have HF3 := Lib.hid (fun W => gfew_any s3 t3 A3 B3 n3 c3 m3 d3 12 W)
  have HR1 := Lib.hid (fun W a b => fRight_any s1 t1 A1 B1 n1 c1 m1 d1 l1 k1 W a b)
  have HR2 := Lib.hid (fun W a b => fRight_any s2 t2 A2 B2 n2 c2 m2 d2 l2 k2 W a b)
  have HR3 := Lib.hid (fun W a b => fRight_any s3 t3 A3 B3 n3 c3 m3 d3 l3 k3 W a b)
  cases x1 : fewF n1 m1 12
  · rw [x1] at HF1
    clear x1
    clear r1 q1 r2 q2 r3 q3
    go_enter Tryz.func6, Tryz.ntmps6
    go_wp2_with (first | (first | ((first | (apply K.alloc; rfl; rfl; (first | with_reducible exact big_zero | with_reducible exact frac_zero)) | (apply K.box; rfl; rfl; rfl)); clear K r; (first | ((fail_if_success revert b0); intro W b0 K) | ((fail_if_success revert b1); intro W b1 K) | ((fail_if_success revert b2); intro W b2 K) | ((fail_if_success revert b3); intro W b3 K) | ((fail_if_success revert b4); intro W b4 K) | ((fail_if_success revert b5); intro W b5 K) | ((fail_if_success revert b6); intro W b6 K) | ((fail_if_success revert b7); intro W b7 K) | ((fail_if_success revert b8); intro W b8 K) | ((fail_if_success revert b9); intro W b9 K) | ((fail_if_success revert b10); intro W b10 K) | ((fail_if_success revert b11); intro W b11 K) | ((fail_if_success revert b12); intro W b12 K) | ((fail_if_success revert b13); intro W b13 K) | ((fail_if_success revert b14); intro W b14 K) | ((fail_if_success revert b15); intro W b15 K)); have r := K.rawS) | (apply K.storeA; rfl; rfl; rfl; rfl; rfl; (repeat (first | with_reducible exact Upd.head _ | with_reducible apply Upd.tail)); (first | with_reducible exact big_size | with_reducible exact frac_size); rfl; rfl; rfl; clear K r; intro W K; have r := K.rawS)) | (go_at_call 37; (with_reducible refine (HS.out _ K.bel).mono ?_); rintro e W' ⟨rfl, hb⟩; replace K := K.keep hb; clear r; have r := K.rawS; clear hb) | (go_at_call 38; (with_reducible refine (HF1.out _).mono ?_); rintro e W' ⟨rfl, hb⟩; replace K := K.keep hb; clear r; have r := K.rawS; clear hb) | (go_at_call 54; (with_reducible refine (HR1.out _ ?qr ?qs).mono ?_); (case qr => exact (by first | exact Rd.nil | exact K.rda)); (case qs => exact (by first | exact Rd.nil | exact K.rda)); rintro e W' ⟨rfl, hb⟩; replace K := K.keep hb; clear r; have r := K.rawS; clear hb) | (go_at_call 38; (with_reducible refine (HF2.out _).mono ?_); rintro e W' ⟨rfl, hb⟩; replace K := K.keep hb; clear r; have r := K.rawS; clear hb) | (go_at_call 54; (with_reducible refine (HR2.out _ ?qr ?qs).mono ?_); (case qr => exact (by first | exact Rd.nil | exact K.rda)); (case qs => exact (by first | exact Rd.nil | exact K.rda)); rintro e W' ⟨rfl, hb⟩; replace K := K.keep hb; clear r; have r := K.rawS; clear hb) | (go_at_call 38; (with_reducible refine (HF3.out _).mono ?_); rintro e W' ⟨rfl, hb⟩; replace K := K.keep hb; clear r; have r := K.rawS; clear hb) | (go_at_call 54; (with_reducible refine (HR3.out _ ?qr ?qs).mono ?_); (case qr => exact (by first | exact Rd.nil | exact K.rda)); (case qs => exact (by first | exact Rd.nil | exact K.rda)); rintro e W' ⟨rfl, hb⟩; replace K := K.keep hb; clear r; have r := K.rawS; clear hb))
    go_ret
    exact ⟨rfl, K.1⟩
  cases x2 : fewF n2 m2 12
  · rw [x1] at HF1
    rw [x2] at HF2
    clear x1 x2
    clear r1 q1 r2 q2 r3 q3
    go_enter Tryz.func6, Tryz.ntmps6
    go_wp2_with (first | (first | ((first | (apply K.alloc; rfl; rfl; (first | with_reducible exact big_zero | with_reducible exact frac_zero)) | (apply K.box; rfl; rfl; rfl)); clear K r; (first | ((fail_if_success revert b0); intro W b0 K) | ((fail_if_success revert b1); intro W b1 K) | ((fail_if_success revert b2); intro W b2 K) | ((fail_if_success revert b3); intro W b3 K) | ((fail_if_success revert b4); intro W b4 K) | ((fail_if_success revert b5); intro W b5 K) | ((fail_if_success revert b6); intro W b6 K) | ((fail_if_success revert b7); intro W b7 K) | ((fail_if_success revert b8); intro W b8 K) | ((fail_if_success revert b9); intro W b9 K) | ((fail_if_success revert b10); intro W b10 K) | ((fail_if_success revert b11); intro W b11 K) | ((fail_if_success revert b12); intro W b12 K) | ((fail_if_success revert b13); intro W b13 K) | ((fail_if_success revert b14); intro W b14 K) | ((fail_if_success revert b15); intro W b15 K)); have r := K.rawS) | (apply K.storeA; rfl; rfl; rfl; rfl; rfl; (repeat (first | with_reducible exact Upd.head _ | with_reducible apply Upd.tail)); (first | with_reducible exact big_size | with_reducible exact frac_size); rfl; rfl; rfl; clear K r; intro W K; have r := K.rawS)) | (go_at_call 37; (with_reducible refine (HS.out _ K.bel).mono ?_); rintro e W' ⟨rfl, hb⟩; replace K := K.keep hb; clear r; have r := K.rawS; clear hb) | (go_at_call 38; (with_reducible refine (HF1.out _).mono ?_); rintro e W' ⟨rfl, hb⟩; replace K := K.keep hb; clear r; have r := K.rawS; clear hb) | (go_at_call 54; (with_reducible refine (HR1.out _ ?qr ?qs).mono ?_); (case qr => exact (by first | exact Rd.nil | exact K.rda)); (case qs => exact (by first | exact Rd.nil | exact K.rda)); rintro e W' ⟨rfl, hb⟩; replace K := K.keep hb; clear r; have r := K.rawS; clear hb) | (go_at_call 38; (with_reducible refine (HF2.out _).mono ?_); rintro e W' ⟨rfl, hb⟩; replace K := K.keep hb; clear r; have r := K.rawS; clear hb) | (go_at_call 54; (with_reducible refine (HR2.out _ ?qr ?qs).mono ?_); (case qr => exact (by first | exact Rd.nil | exact K.rda)); (case qs => exact (by first | exact Rd.nil | exact K.rda)); rintro e W' ⟨rfl, hb⟩; replace K := K.keep hb; clear r; have r := K.rawS; clear hb) | (go_at_call 38; (with_reducible refine (HF3.out _).mono ?_); rintro e W' ⟨rfl, hb⟩; replace K := K.keep hb; clear r; have r := K.rawS; clear hb) | (go_at_call 54; (with_reducible refine (HR3.out _ ?qr ?qs).mono ?_); (case qr => exact (by first | exact Rd.nil | exact K.rda)); (case qs => exact (by first | exact Rd.nil | exact K.rda)); rintro e W' ⟨rfl, hb⟩; replace K := K.keep hb; clear r; have r := K.rawS; clear hb))
    go_ret
    exact ⟨rfl, K.1⟩
  cases x3 : fewF n3 m3 12
  · rw [x1] at HF1
    rw [x2] at HF2
    rw [x3] at HF3
    clear x1 x2 x3
    clear r1 q1 r2 q2 r3 q3
    go_enter Tryz.func6, Tryz.ntmps6
    go_wp2_with (first | (first | ((first | (apply K.alloc; rfl; rfl; (first | with_reducible exact big_zero | with_reducible exact frac_zero)) | (apply K.box; rfl; rfl; rfl)); clear K r; (first | ((fail_if_success revert b0); intro W b0 K) | ((fail_if_success revert b1); intro W b1 K) | ((fail_if_success revert b2); intro W b2 K) | ((fail_if_success revert b3); intro W b3 K) | ((fail_if_success revert b4); intro W b4 K) | ((fail_if_success revert b5); intro W b5 K) | ((fail_if_success revert b6); intro W b6 K) | ((fail_if_success revert b7); intro W b7 K) | ((fail_if_success revert b8); intro W b8 K) | ((fail_if_success revert b9); intro W b9 K) | ((fail_if_success revert b10); intro W b10 K) | ((fail_if_success revert b11); intro W b11 K) | ((fail_if_success revert b12); intro W b12 K) | ((fail_if_success revert b13); intro W b13 K) | ((fail_if_success revert b14); intro W b14 K) | ((fail_if_success revert b15); intro W b15 K)); have r := K.rawS) | (apply K.storeA; rfl; rfl; rfl; rfl; rfl; (repeat (first | with_reducible exact Upd.head _ | with_reducible apply Upd.tail)); (first | with_reducible exact big_size | with_reducible exact frac_size); rfl; rfl; rfl; clear K r; intro W K; have r := K.rawS)) | (go_at_call 37; (with_reducible refine (HS.out _ K.bel).mono ?_); rintro e W' ⟨rfl, hb⟩; replace K := K.keep hb; clear r; have r := K.rawS; clear hb) | (go_at_call 38; (with_reducible refine (HF1.out _).mono ?_); rintro e W' ⟨rfl, hb⟩; replace K := K.keep hb; clear r; have r := K.rawS; clear hb) | (go_at_call 54; (with_reducible refine (HR1.out _ ?qr ?qs).mono ?_); (case qr => exact (by first | exact Rd.nil | exact K.rda)); (case qs => exact (by first | exact Rd.nil | exact K.rda)); rintro e W' ⟨rfl, hb⟩; replace K := K.keep hb; clear r; have r := K.rawS; clear hb) | (go_at_call 38; (with_reducible refine (HF2.out _).mono ?_); rintro e W' ⟨rfl, hb⟩; replace K := K.keep hb; clear r; have r := K.rawS; clear hb) | (go_at_call 54; (with_reducible refine (HR2.out _ ?qr ?qs).mono ?_); (case qr => exact (by first | exact Rd.nil | exact K.rda)); (case qs => exact (by first | exact Rd.nil | exact K.rda)); rintro e W' ⟨rfl, hb⟩; replace K := K.keep hb; clear r; have r := K.rawS; clear hb) | (go_at_call 38; (with_reducible refine (HF3.out _).mono ?_); rintro e W' ⟨rfl, hb⟩; replace K := K.keep hb; clear r; have r := K.rawS; clear hb) | (go_at_call 54; (with_reducible refine (HR3.out _ ?qr ?qs).mono ?_); (case qr => exact (by first | exact Rd.nil | exact K.rda)); (case qs => exact (by first | exact Rd.nil | exact K.rda)); rintro e W' ⟨rfl, hb⟩; replace K := K.keep hb; clear r; have r := K.rawS; clear hb))
    go_ret
    exact ⟨rfl, K.1⟩
  rw [x1] at HF1
  rw [x2] at HF2
  rw [x3] at HF3
  cases y1 : rightF s1 l1 t1 k1
  · rw [y1] at HR1
    clear x1 x2 x3 y1
    clear r1 q1 r2 q2 r3 q3
    go_enter Tryz.func6, Tryz.ntmps6
    go_wp2_with (first | (first | ((first | (apply K.alloc; rfl; rfl; (first | with_reducible exact big_zero | with_reducible exact frac_zero)) | (apply K.box; rfl; rfl; rfl)); clear K r; (first | ((fail_if_success revert b0); intro W b0 K) | ((fail_if_success revert b1); intro W b1 K) | ((fail_if_success revert b2); intro W b2 K) | ((fail_if_success revert b3); intro W b3 K) | ((fail_if_success revert b4); intro W b4 K) | ((fail_if_success revert b5); intro W b5 K) | ((fail_if_success revert b6); intro W b6 K) | ((fail_if_success revert b7); intro W b7 K) | ((fail_if_success revert b8); intro W b8 K) | ((fail_if_success revert b9); intro W b9 K) | ((fail_if_success revert b10); intro W b10 K) | ((fail_if_success revert b11); intro W b11 K) | ((fail_if_success revert b12); intro W b12 K) | ((fail_if_success revert b13); intro W b13 K) | ((fail_if_success revert b14); intro W b14 K) | ((fail_if_success revert b15); intro W b15 K)); have r := K.rawS) | (apply K.storeA; rfl; rfl; rfl; rfl; rfl; (repeat (first | with_reducible exact Upd.head _ | with_reducible apply Upd.tail)); (first | with_reducible exact big_size | with_reducible exact frac_size); rfl; rfl; rfl; clear K r; intro W K; have r := K.rawS)) | (go_at_call 37; (with_reducible refine (HS.out _ K.bel).mono ?_); rintro e W' ⟨rfl, hb⟩; replace K := K.keep hb; clear r; have r := K.rawS; clear hb) | (go_at_call 38; (with_reducible refine (HF1.out _).mono ?_); rintro e W' ⟨rfl, hb⟩; replace K := K.keep hb; clear r; have r := K.rawS; clear hb) | (go_at_call 54; (with_reducible refine (HR1.out _ ?qr ?qs).mono ?_); (case qr => exact (by first | exact Rd.nil | exact K.rda)); (case qs => exact (by first | exact Rd.nil | exact K.rda)); rintro e W' ⟨rfl, hb⟩; replace K := K.keep hb; clear r; have r := K.rawS; clear hb) | (go_at_call 38; (with_reducible refine (HF2.out _).mono ?_); rintro e W' ⟨rfl, hb⟩; replace K := K.keep hb; clear r; have r := K.rawS; clear hb) | (go_at_call 54; (with_reducible refine (HR2.out _ ?qr ?qs).mono ?_); (case qr => exact (by first | exact Rd.nil | exact K.rda)); (case qs => exact (by first | exact Rd.nil | exact K.rda)); rintro e W' ⟨rfl, hb⟩; replace K := K.keep hb; clear r; have r := K.rawS; clear hb) | (go_at_call 38; (with_reducible refine (HF3.out _).mono ?_); rintro e W' ⟨rfl, hb⟩; replace K := K.keep hb; clear r; have r := K.rawS; clear hb) | (go_at_call 54; (with_reducible refine (HR3.out _ ?qr ?qs).mono ?_); (case qr => exact (by first | exact Rd.nil | exact K.rda)); (case qs => exact (by first | exact Rd.nil | exact K.rda)); rintro e W' ⟨rfl, hb⟩; replace K := K.keep hb; clear r; have r := K.rawS; clear hb))
    go_ret
    exact ⟨rfl, K.1⟩
  cases y2 : rightF s2 l2 t2 k2
  · rw [y1] at HR1
    rw [y2] at HR2
    clear x1 x2 x3 y1 y2
    clear r1 q1 r2 q2 r3 q3
    go_enter Tryz.func6, Tryz.ntmps6
    go_wp2_with (first | (first | ((first | (apply K.alloc; rfl; rfl; (first | with_reducible exact big_zero | with_reducible exact frac_zero)) | (apply K.box; rfl; rfl; rfl)); clear K r; (first | ((fail_if_success revert b0); intro W b0 K) | ((fail_if_success revert b1); intro W b1 K) | ((fail_if_success revert b2); intro W b2 K) | ((fail_if_success revert b3); intro W b3 K) | ((fail_if_success revert b4); intro W b4 K) | ((fail_if_success revert b5); intro W b5 K) | ((fail_if_success revert b6); intro W b6 K) | ((fail_if_success revert b7); intro W b7 K) | ((fail_if_success revert b8); intro W b8 K) | ((fail_if_success revert b9); intro W b9 K) | ((fail_if_success revert b10); intro W b10 K) | ((fail_if_success revert b11); intro W b11 K) | ((fail_if_success revert b12); intro W b12 K) | ((fail_if_success revert b13); intro W b13 K) | ((fail_if_success revert b14); intro W b14 K) | ((fail_if_success revert b15); intro W b15 K)); have r := K.rawS) | (apply K.storeA; rfl; rfl; rfl; rfl; rfl; (repeat (first | with_reducible exact Upd.head _ | with_reducible apply Upd.tail)); (first | with_reducible exact big_size | with_reducible exact frac_size); rfl; rfl; rfl; clear K r; intro W K; have r := K.rawS)) | (go_at_call 37; (with_reducible refine (HS.out _ K.bel).mono ?_); rintro e W' ⟨rfl, hb⟩; replace K := K.keep hb; clear r; have r := K.rawS; clear hb) | (go_at_call 38; (with_reducible refine (HF1.out _).mono ?_); rintro e W' ⟨rfl, hb⟩; replace K := K.keep hb; clear r; have r := K.rawS; clear hb) | (go_at_call 54; (with_reducible refine (HR1.out _ ?qr ?qs).mono ?_); (case qr => exact (by first | exact Rd.nil | exact K.rda)); (case qs => exact (by first | exact Rd.nil | exact K.rda)); rintro e W' ⟨rfl, hb⟩; replace K := K.keep hb; clear r; have r := K.rawS; clear hb) | (go_at_call 38; (with_reducible refine (HF2.out _).mono ?_); rintro e W' ⟨rfl, hb⟩; replace K := K.keep hb; clear r; have r := K.rawS; clear hb) | (go_at_call 54; (with_reducible refine (HR2.out _ ?qr ?qs).mono ?_); (case qr => exact (by first | exact Rd.nil | exact K.rda)); (case qs => exact (by first | exact Rd.nil | exact K.rda)); rintro e W' ⟨rfl, hb⟩; replace K := K.keep hb; clear r; have r := K.rawS; clear hb) | (go_at_call 38; (with_reducible refine (HF3.out _).mono ?_); rintro e W' ⟨rfl, hb⟩; replace K := K.keep hb; clear r; have r := K.rawS; clear hb) | (go_at_call 54; (with_reducible refine (HR3.out _ ?qr ?qs).mono ?_); (case qr => exact (by first | exact Rd.nil | exact K.rda)); (case qs => exact (by first | exact Rd.nil | exact K.rda)); rintro e W' ⟨rfl, hb⟩; replace K := K.keep hb; clear r; have r := K.rawS; clear hb))
    go_ret
    exact ⟨rfl, K.1⟩
  cases y3 : rightF s3 l3 t3 k3
  · rw [y1] at HR1
    rw [y2] at HR2
    rw [y3] at HR3
    clear x1 x2 x3 y1 y2 y3
    clear r1 q1 r2 q2 r3 q3
    go_enter Tryz.func6, Tryz.ntmps6
    go_wp2_with (first | (first | ((first | (apply K.alloc; rfl; rfl; (first | with_reducible exact big_zero | with_reducible exact frac_zero)) | (apply K.box; rfl; rfl; rfl)); clear K r; (first | ((fail_if_success revert b0); intro W b0 K) | ((fail_if_success revert b1); intro W b1 K) | ((fail_if_success revert b2); intro W b2 K) | ((fail_if_success revert b3); intro W b3 K) | ((fail_if_success revert b4); intro W b4 K) | ((fail_if_success revert b5); intro W b5 K) | ((fail_if_success revert b6); intro W b6 K) | ((fail_if_success revert b7); intro W b7 K) | ((fail_if_success revert b8); intro W b8 K) | ((fail_if_success revert b9); intro W b9 K) | ((fail_if_success revert b10); intro W b10 K) | ((fail_if_success revert b11); intro W b11 K) | ((fail_if_success revert b12); intro W b12 K) | ((fail_if_success revert b13); intro W b13 K) | ((fail_if_success revert b14); intro W b14 K) | ((fail_if_success revert b15); intro W b15 K)); have r := K.rawS) | (apply K.storeA; rfl; rfl; rfl; rfl; rfl; (repeat (first | with_reducible exact Upd.head _ | with_reducible apply Upd.tail)); (first | with_reducible exact big_size | with_reducible exact frac_size); rfl; rfl; rfl; clear K r; intro W K; have r := K.rawS)) | (go_at_call 37; (with_reducible refine (HS.out _ K.bel).mono ?_); rintro e W' ⟨rfl, hb⟩; replace K := K.keep hb; clear r; have r := K.rawS; clear hb) | (go_at_call 38; (with_reducible refine (HF1.out _).mono ?_); rintro e W' ⟨rfl, hb⟩; replace K := K.keep hb; clear r; have r := K.rawS; clear hb) | (go_at_call 54; (with_reducible refine (HR1.out _ ?qr ?qs).mono ?_); (case qr => exact (by first | exact Rd.nil | exact K.rda)); (case qs => exact (by first | exact Rd.nil | exact K.rda)); rintro e W' ⟨rfl, hb⟩; replace K := K.keep hb; clear r; have r := K.rawS; clear hb) | (go_at_call 38; (with_reducible refine (HF2.out _).mono ?_); rintro e W' ⟨rfl, hb⟩; replace K := K.keep hb; clear r; have r := K.rawS; clear hb) | (go_at_call 54; (with_reducible refine (HR2.out _ ?qr ?qs).mono ?_); (case qr => exact (by first | exact Rd.nil | exact K.rda)); (case qs => exact (by first | exact Rd.nil | exact K.rda)); rintro e W' ⟨rfl, hb⟩; replace K := K.keep hb; clear r; have r := K.rawS; clear hb) | (go_at_call 38; (with_reducible refine (HF3.out _).mono ?_); rintro e W' ⟨rfl, hb⟩; replace K := K.keep hb; clear r; have r := K.rawS; clear hb) | (go_at_call 54; (with_reducible refine (HR3.out _ ?qr ?qs).mono ?_); (case qr => exact (by first | exact Rd.nil | exact K.rda)); (case qs => exact (by first | exact Rd.nil | exact K.rda)); rintro e W' ⟨rfl, hb⟩; replace K := K.keep hb; clear r; have r := K.rawS; clear hb))
    go_ret
    exact ⟨rfl, K.1⟩
  rw [y1] at HR1
  rw [y2] at HR2
  rw [y3] at HR3
  obtain ⟨u1, v1⟩ := fewF_le x1
  obtain ⟨u2, v2⟩ := fewF_le x2
  obtain ⟨u3, v3⟩ := fewF_le x3
  have hs1 := (rightF_std y1).1
  have hs2 := (rightF_std y2).1
  have hs3 := (rightF_std y3).1
  have g1 : ht (ratF s1 l1 t1 k1) 12 := few_ht r1 q1 y1 (by omega) (by omega)
  have g2 : ht (ratF s2 l2 t2 k2) 12 := few_ht r2 q2 y2 (by omega) (by omega)
  have g3 : ht (ratF s3 l3 t3 k3) 12 := few_ht r3 q3 y3 (by omega) (by omega)
  generalize ratF s1 l1 t1 k1 = x at *
  generalize ratF s2 l2 t2 k2 = y at *
  generalize ratF s3 l3 t3 k3 = z at *
  clear x1 x2 x3 y1 y2 y3 u1 v1 u2 v2 u3 v3 r1 q1 r2 q2 r3 q3
  obtain ⟨C, hC⟩ : ∃ C, cmpQ x y = C := ⟨_, rfl⟩
  have hCr := cmpQ_rng x y
  rw [hC] at hCr
  have E0 := Lib.hid hC
  have E1 := Lib.hid (show cmpQ y x = -C from by rw [cmpQ_neg, hC])
  have EZ := Lib.hid (show (C = 0 ∧ x = y) ∨ (C ≠ 0 ∧ x ≠ y) from by
    by_cases h : x = y
    · exact Or.inl ⟨by rw [← hC]; exact cmpQ_zero.2 h, h⟩
    · exact Or.inr ⟨fun e => h (cmpQ_zero.1 (hC.trans e)), h⟩)
  have ET := Lib.hid (show C ≤ 0 → cmpQ y z ≤ 0 → cmpQ x z ≤ 0 from fun h1 h2 => cmpQ_trans (by rw [hC]; exact h1) h2)
  have ES := Lib.hid (show sgI (x - y).num = C from by rw [cmpQ_sub, hC])
  have EA := Lib.hid (show cmpQ (x + z) (y + z) = C from by rw [cmpQ_add, hC])
  have EM := Lib.hid (show cmpQ (x * z) (y * z) = C * s3 from by rw [cmpQ_mul, hC, hs3.1.1])
  have hs3r : -1 ≤ s3 ∧ s3 ≤ 1 := by rw [hs3.1.1]; exact sgI_rng _
  have hw1 : IntKind.i64.wrap (-C) = -C := IntWalk.i64_in _ (by omega)
  have hm : -1 ≤ C * s3 ∧ C * s3 ≤ 1 := by
    have h1 : C = -1 ∨ C = 0 ∨ C = 1 := by omega
    rcases h1 with h | h | h <;> rw [h] <;> omega
  have hw2 : IntKind.i64.wrap (C * s3) = C * s3 := IntWalk.i64_in _ (by omega)
  have hc1 : ¬ C < -1 := by omega
  have hc2 : ¬ 1 < C := by omega
  have H2 := Lib.hid hw2
  clear hm hs3r hCr hC hw2
  have g4 := ht.sub g1 g2 rfl
  have g5 := ht.add g1 g3 rfl
  have g6 := ht.add g2 g3 rfl
  have g7 := ht.mul g1 g3 rfl
  have g8 := ht.mul g2 g3 rfl
  have ER := Lib.hid (fun a b : Rat => (rfl : a = a))
  go_enter Tryz.func6, Tryz.ntmps6
  go_wp2_with (first | (first | ((first | (apply K.alloc; rfl; rfl; (first | with_reducible exact big_zero | with_reducible exact frac_zero)) | (apply K.box; rfl; rfl; rfl)); clear K r; (first | ((fail_if_success revert b0); intro W b0 K) | ((fail_if_success revert b1); intro W b1 K) | ((fail_if_success revert b2); intro W b2 K) | ((fail_if_success revert b3); intro W b3 K) | ((fail_if_success revert b4); intro W b4 K) | ((fail_if_success revert b5); intro W b5 K) | ((fail_if_success revert b6); intro W b6 K) | ((fail_if_success revert b7); intro W b7 K) | ((fail_if_success revert b8); intro W b8 K) | ((fail_if_success revert b9); intro W b9 K) | ((fail_if_success revert b10); intro W b10 K) | ((fail_if_success revert b11); intro W b11 K) | ((fail_if_success revert b12); intro W b12 K) | ((fail_if_success revert b13); intro W b13 K) | ((fail_if_success revert b14); intro W b14 K) | ((fail_if_success revert b15); intro W b15 K)); have r := K.rawS) | (apply K.storeA; rfl; rfl; rfl; rfl; rfl; (repeat (first | with_reducible exact Upd.head _ | with_reducible apply Upd.tail)); (first | with_reducible exact big_size | with_reducible exact frac_size); rfl; rfl; rfl; clear K r; intro W K; have r := K.rawS)) | (go_at_call 37; (with_reducible refine (HS.out _ K.bel).mono ?_); rintro e W' ⟨rfl, hb⟩; replace K := K.keep hb; clear r; have r := K.rawS; clear hb) | (go_at_call 38; (with_reducible refine (HF1.out _).mono ?_); rintro e W' ⟨rfl, hb⟩; replace K := K.keep hb; clear r; have r := K.rawS; clear hb) | (go_at_call 54; (with_reducible refine (HR1.out _ ?qr ?qs).mono ?_); (case qr => exact (by first | exact Rd.nil | exact K.rda)); (case qs => exact (by first | exact Rd.nil | exact K.rda)); rintro e W' ⟨rfl, hb⟩; replace K := K.keep hb; clear r; have r := K.rawS; clear hb) | (go_at_call 38; (with_reducible refine (HF2.out _).mono ?_); rintro e W' ⟨rfl, hb⟩; replace K := K.keep hb; clear r; have r := K.rawS; clear hb) | (go_at_call 54; (with_reducible refine (HR2.out _ ?qr ?qs).mono ?_); (case qr => exact (by first | exact Rd.nil | exact K.rda)); (case qs => exact (by first | exact Rd.nil | exact K.rda)); rintro e W' ⟨rfl, hb⟩; replace K := K.keep hb; clear r; have r := K.rawS; clear hb) | (go_at_call 38; (with_reducible refine (HF3.out _).mono ?_); rintro e W' ⟨rfl, hb⟩; replace K := K.keep hb; clear r; have r := K.rawS; clear hb) | (go_at_call 54; (with_reducible refine (HR3.out _ ?qr ?qs).mono ?_); (case qr => exact (by first | exact Rd.nil | exact K.rda)); (case qs => exact (by first | exact Rd.nil | exact K.rda)); rintro e W' ⟨rfl, hb⟩; replace K := K.keep hb; clear r; have r := K.rawS; clear hb))
  clear HS HF1 HF2 HF3 HR1 HR2 HR3
  refine (cCmp _ _ _ _ _ _ _ _ _ _ _ _ _ _ _ _ _ _ _ _ _ _ _ (by first | exact Rd.nil | exact K.rda) (by first | exact Rd.nil | exact K.rda) (by first | exact Rd.nil | exact K.rda) (by first | exact Rd.nil | exact K.rda) hs1 hs2 g1 g2 (C) E0.out (by omega) (by omega)).mono ?_
  rintro e W' ⟨rfl, hb⟩
  replace K := K.keep hb
  clear r
  have r := K.rawS
  clear hb
  go_upto_region 5 with (first | ((first | (apply K.alloc; rfl; rfl; (first | with_reducible exact big_zero | with_reducible exact frac_zero)) | (apply K.box; rfl; rfl; rfl)); clear K r; (first | ((fail_if_success revert b0); intro W b0 K) | ((fail_if_success revert b1); intro W b1 K) | ((fail_if_success revert b2); intro W b2 K) | ((fail_if_success revert b3); intro W b3 K) | ((fail_if_success revert b4); intro W b4 K) | ((fail_if_success revert b5); intro W b5 K) | ((fail_if_success revert b6); intro W b6 K) | ((fail_if_success revert b7); intro W b7 K) | ((fail_if_success revert b8); intro W b8 K) | ((fail_if_success revert b9); intro W b9 K) | ((fail_if_success revert b10); intro W b10 K) | ((fail_if_success revert b11); intro W b11 K) | ((fail_if_success revert b12); intro W b12 K) | ((fail_if_success revert b13); intro W b13 K) | ((fail_if_success revert b14); intro W b14 K) | ((fail_if_success revert b15); intro W b15 K)); have r := K.rawS) | (apply K.storeA; rfl; rfl; rfl; rfl; rfl; (repeat (first | with_reducible exact Upd.head _ | with_reducible apply Upd.tail)); (first | with_reducible exact big_size | with_reducible exact frac_size); rfl; rfl; rfl; clear K r; intro W K; have r := K.rawS))
  obtain ⟨RX, HX⟩ := K.hide1
  go_cut [73] from 52 to 72 (fun p wx => p = .bool false ∧ RX wx)
  case first =>
    rcases EZ.out with ⟨z1, z2⟩ | ⟨z1, z2⟩
    · have hd : (C == 0) = true := by rw [z1]; rfl
      have Z2 := Lib.hid z2
      clear z1 z2
      go_wp2_with fail
      refine (nSameFT _ _ _ _ _ _ _ _ _ _ _ _ _ _ _ _ _ _ _ _ _ _ _ (by first | exact Rd.nil | exact K.rda) (by first | exact Rd.nil | exact K.rda) (by first | exact Rd.nil | exact K.rda) (by first | exact Rd.nil | exact K.rda) hs1 hs2 Z2.out).mono ?_
      rintro e W' ⟨rfl, hb⟩
      replace K := K.keep hb
      clear r
      have r := K.rawS
      clear hb
      go_wp2_with fail
      refine (cCmp _ _ _ _ _ _ _ _ _ _ _ _ _ _ _ _ _ _ _ _ _ _ _ (by first | exact Rd.nil | exact K.rda) (by first | exact Rd.nil | exact K.rda) (by first | exact Rd.nil | exact K.rda) (by first | exact Rd.nil | exact K.rda) hs2 hs1 g2 g1 (-C) E1.out (by omega) (by omega)).mono ?_
      rintro e W' ⟨rfl, hb⟩
      replace K := K.keep hb
      clear r
      have r := K.rawS
      clear hb
      go_wp2_with fail
      go_meet
      exact ⟨by first | rfl | (rw [decide_eq_false (show ¬ C < -1 by omega), decide_eq_false (show ¬ 1 < C by omega)]; rfl), (HX _).2 K⟩
    · have hd : (C == 0) = false := beq_eq_false_iff_ne.2 z1
      have Z2 := Lib.hid z2
      clear z1 z2
      go_wp2_with fail
      refine (nSameF _ _ _ _ _ _ _ _ _ _ _ _ _ _ _ _ _ _ _ _ _ _ _ (by first | exact Rd.nil | exact K.rda) (by first | exact Rd.nil | exact K.rda) (by first | exact Rd.nil | exact K.rda) (by first | exact Rd.nil | exact K.rda) hs1 hs2).mono ?_
      rintro e W' ⟨he, hb⟩
      rw [decide_eq_false Z2.out] at he
      subst he
      replace K := K.keep hb
      clear r
      have r := K.rawS
      clear hb
      go_wp2_with fail
      refine (cCmp _ _ _ _ _ _ _ _ _ _ _ _ _ _ _ _ _ _ _ _ _ _ _ (by first | exact Rd.nil | exact K.rda) (by first | exact Rd.nil | exact K.rda) (by first | exact Rd.nil | exact K.rda) (by first | exact Rd.nil | exact K.rda) hs2 hs1 g2 g1 (-C) E1.out (by omega) (by omega)).mono ?_
      rintro e W' ⟨rfl, hb⟩
      replace K := K.keep hb
      clear r
      have r := K.rawS
      clear hb
      go_wp2_with fail
      go_meet
      exact ⟨by first | rfl | (rw [decide_eq_false (show ¬ C < -1 by omega), decide_eq_false (show ¬ 1 < C by omega)]; rfl), (HX _).2 K⟩
  case rest =>
  obtain ⟨rfl, hk⟩ := hcut
  replace K := (HX _).1 hk
  clear r hk HX hc1 hc2 hw1 EZ
  have r := K.rawS
  go_upto_region 7 with (first | ((first | (apply K.alloc; rfl; rfl; (first | with_reducible exact big_zero | with_reducible exact frac_zero)) | (apply K.box; rfl; rfl; rfl)); clear K r; (first | ((fail_if_success revert b0); intro W b0 K) | ((fail_if_success revert b1); intro W b1 K) | ((fail_if_success revert b2); intro W b2 K) | ((fail_if_success revert b3); intro W b3 K) | ((fail_if_success revert b4); intro W b4 K) | ((fail_if_success revert b5); intro W b5 K) | ((fail_if_success revert b6); intro W b6 K) | ((fail_if_success revert b7); intro W b7 K) | ((fail_if_success revert b8); intro W b8 K) | ((fail_if_success revert b9); intro W b9 K) | ((fail_if_success revert b10); intro W b10 K) | ((fail_if_success revert b11); intro W b11 K) | ((fail_if_success revert b12); intro W b12 K) | ((fail_if_success revert b13); intro W b13 K) | ((fail_if_success revert b14); intro W b14 K) | ((fail_if_success revert b15); intro W b15 K)); have r := K.rawS) | (apply K.storeA; rfl; rfl; rfl; rfl; rfl; (repeat (first | with_reducible exact Upd.head _ | with_reducible apply Upd.tail)); (first | with_reducible exact big_size | with_reducible exact frac_size); rfl; rfl; rfl; clear K r; intro W K; have r := K.rawS))
  obtain ⟨RX, HX⟩ := K.hide1
  go_cut [87] from 74 to 86 (fun p wx => p = .bool false ∧ RX wx)
  case first =>
    obtain ⟨M, hM⟩ : ∃ M, cmpQ y z = M := ⟨_, rfl⟩
    obtain ⟨M2, hM2⟩ : ∃ M, cmpQ x z = M := ⟨_, rfl⟩
    have hT := ET.out
    rw [hM, hM2] at hT
    have EM1 := Lib.hid hM
    have EM2 := Lib.hid hM2
    clear hM hM2
    by_cases k1 : C ≤ 0
    case neg =>
      have k2 : 0 < C := by omega
      clear hT
      go_wp2_with fail
      go_meet
      exact ⟨by first | rfl | (rw [decide_eq_false (show ¬ C < -1 by omega), decide_eq_false (show ¬ 1 < C by omega)]; rfl), (HX _).2 K⟩
    go_wp2_with fail
    refine (cCmp _ _ _ _ _ _ _ _ _ _ _ _ _ _ _ _ _ _ _ _ _ _ _ (by first | exact Rd.nil | exact K.rda) (by first | exact Rd.nil | exact K.rda) (by first | exact Rd.nil | exact K.rda) (by first | exact Rd.nil | exact K.rda) hs2 hs3 g2 g3 (M) EM1.out (by omega) (by omega)).mono ?_
    rintro e W' ⟨rfl, hb⟩
    replace K := K.keep hb
    clear r
    have r := K.rawS
    clear hb
    by_cases k2 : M ≤ 0
    case neg =>
      have k3 : 0 < M := by omega
      clear hT
      go_wp2_with fail
      go_meet
      exact ⟨by first | rfl | (rw [decide_eq_false (show ¬ C < -1 by omega), decide_eq_false (show ¬ 1 < C by omega)]; rfl), (HX _).2 K⟩
    have k3 := hT k1 k2
    clear hT
    go_wp2_with fail
    refine (cCmp _ _ _ _ _ _ _ _ _ _ _ _ _ _ _ _ _ _ _ _ _ _ _ (by first | exact Rd.nil | exact K.rda) (by first | exact Rd.nil | exact K.rda) (by first | exact Rd.nil | exact K.rda) (by first | exact Rd.nil | exact K.rda) hs1 hs3 g1 g3 (M2) EM2.out (by omega) (by omega)).mono ?_
    rintro e W' ⟨rfl, hb⟩
    replace K := K.keep hb
    clear r
    have r := K.rawS
    clear hb
    go_wp2_with fail
    go_meet
    exact ⟨by first | rfl | (rw [decide_eq_false (show ¬ 0 < M2 by omega)]), (HX _).2 K⟩
  case rest =>
  obtain ⟨rfl, hk⟩ := hcut
  replace K := (HX _).1 hk
  clear r hk HX ET
  have r := K.rawS
  go_wp2_with (first | ((first | (apply K.alloc; rfl; rfl; (first | with_reducible exact big_zero | with_reducible exact frac_zero)) | (apply K.box; rfl; rfl; rfl)); clear K r; (first | ((fail_if_success revert b0); intro W b0 K) | ((fail_if_success revert b1); intro W b1 K) | ((fail_if_success revert b2); intro W b2 K) | ((fail_if_success revert b3); intro W b3 K) | ((fail_if_success revert b4); intro W b4 K) | ((fail_if_success revert b5); intro W b5 K) | ((fail_if_success revert b6); intro W b6 K) | ((fail_if_success revert b7); intro W b7 K) | ((fail_if_success revert b8); intro W b8 K) | ((fail_if_success revert b9); intro W b9 K) | ((fail_if_success revert b10); intro W b10 K) | ((fail_if_success revert b11); intro W b11 K) | ((fail_if_success revert b12); intro W b12 K) | ((fail_if_success revert b13); intro W b13 K) | ((fail_if_success revert b14); intro W b14 K) | ((fail_if_success revert b15); intro W b15 K)); have r := K.rawS) | (apply K.storeA; rfl; rfl; rfl; rfl; rfl; (repeat (first | with_reducible exact Upd.head _ | with_reducible apply Upd.tail)); (first | with_reducible exact big_size | with_reducible exact frac_size); rfl; rfl; rfl; clear K r; intro W K; have r := K.rawS))
  refine (cSub _ _ (x - y) _ _ _ _ _ _ _ _ _ _ _ _ _ _ _ _ _ _ _ _ _ (by first | exact Rd.nil | exact K.rda) (by first | exact Rd.nil | exact K.rda) (by first | exact Rd.nil | exact K.rda) (by first | exact Rd.nil | exact K.rda) hs1 hs2 g1 g2 rfl (by omega)).mono ?_
  rintro e W' ⟨s4, A4, n4, c4, l4, t4, B4, m4, d4, k4, rfl, ⟨hra, hrb⟩, hs4, ⟨hfa, hfb⟩, hb⟩
  replace hs4 : StdF s4 l4 t4 k4 (x - y) := hs4
  replace K := K.retF hb hra hrb hfa hfb
  clear r
  have r := K.rawS
  clear hra hrb hfa hfb hb
  go_wp2_with fail
  refine (lright_any _ _ _ _ _ _ _ _ _ _ _ (by first | exact Rd.nil | exact K.rda) (by first | exact Rd.nil | exact K.rda) _ hs4 (ht_fits g4 (by omega))).mono ?_
  rintro e W' ⟨rfl, hb⟩
  replace K := K.keep hb
  clear r
  have r := K.rawS
  clear hb
  have hsC : s4 = C := by rw [hs4.1.1]; exact ES.out
  have hsd : (s4 != C) = false := by rw [hsC]; simp
  clear hsC
  go_wp2_with (first | ((first | (apply K.alloc; rfl; rfl; (first | with_reducible exact big_zero | with_reducible exact frac_zero)) | (apply K.box; rfl; rfl; rfl)); clear K r; (first | ((fail_if_success revert b0); intro W b0 K) | ((fail_if_success revert b1); intro W b1 K) | ((fail_if_success revert b2); intro W b2 K) | ((fail_if_success revert b3); intro W b3 K) | ((fail_if_success revert b4); intro W b4 K) | ((fail_if_success revert b5); intro W b5 K) | ((fail_if_success revert b6); intro W b6 K) | ((fail_if_success revert b7); intro W b7 K) | ((fail_if_success revert b8); intro W b8 K) | ((fail_if_success revert b9); intro W b9 K) | ((fail_if_success revert b10); intro W b10 K) | ((fail_if_success revert b11); intro W b11 K) | ((fail_if_success revert b12); intro W b12 K) | ((fail_if_success revert b13); intro W b13 K) | ((fail_if_success revert b14); intro W b14 K) | ((fail_if_success revert b15); intro W b15 K)); have r := K.rawS) | (apply K.storeA; rfl; rfl; rfl; rfl; rfl; (repeat (first | with_reducible exact Upd.head _ | with_reducible apply Upd.tail)); (first | with_reducible exact big_size | with_reducible exact frac_size); rfl; rfl; rfl; clear K r; intro W K; have r := K.rawS))
  refine (cAdd _ _ (x + z) _ _ _ _ _ _ _ _ _ _ _ _ _ _ _ _ _ _ _ _ _ (by first | exact Rd.nil | exact K.rda) (by first | exact Rd.nil | exact K.rda) (by first | exact Rd.nil | exact K.rda) (by first | exact Rd.nil | exact K.rda) hs1 hs3 g1 g3 (Lib.hid rfl).out (by omega)).mono ?_
  rintro e W' ⟨s5, A5, n5, c5, l5, t5, B5, m5, d5, k5, rfl, ⟨hra, hrb⟩, hs5, ⟨hfa, hfb⟩, hb⟩
  replace hs5 : StdF s5 l5 t5 k5 (x + z) := hs5
  replace K := K.retF hb hra hrb hfa hfb
  clear r
  have r := K.rawS
  clear hra hrb hfa hfb hb
  go_wp2_with fail
  refine (lright_any _ _ _ _ _ _ _ _ _ _ _ (by first | exact Rd.nil | exact K.rda) (by first | exact Rd.nil | exact K.rda) _ hs5 (ht_fits g5 (by omega))).mono ?_
  rintro e W' ⟨rfl, hb⟩
  replace K := K.keep hb
  clear r
  have r := K.rawS
  clear hb
  go_wp2_with (first | ((first | (apply K.alloc; rfl; rfl; (first | with_reducible exact big_zero | with_reducible exact frac_zero)) | (apply K.box; rfl; rfl; rfl)); clear K r; (first | ((fail_if_success revert b0); intro W b0 K) | ((fail_if_success revert b1); intro W b1 K) | ((fail_if_success revert b2); intro W b2 K) | ((fail_if_success revert b3); intro W b3 K) | ((fail_if_success revert b4); intro W b4 K) | ((fail_if_success revert b5); intro W b5 K) | ((fail_if_success revert b6); intro W b6 K) | ((fail_if_success revert b7); intro W b7 K) | ((fail_if_success revert b8); intro W b8 K) | ((fail_if_success revert b9); intro W b9 K) | ((fail_if_success revert b10); intro W b10 K) | ((fail_if_success revert b11); intro W b11 K) | ((fail_if_success revert b12); intro W b12 K) | ((fail_if_success revert b13); intro W b13 K) | ((fail_if_success revert b14); intro W b14 K) | ((fail_if_success revert b15); intro W b15 K)); have r := K.rawS) | (apply K.storeA; rfl; rfl; rfl; rfl; rfl; (repeat (first | with_reducible exact Upd.head _ | with_reducible apply Upd.tail)); (first | with_reducible exact big_size | with_reducible exact frac_size); rfl; rfl; rfl; clear K r; intro W K; have r := K.rawS))
  refine (cAdd _ _ (y + z) _ _ _ _ _ _ _ _ _ _ _ _ _ _ _ _ _ _ _ _ _ (by first | exact Rd.nil | exact K.rda) (by first | exact Rd.nil | exact K.rda) (by first | exact Rd.nil | exact K.rda) (by first | exact Rd.nil | exact K.rda) hs2 hs3 g2 g3 (Lib.hid rfl).out (by omega)).mono ?_
  rintro e W' ⟨s6, A6, n6, c6, l6, t6, B6, m6, d6, k6, rfl, ⟨hra, hrb⟩, hs6, ⟨hfa, hfb⟩, hb⟩
  replace hs6 : StdF s6 l6 t6 k6 (y + z) := hs6
  replace K := K.retF hb hra hrb hfa hfb
  clear r
  have r := K.rawS
  clear hra hrb hfa hfb hb
  go_wp2_with fail
  refine (lright_any _ _ _ _ _ _ _ _ _ _ _ (by first | exact Rd.nil | exact K.rda) (by first | exact Rd.nil | exact K.rda) _ hs6 (ht_fits g6 (by omega))).mono ?_
  rintro e W' ⟨rfl, hb⟩
  replace K := K.keep hb
  clear r
  have r := K.rawS
  clear hb
  go_wp2_with (first | ((first | (apply K.alloc; rfl; rfl; (first | with_reducible exact big_zero | with_reducible exact frac_zero)) | (apply K.box; rfl; rfl; rfl)); clear K r; (first | ((fail_if_success revert b0); intro W b0 K) | ((fail_if_success revert b1); intro W b1 K) | ((fail_if_success revert b2); intro W b2 K) | ((fail_if_success revert b3); intro W b3 K) | ((fail_if_success revert b4); intro W b4 K) | ((fail_if_success revert b5); intro W b5 K) | ((fail_if_success revert b6); intro W b6 K) | ((fail_if_success revert b7); intro W b7 K) | ((fail_if_success revert b8); intro W b8 K) | ((fail_if_success revert b9); intro W b9 K) | ((fail_if_success revert b10); intro W b10 K) | ((fail_if_success revert b11); intro W b11 K) | ((fail_if_success revert b12); intro W b12 K) | ((fail_if_success revert b13); intro W b13 K) | ((fail_if_success revert b14); intro W b14 K) | ((fail_if_success revert b15); intro W b15 K)); have r := K.rawS) | (apply K.storeA; rfl; rfl; rfl; rfl; rfl; (repeat (first | with_reducible exact Upd.head _ | with_reducible apply Upd.tail)); (first | with_reducible exact big_size | with_reducible exact frac_size); rfl; rfl; rfl; clear K r; intro W K; have r := K.rawS))
  refine (cMul _ _ (x * z) _ _ _ _ _ _ _ _ _ _ _ _ _ _ _ _ _ _ _ _ _ (by first | exact Rd.nil | exact K.rda) (by first | exact Rd.nil | exact K.rda) (by first | exact Rd.nil | exact K.rda) (by first | exact Rd.nil | exact K.rda) hs1 hs3 g1 g3 (Lib.hid rfl).out (by omega)).mono ?_
  rintro e W' ⟨s7, A7, n7, c7, l7, t7, B7, m7, d7, k7, rfl, ⟨hra, hrb⟩, hs7, ⟨hfa, hfb⟩, hb⟩
  replace hs7 : StdF s7 l7 t7 k7 (x * z) := hs7
  replace K := K.retF hb hra hrb hfa hfb
  clear r
  have r := K.rawS
  clear hra hrb hfa hfb hb
  go_wp2_with fail
  refine (lright_any _ _ _ _ _ _ _ _ _ _ _ (by first | exact Rd.nil | exact K.rda) (by first | exact Rd.nil | exact K.rda) _ hs7 (ht_fits g7 (by omega))).mono ?_
  rintro e W' ⟨rfl, hb⟩
  replace K := K.keep hb
  clear r
  have r := K.rawS
  clear hb
  go_wp2_with (first | ((first | (apply K.alloc; rfl; rfl; (first | with_reducible exact big_zero | with_reducible exact frac_zero)) | (apply K.box; rfl; rfl; rfl)); clear K r; (first | ((fail_if_success revert b0); intro W b0 K) | ((fail_if_success revert b1); intro W b1 K) | ((fail_if_success revert b2); intro W b2 K) | ((fail_if_success revert b3); intro W b3 K) | ((fail_if_success revert b4); intro W b4 K) | ((fail_if_success revert b5); intro W b5 K) | ((fail_if_success revert b6); intro W b6 K) | ((fail_if_success revert b7); intro W b7 K) | ((fail_if_success revert b8); intro W b8 K) | ((fail_if_success revert b9); intro W b9 K) | ((fail_if_success revert b10); intro W b10 K) | ((fail_if_success revert b11); intro W b11 K) | ((fail_if_success revert b12); intro W b12 K) | ((fail_if_success revert b13); intro W b13 K) | ((fail_if_success revert b14); intro W b14 K) | ((fail_if_success revert b15); intro W b15 K)); have r := K.rawS) | (apply K.storeA; rfl; rfl; rfl; rfl; rfl; (repeat (first | with_reducible exact Upd.head _ | with_reducible apply Upd.tail)); (first | with_reducible exact big_size | with_reducible exact frac_size); rfl; rfl; rfl; clear K r; intro W K; have r := K.rawS))
  refine (cMul _ _ (y * z) _ _ _ _ _ _ _ _ _ _ _ _ _ _ _ _ _ _ _ _ _ (by first | exact Rd.nil | exact K.rda) (by first | exact Rd.nil | exact K.rda) (by first | exact Rd.nil | exact K.rda) (by first | exact Rd.nil | exact K.rda) hs2 hs3 g2 g3 (Lib.hid rfl).out (by omega)).mono ?_
  rintro e W' ⟨s8, A8, n8, c8, l8, t8, B8, m8, d8, k8, rfl, ⟨hra, hrb⟩, hs8, ⟨hfa, hfb⟩, hb⟩
  replace hs8 : StdF s8 l8 t8 k8 (y * z) := hs8
  replace K := K.retF hb hra hrb hfa hfb
  clear r
  have r := K.rawS
  clear hra hrb hfa hfb hb
  go_wp2_with fail
  refine (lright_any _ _ _ _ _ _ _ _ _ _ _ (by first | exact Rd.nil | exact K.rda) (by first | exact Rd.nil | exact K.rda) _ hs8 (ht_fits g8 (by omega))).mono ?_
  rintro e W' ⟨rfl, hb⟩
  replace K := K.keep hb
  clear r
  have r := K.rawS
  clear hb
  go_wp2_with (first | ((first | (apply K.alloc; rfl; rfl; (first | with_reducible exact big_zero | with_reducible exact frac_zero)) | (apply K.box; rfl; rfl; rfl)); clear K r; (first | ((fail_if_success revert b0); intro W b0 K) | ((fail_if_success revert b1); intro W b1 K) | ((fail_if_success revert b2); intro W b2 K) | ((fail_if_success revert b3); intro W b3 K) | ((fail_if_success revert b4); intro W b4 K) | ((fail_if_success revert b5); intro W b5 K) | ((fail_if_success revert b6); intro W b6 K) | ((fail_if_success revert b7); intro W b7 K) | ((fail_if_success revert b8); intro W b8 K) | ((fail_if_success revert b9); intro W b9 K) | ((fail_if_success revert b10); intro W b10 K) | ((fail_if_success revert b11); intro W b11 K) | ((fail_if_success revert b12); intro W b12 K) | ((fail_if_success revert b13); intro W b13 K) | ((fail_if_success revert b14); intro W b14 K) | ((fail_if_success revert b15); intro W b15 K)); have r := K.rawS) | (apply K.storeA; rfl; rfl; rfl; rfl; rfl; (repeat (first | with_reducible exact Upd.head _ | with_reducible apply Upd.tail)); (first | with_reducible exact big_size | with_reducible exact frac_size); rfl; rfl; rfl; clear K r; intro W K; have r := K.rawS))
  refine (cCmp _ _ _ _ _ _ _ _ _ _ _ _ _ _ _ _ _ _ _ _ _ _ _ (by first | exact Rd.nil | exact K.rda) (by first | exact Rd.nil | exact K.rda) (by first | exact Rd.nil | exact K.rda) (by first | exact Rd.nil | exact K.rda) hs5 hs6 g5 g6 (C) EA.out (by omega) (by omega)).mono ?_
  rintro e W' ⟨rfl, hb⟩
  replace K := K.keep hb
  clear r
  have r := K.rawS
  clear hb
  go_upto_region 16 with (first | ((first | (apply K.alloc; rfl; rfl; (first | with_reducible exact big_zero | with_reducible exact frac_zero)) | (apply K.box; rfl; rfl; rfl)); clear K r; (first | ((fail_if_success revert b0); intro W b0 K) | ((fail_if_success revert b1); intro W b1 K) | ((fail_if_success revert b2); intro W b2 K) | ((fail_if_success revert b3); intro W b3 K) | ((fail_if_success revert b4); intro W b4 K) | ((fail_if_success revert b5); intro W b5 K) | ((fail_if_success revert b6); intro W b6 K) | ((fail_if_success revert b7); intro W b7 K) | ((fail_if_success revert b8); intro W b8 K) | ((fail_if_success revert b9); intro W b9 K) | ((fail_if_success revert b10); intro W b10 K) | ((fail_if_success revert b11); intro W b11 K) | ((fail_if_success revert b12); intro W b12 K) | ((fail_if_success revert b13); intro W b13 K) | ((fail_if_success revert b14); intro W b14 K) | ((fail_if_success revert b15); intro W b15 K)); have r := K.rawS) | (apply K.storeA; rfl; rfl; rfl; rfl; rfl; (repeat (first | with_reducible exact Upd.head _ | with_reducible apply Upd.tail)); (first | with_reducible exact big_size | with_reducible exact frac_size); rfl; rfl; rfl; clear K r; intro W K; have r := K.rawS))
  have hw2 := H2.out
  obtain ⟨KS, X0, XK, XF, XS⟩ := K.pack2 (fun W => ((W.cell? ⟨b2, 0, none⟩ = some (.int .i64 s3) ∧ W.cell? ⟨b2, 1, none⟩ = some (.slice A3 n3 c3) ∧ W.cell? ⟨b2, 2, none⟩ = some (.int .i64 t3) ∧ W.cell? ⟨b2, 3, none⟩ = some (.slice B3 m3 d3)) ∧ (W.cell? ⟨b6, 0, none⟩ = some (.int .i64 s7) ∧ W.cell? ⟨b6, 1, none⟩ = some (.slice A7 n7 c7) ∧ W.cell? ⟨b6, 2, none⟩ = some (.int .i64 t7) ∧ W.cell? ⟨b6, 3, none⟩ = some (.slice B7 m7 d7)) ∧ (W.cell? ⟨b7, 0, none⟩ = some (.int .i64 s8) ∧ W.cell? ⟨b7, 1, none⟩ = some (.slice A8 n8 c8) ∧ W.cell? ⟨b7, 2, none⟩ = some (.int .i64 t8) ∧ W.cell? ⟨b7, 3, none⟩ = some (.slice B8 m8 d8)))) (fun W K => by
    have r := K.raw
    simp only [Raw, RawC, and_true, true_and, Nat.zero_add, Nat.reduceAdd] at r
    simp only [r, and_self])
  have HSx := Lib.hid (fun W (h : KS W) => (show KS W ∧ ((W.cell? ⟨b2, 0, none⟩ = some (.int .i64 s3) ∧ W.cell? ⟨b2, 1, none⟩ = some (.slice A3 n3 c3) ∧ W.cell? ⟨b2, 2, none⟩ = some (.int .i64 t3) ∧ W.cell? ⟨b2, 3, none⟩ = some (.slice B3 m3 d3)) ∧ (W.cell? ⟨b6, 0, none⟩ = some (.int .i64 s7) ∧ W.cell? ⟨b6, 1, none⟩ = some (.slice A7 n7 c7) ∧ W.cell? ⟨b6, 2, none⟩ = some (.int .i64 t7) ∧ W.cell? ⟨b6, 3, none⟩ = some (.slice B7 m7 d7)) ∧ (W.cell? ⟨b7, 0, none⟩ = some (.int .i64 s8) ∧ W.cell? ⟨b7, 1, none⟩ = some (.slice A8 n8 c8) ∧ W.cell? ⟨b7, 2, none⟩ = some (.int .i64 t8) ∧ W.cell? ⟨b7, 3, none⟩ = some (.slice B8 m8 d8))) from ⟨h, XF W h⟩))
  have XD := Lib.hid (fun W (h : KS W) => XK W W.drew h (Below.refl _ _).drew)
  have XSt := Lib.hid XS
  have QA := Lib.hid (fun W (h : KS W) => (cCmp (x * z) (y * z) _ _ _ _ _ _ _ _ _ _ _ _ _ _ _ _ _ _ _ _ W ((XS W h).rd (by repeat (first | with_reducible exact List.mem_cons_self | with_reducible apply List.mem_cons_of_mem))) ((XS W h).rd (by repeat (first | with_reducible exact List.mem_cons_self | with_reducible apply List.mem_cons_of_mem))) ((XS W h).rd (by repeat (first | with_reducible exact List.mem_cons_self | with_reducible apply List.mem_cons_of_mem))) ((XS W h).rd (by repeat (first | with_reducible exact List.mem_cons_self | with_reducible apply List.mem_cons_of_mem))) hs7 hs8 g7 g8 (C * s3) EM.out (by omega) (by omega)).mono fun e W' ⟨he, hb⟩ => (⟨he, XK _ _ h hb⟩ : e = Ending.returned (.int .i64 (C * s3)) ∧ KS W'))
  clear XF XK XS K r hs4 hs5 hs6 hs7 hs8 g4 g5 g6 g7 g8
  go_region_held3 (fun W => KS W ∧ ((W.cell? ⟨b2, 0, none⟩ = some (.int .i64 s3) ∧ W.cell? ⟨b2, 1, none⟩ = some (.slice A3 n3 c3) ∧ W.cell? ⟨b2, 2, none⟩ = some (.int .i64 t3) ∧ W.cell? ⟨b2, 3, none⟩ = some (.slice B3 m3 d3)) ∧ (W.cell? ⟨b6, 0, none⟩ = some (.int .i64 s7) ∧ W.cell? ⟨b6, 1, none⟩ = some (.slice A7 n7 c7) ∧ W.cell? ⟨b6, 2, none⟩ = some (.int .i64 t7) ∧ W.cell? ⟨b6, 3, none⟩ = some (.slice B7 m7 d7)) ∧ (W.cell? ⟨b7, 0, none⟩ = some (.int .i64 s8) ∧ W.cell? ⟨b7, 1, none⟩ = some (.slice A8 n8 c8) ∧ W.cell? ⟨b7, 2, none⟩ = some (.int .i64 t8) ∧ W.cell? ⟨b7, 3, none⟩ = some (.slice B8 m8 d8))))
    ((refine HSx.out _ ?_; first | assumption | exact XD.out _ X0 | exact And.left (by assumption)))
    (first
      | (go_at_call 56; (with_reducible refine (QA.out _ (And.left (by assumption))).mono ?_); rintro e v1 ⟨rfl, x10⟩))
  all_goals
    have K := XSt.out _ x10
    go_wp2
    go_ret
    exact ⟨rfl, K.1⟩
end Go.Proofs.YtkeajohkpmabcaaGreatDoor
