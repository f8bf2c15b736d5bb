
/- Walk over the law FracField. Conditions stand in the theorem. -/
import Derived.Test.YtkeajohkpmabcaaGreatDoorQ5
import Derived.Test.YtkeajohkpmabcaaGreatDoorU
namespace Go.Proofs.YtkeajohkpmabcaaGreatDoor
open Go.RowKit
set_option linter.unusedVariables false
set_option linter.unusedSimpArgs false

set_option maxRecDepth 1000000 in
set_option maxHeartbeats 16000000 in
theorem fracField_walk (s1 t1 : Int) (A1 B1 : Option Addr) (n1 c1 m1 d1 : Nat) (l1 k1 : List Int) (s2 t2 : Int) (A2 B2 : Option Addr) (n2 c2 m2 d2 : Nat) (l2 k2 : List Int) (s3 t3 : Int) (A3 B3 : Option Addr) (n3 c3 m3 d3 : Nat) (l3 k3 : List Int) (w : World) (r1 : RdI w w.heap.size A1 n1 c1 l1) (q1 : RdI w w.heap.size B1 m1 d1 k1) (r2 : RdI w w.heap.size A2 n2 c2 l2) (q2 : RdI w w.heap.size B2 m2 d2 k2) (r3 : RdI w w.heap.size A3 n3 c3 l3) (q3 : RdI w w.heap.size B3 m3 d3 k3) (htab : TabM w) :
    Calls Tryz.prog 5 #[.agg #[.int .i64 s1, .slice A1 n1 c1, .int .i64 t1, .slice B1 m1 d1], .agg #[.int .i64 s2, .slice A2 n2 c2, .int .i64 t2, .slice B2 m2 d2], .agg #[.int .i64 s3, .slice A3 n3 c3, .int .i64 t3, .slice B3 m3 d3]] w fun e w' => e = .returned (.bool true) ∧ Below w.heap.size w w' := by
  have K := ((((((St.start w).oldRd r1).oldRd q1).oldRd r2).oldRd q2).oldRd r3).oldRd q3
  have r := K.raw
  have HS := Lib.hid (fun W (h : Below w.heap.size w W) => small5_any W (htab.on h))
  have HF1 := Lib.hid (fun W => gfew_any s1 t1 A1 B1 n1 c1 m1 d1 6 W)
  have HF2 := Lib.hid (fun W => gfew_any s2 t2 A2 B2 n2 c2 m2 d2 6 W)
  have HF3 := Lib.hid (fun W => gfew_any s3 t3 A3 B3 n3 c3 m3 d3 6 W)
  have HR1 := Lib.hid (fun W a b => fRight_any s1 t1 A1 B1 n1 c1 m1 d1 l1 k1 W a b)
  have HR2 := Lib.hid (fun W a b => fRight_any s2 t2 A2 B2 n2 c2 m2 d2 l2 k2 W a b)
  have HR3 := Lib.hid (fun W a b => fRight_any s3 t3 A3 B3 n3 c3 m3 d3 l3 k3 W a b)
  cases x1 : fewF n1 m1 6
  · rw [x1] at HF1
    clear x1
    clear r1 q1 r2 q2 r3 q3
    go_enter Tryz.func5, Tryz.ntmps5
    go_wp2_with (first | (first | ((first | (apply K.alloc; rfl; rfl; (first | with_reducible exact big_zero | with_reducible exact frac_zero)) | (apply K.box; rfl; rfl; rfl)); clear K r; (first | ((fail_if_success revert b0); intro W b0 K) | ((fail_if_success revert b1); intro W b1 K) | ((fail_if_success revert b2); intro W b2 K) | ((fail_if_success revert b3); intro W b3 K) | ((fail_if_success revert b4); intro W b4 K) | ((fail_if_success revert b5); intro W b5 K) | ((fail_if_success revert b6); intro W b6 K) | ((fail_if_success revert b7); intro W b7 K) | ((fail_if_success revert b8); intro W b8 K) | ((fail_if_success revert b9); intro W b9 K) | ((fail_if_success revert b10); intro W b10 K) | ((fail_if_success revert b11); intro W b11 K) | ((fail_if_success revert b12); intro W b12 K) | ((fail_if_success revert b13); intro W b13 K) | ((fail_if_success revert b14); intro W b14 K) | ((fail_if_success revert b15); intro W b15 K)); have r := K.rawS) | (apply K.storeA; rfl; rfl; rfl; rfl; rfl; (repeat (first | with_reducible exact Upd.head _ | with_reducible apply Upd.tail)); (first | with_reducible exact big_size | with_reducible exact frac_size); rfl; rfl; rfl; clear K r; intro W K; have r := K.rawS)) | (go_at_call 37; (with_reducible refine (HS.out _ K.bel).mono ?_); rintro e W' ⟨rfl, hb⟩; replace K := K.keep hb; clear r; have r := K.rawS; clear hb) | (go_at_call 38; (with_reducible refine (HF1.out _).mono ?_); rintro e W' ⟨rfl, hb⟩; replace K := K.keep hb; clear r; have r := K.rawS; clear hb) | (go_at_call 54; (with_reducible refine (HR1.out _ ?qr ?qs).mono ?_); (case qr => exact (by first | exact Rd.nil | exact K.rda)); (case qs => exact (by first | exact Rd.nil | exact K.rda)); rintro e W' ⟨rfl, hb⟩; replace K := K.keep hb; clear r; have r := K.rawS; clear hb) | (go_at_call 38; (with_reducible refine (HF2.out _).mono ?_); rintro e W' ⟨rfl, hb⟩; replace K := K.keep hb; clear r; have r := K.rawS; clear hb) | (go_at_call 54; (with_reducible refine (HR2.out _ ?qr ?qs).mono ?_); (case qr => exact (by first | exact Rd.nil | exact K.rda)); (case qs => exact (by first | exact Rd.nil | exact K.rda)); rintro e W' ⟨rfl, hb⟩; replace K := K.keep hb; clear r; have r := K.rawS; clear hb) | (go_at_call 38; (with_reducible refine (HF3.out _).mono ?_); rintro e W' ⟨rfl, hb⟩; replace K := K.keep hb; clear r; have r := K.rawS; clear hb) | (go_at_call 54; (with_reducible refine (HR3.out _ ?qr ?qs).mono ?_); (case qr => exact (by first | exact Rd.nil | exact K.rda)); (case qs => exact (by first | exact Rd.nil | exact K.rda)); rintro e W' ⟨rfl, hb⟩; replace K := K.keep hb; clear r; have r := K.rawS; clear hb))
    go_ret
    exact ⟨rfl, K.1⟩
  cases x2 : fewF n2 m2 6
  · rw [x1] at HF1
    rw [x2] at HF2
    clear x1 x2
    clear r1 q1 r2 q2 r3 q3
    go_enter Tryz.func5, Tryz.ntmps5
    go_wp2_with (first | (first | ((first | (apply K.alloc; rfl; rfl; (first | with_reducible exact big_zero | with_reducible exact frac_zero)) | (apply K.box; rfl; rfl; rfl)); clear K r; (first | ((fail_if_success revert b0); intro W b0 K) | ((fail_if_success revert b1); intro W b1 K) | ((fail_if_success revert b2); intro W b2 K) | ((fail_if_success revert b3); intro W b3 K) | ((fail_if_success revert b4); intro W b4 K) | ((fail_if_success revert b5); intro W b5 K) | ((fail_if_success revert b6); intro W b6 K) | ((fail_if_success revert b7); intro W b7 K) | ((fail_if_success revert b8); intro W b8 K) | ((fail_if_success revert b9); intro W b9 K) | ((fail_if_success revert b10); intro W b10 K) | ((fail_if_success revert b11); intro W b11 K) | ((fail_if_success revert b12); intro W b12 K) | ((fail_if_success revert b13); intro W b13 K) | ((fail_if_success revert b14); intro W b14 K) | ((fail_if_success revert b15); intro W b15 K)); have r := K.rawS) | (apply K.storeA; rfl; rfl; rfl; rfl; rfl; (repeat (first | with_reducible exact Upd.head _ | with_reducible apply Upd.tail)); (first | with_reducible exact big_size | with_reducible exact frac_size); rfl; rfl; rfl; clear K r; intro W K; have r := K.rawS)) | (go_at_call 37; (with_reducible refine (HS.out _ K.bel).mono ?_); rintro e W' ⟨rfl, hb⟩; replace K := K.keep hb; clear r; have r := K.rawS; clear hb) | (go_at_call 38; (with_reducible refine (HF1.out _).mono ?_); rintro e W' ⟨rfl, hb⟩; replace K := K.keep hb; clear r; have r := K.rawS; clear hb) | (go_at_call 54; (with_reducible refine (HR1.out _ ?qr ?qs).mono ?_); (case qr => exact (by first | exact Rd.nil | exact K.rda)); (case qs => exact (by first | exact Rd.nil | exact K.rda)); rintro e W' ⟨rfl, hb⟩; replace K := K.keep hb; clear r; have r := K.rawS; clear hb) | (go_at_call 38; (with_reducible refine (HF2.out _).mono ?_); rintro e W' ⟨rfl, hb⟩; replace K := K.keep hb; clear r; have r := K.rawS; clear hb) | (go_at_call 54; (with_reducible refine (HR2.out _ ?qr ?qs).mono ?_); (case qr => exact (by first | exact Rd.nil | exact K.rda)); (case qs => exact (by first | exact Rd.nil | exact K.rda)); rintro e W' ⟨rfl, hb⟩; replace K := K.keep hb; clear r; have r := K.rawS; clear hb) | (go_at_call 38; (with_reducible refine (HF3.out _).mono ?_); rintro e W' ⟨rfl, hb⟩; replace K := K.keep hb; clear r; have r := K.rawS; clear hb) | (go_at_call 54; (with_reducible refine (HR3.out _ ?qr ?qs).mono ?_); (case qr => exact (by first | exact Rd.nil | exact K.rda)); (case qs => exact (by first | exact Rd.nil | exact K.rda)); rintro e W' ⟨rfl, hb⟩; replace K := K.keep hb; clear r; have r := K.rawS; clear hb))
    go_ret
    exact ⟨rfl, K.1⟩
  cases x3 : fewF n3 m3 6
  · rw [x1] at HF1
    rw [x2] at HF2
    rw [x3] at HF3
    clear x1 x2 x3
    clear r1 q1 r2 q2 r3 q3
    go_enter Tryz.func5, Tryz.ntmps5
    go_wp2_with (first | (first | ((first | (apply K.alloc; rfl; rfl; (first | with_reducible exact big_zero | with_reducible exact frac_zero)) | (apply K.box; rfl; rfl; rfl)); clear K r; (first | ((fail_if_success revert b0); intro W b0 K) | ((fail_if_success revert b1); intro W b1 K) | ((fail_if_success revert b2); intro W b2 K) | ((fail_if_success revert b3); intro W b3 K) | ((fail_if_success revert b4); intro W b4 K) | ((fail_if_success revert b5); intro W b5 K) | ((fail_if_success revert b6); intro W b6 K) | ((fail_if_success revert b7); intro W b7 K) | ((fail_if_success revert b8); intro W b8 K) | ((fail_if_success revert b9); intro W b9 K) | ((fail_if_success revert b10); intro W b10 K) | ((fail_if_success revert b11); intro W b11 K) | ((fail_if_success revert b12); intro W b12 K) | ((fail_if_success revert b13); intro W b13 K) | ((fail_if_success revert b14); intro W b14 K) | ((fail_if_success revert b15); intro W b15 K)); have r := K.rawS) | (apply K.storeA; rfl; rfl; rfl; rfl; rfl; (repeat (first | with_reducible exact Upd.head _ | with_reducible apply Upd.tail)); (first | with_reducible exact big_size | with_reducible exact frac_size); rfl; rfl; rfl; clear K r; intro W K; have r := K.rawS)) | (go_at_call 37; (with_reducible refine (HS.out _ K.bel).mono ?_); rintro e W' ⟨rfl, hb⟩; replace K := K.keep hb; clear r; have r := K.rawS; clear hb) | (go_at_call 38; (with_reducible refine (HF1.out _).mono ?_); rintro e W' ⟨rfl, hb⟩; replace K := K.keep hb; clear r; have r := K.rawS; clear hb) | (go_at_call 54; (with_reducible refine (HR1.out _ ?qr ?qs).mono ?_); (case qr => exact (by first | exact Rd.nil | exact K.rda)); (case qs => exact (by first | exact Rd.nil | exact K.rda)); rintro e W' ⟨rfl, hb⟩; replace K := K.keep hb; clear r; have r := K.rawS; clear hb) | (go_at_call 38; (with_reducible refine (HF2.out _).mono ?_); rintro e W' ⟨rfl, hb⟩; replace K := K.keep hb; clear r; have r := K.rawS; clear hb) | (go_at_call 54; (with_reducible refine (HR2.out _ ?qr ?qs).mono ?_); (case qr => exact (by first | exact Rd.nil | exact K.rda)); (case qs => exact (by first | exact Rd.nil | exact K.rda)); rintro e W' ⟨rfl, hb⟩; replace K := K.keep hb; clear r; have r := K.rawS; clear hb) | (go_at_call 38; (with_reducible refine (HF3.out _).mono ?_); rintro e W' ⟨rfl, hb⟩; replace K := K.keep hb; clear r; have r := K.rawS; clear hb) | (go_at_call 54; (with_reducible refine (HR3.out _ ?qr ?qs).mono ?_); (case qr => exact (by first | exact Rd.nil | exact K.rda)); (case qs => exact (by first | exact Rd.nil | exact K.rda)); rintro e W' ⟨rfl, hb⟩; replace K := K.keep hb; clear r; have r := K.rawS; clear hb))
    go_ret
    exact ⟨rfl, K.1⟩
  rw [x1] at HF1
  rw [x2] at HF2
  rw [x3] at HF3
  cases y1 : rightF s1 l1 t1 k1
  · rw [y1] at HR1
    clear x1 x2 x3 y1
    clear r1 q1 r2 q2 r3 q3
    go_enter Tryz.func5, Tryz.ntmps5
    go_wp2_with (first | (first | ((first | (apply K.alloc; rfl; rfl; (first | with_reducible exact big_zero | with_reducible exact frac_zero)) | (apply K.box; rfl; rfl; rfl)); clear K r; (first | ((fail_if_success revert b0); intro W b0 K) | ((fail_if_success revert b1); intro W b1 K) | ((fail_if_success revert b2); intro W b2 K) | ((fail_if_success revert b3); intro W b3 K) | ((fail_if_success revert b4); intro W b4 K) | ((fail_if_success revert b5); intro W b5 K) | ((fail_if_success revert b6); intro W b6 K) | ((fail_if_success revert b7); intro W b7 K) | ((fail_if_success revert b8); intro W b8 K) | ((fail_if_success revert b9); intro W b9 K) | ((fail_if_success revert b10); intro W b10 K) | ((fail_if_success revert b11); intro W b11 K) | ((fail_if_success revert b12); intro W b12 K) | ((fail_if_success revert b13); intro W b13 K) | ((fail_if_success revert b14); intro W b14 K) | ((fail_if_success revert b15); intro W b15 K)); have r := K.rawS) | (apply K.storeA; rfl; rfl; rfl; rfl; rfl; (repeat (first | with_reducible exact Upd.head _ | with_reducible apply Upd.tail)); (first | with_reducible exact big_size | with_reducible exact frac_size); rfl; rfl; rfl; clear K r; intro W K; have r := K.rawS)) | (go_at_call 37; (with_reducible refine (HS.out _ K.bel).mono ?_); rintro e W' ⟨rfl, hb⟩; replace K := K.keep hb; clear r; have r := K.rawS; clear hb) | (go_at_call 38; (with_reducible refine (HF1.out _).mono ?_); rintro e W' ⟨rfl, hb⟩; replace K := K.keep hb; clear r; have r := K.rawS; clear hb) | (go_at_call 54; (with_reducible refine (HR1.out _ ?qr ?qs).mono ?_); (case qr => exact (by first | exact Rd.nil | exact K.rda)); (case qs => exact (by first | exact Rd.nil | exact K.rda)); rintro e W' ⟨rfl, hb⟩; replace K := K.keep hb; clear r; have r := K.rawS; clear hb) | (go_at_call 38; (with_reducible refine (HF2.out _).mono ?_); rintro e W' ⟨rfl, hb⟩; replace K := K.keep hb; clear r; have r := K.rawS; clear hb) | (go_at_call 54; (with_reducible refine (HR2.out _ ?qr ?qs).mono ?_); (case qr => exact (by first | exact Rd.nil | exact K.rda)); (case qs => exact (by first | exact Rd.nil | exact K.rda)); rintro e W' ⟨rfl, hb⟩; replace K := K.keep hb; clear r; have r := K.rawS; clear hb) | (go_at_call 38; (with_reducible refine (HF3.out _).mono ?_); rintro e W' ⟨rfl, hb⟩; replace K := K.keep hb; clear r; have r := K.rawS; clear hb) | (go_at_call 54; (with_reducible refine (HR3.out _ ?qr ?qs).mono ?_); (case qr => exact (by first | exact Rd.nil | exact K.rda)); (case qs => exact (by first | exact Rd.nil | exact K.rda)); rintro e W' ⟨rfl, hb⟩; replace K := K.keep hb; clear r; have r := K.rawS; clear hb))
    go_ret
    exact ⟨rfl, K.1⟩
  cases y2 : rightF s2 l2 t2 k2
  · rw [y1] at HR1
    rw [y2] at HR2
    clear x1 x2 x3 y1 y2
    clear r1 q1 r2 q2 r3 q3
    go_enter Tryz.func5, Tryz.ntmps5
    go_wp2_with (first | (first | ((first | (apply K.alloc; rfl; rfl; (first | with_reducible exact big_zero | with_reducible exact frac_zero)) | (apply K.box; rfl; rfl; rfl)); clear K r; (first | ((fail_if_success revert b0); intro W b0 K) | ((fail_if_success revert b1); intro W b1 K) | ((fail_if_success revert b2); intro W b2 K) | ((fail_if_success revert b3); intro W b3 K) | ((fail_if_success revert b4); intro W b4 K) | ((fail_if_success revert b5); intro W b5 K) | ((fail_if_success revert b6); intro W b6 K) | ((fail_if_success revert b7); intro W b7 K) | ((fail_if_success revert b8); intro W b8 K) | ((fail_if_success revert b9); intro W b9 K) | ((fail_if_success revert b10); intro W b10 K) | ((fail_if_success revert b11); intro W b11 K) | ((fail_if_success revert b12); intro W b12 K) | ((fail_if_success revert b13); intro W b13 K) | ((fail_if_success revert b14); intro W b14 K) | ((fail_if_success revert b15); intro W b15 K)); have r := K.rawS) | (apply K.storeA; rfl; rfl; rfl; rfl; rfl; (repeat (first | with_reducible exact Upd.head _ | with_reducible apply Upd.tail)); (first | with_reducible exact big_size | with_reducible exact frac_size); rfl; rfl; rfl; clear K r; intro W K; have r := K.rawS)) | (go_at_call 37; (with_reducible refine (HS.out _ K.bel).mono ?_); rintro e W' ⟨rfl, hb⟩; replace K := K.keep hb; clear r; have r := K.rawS; clear hb) | (go_at_call 38; (with_reducible refine (HF1.out _).mono ?_); rintro e W' ⟨rfl, hb⟩; replace K := K.keep hb; clear r; have r := K.rawS; clear hb) | (go_at_call 54; (with_reducible refine (HR1.out _ ?qr ?qs).mono ?_); (case qr => exact (by first | exact Rd.nil | exact K.rda)); (case qs => exact (by first | exact Rd.nil | exact K.rda)); rintro e W' ⟨rfl, hb⟩; replace K := K.keep hb; clear r; have r := K.rawS; clear hb) | (go_at_call 38; (with_reducible refine (HF2.out _).mono ?_); rintro e W' ⟨rfl, hb⟩; replace K := K.keep hb; clear r; have r := K.rawS; clear hb) | (go_at_call 54; (with_reducible refine (HR2.out _ ?qr ?qs).mono ?_); (case qr => exact (by first | exact Rd.nil | exact K.rda)); (case qs => exact (by first | exact Rd.nil | exact K.rda)); rintro e W' ⟨rfl, hb⟩; replace K := K.keep hb; clear r; have r := K.rawS; clear hb) | (go_at_call 38; (with_reducible refine (HF3.out _).mono ?_); rintro e W' ⟨rfl, hb⟩; replace K := K.keep hb; clear r; have r := K.rawS; clear hb) | (go_at_call 54; (with_reducible refine (HR3.out _ ?qr ?qs).mono ?_); (case qr => exact (by first | exact Rd.nil | exact K.rda)); (case qs => exact (by first | exact Rd.nil | exact K.rda)); rintro e W' ⟨rfl, hb⟩; replace K := K.keep hb; clear r; have r := K.rawS; clear hb))
    go_ret
    exact ⟨rfl, K.1⟩
  cases y3 : rightF s3 l3 t3 k3
  · rw [y1] at HR1
    rw [y2] at HR2
    rw [y3] at HR3
    clear x1 x2 x3 y1 y2 y3
    clear r1 q1 r2 q2 r3 q3
    go_enter Tryz.func5, Tryz.ntmps5
    go_wp2_with (first | (first | ((first | (apply K.alloc; rfl; rfl; (first | with_reducible exact big_zero | with_reducible exact frac_zero)) | (apply K.box; rfl; rfl; rfl)); clear K r; (first | ((fail_if_success revert b0); intro W b0 K) | ((fail_if_success revert b1); intro W b1 K) | ((fail_if_success revert b2); intro W b2 K) | ((fail_if_success revert b3); intro W b3 K) | ((fail_if_success revert b4); intro W b4 K) | ((fail_if_success revert b5); intro W b5 K) | ((fail_if_success revert b6); intro W b6 K) | ((fail_if_success revert b7); intro W b7 K) | ((fail_if_success revert b8); intro W b8 K) | ((fail_if_success revert b9); intro W b9 K) | ((fail_if_success revert b10); intro W b10 K) | ((fail_if_success revert b11); intro W b11 K) | ((fail_if_success revert b12); intro W b12 K) | ((fail_if_success revert b13); intro W b13 K) | ((fail_if_success revert b14); intro W b14 K) | ((fail_if_success revert b15); intro W b15 K)); have r := K.rawS) | (apply K.storeA; rfl; rfl; rfl; rfl; rfl; (repeat (first | with_reducible exact Upd.head _ | with_reducible apply Upd.tail)); (first | with_reducible exact big_size | with_reducible exact frac_size); rfl; rfl; rfl; clear K r; intro W K; have r := K.rawS)) | (go_at_call 37; (with_reducible refine (HS.out _ K.bel).mono ?_); rintro e W' ⟨rfl, hb⟩; replace K := K.keep hb; clear r; have r := K.rawS; clear hb) | (go_at_call 38; (with_reducible refine (HF1.out _).mono ?_); rintro e W' ⟨rfl, hb⟩; replace K := K.keep hb; clear r; have r := K.rawS; clear hb) | (go_at_call 54; (with_reducible refine (HR1.out _ ?qr ?qs).mono ?_); (case qr => exact (by first | exact Rd.nil | exact K.rda)); (case qs => exact (by first | exact Rd.nil | exact K.rda)); rintro e W' ⟨rfl, hb⟩; replace K := K.keep hb; clear r; have r := K.rawS; clear hb) | (go_at_call 38; (with_reducible refine (HF2.out _).mono ?_); rintro e W' ⟨rfl, hb⟩; replace K := K.keep hb; clear r; have r := K.rawS; clear hb) | (go_at_call 54; (with_reducible refine (HR2.out _ ?qr ?qs).mono ?_); (case qr => exact (by first | exact Rd.nil | exact K.rda)); (case qs => exact (by first | exact Rd.nil | exact K.rda)); rintro e W' ⟨rfl, hb⟩; replace K := K.keep hb; clear r; have r := K.rawS; clear hb) | (go_at_call 38; (with_reducible refine (HF3.out _).mono ?_); rintro e W' ⟨rfl, hb⟩; replace K := K.keep hb; clear r; have r := K.rawS; clear hb) | (go_at_call 54; (with_reducible refine (HR3.out _ ?qr ?qs).mono ?_); (case qr => exact (by first | exact Rd.nil | exact K.rda)); (case qs => exact (by first | exact Rd.nil | exact K.rda)); rintro e W' ⟨rfl, hb⟩; replace K := K.keep hb; clear r; have r := K.rawS; clear hb))
    go_ret
    exact ⟨rfl, K.1⟩
  rw [y1] at HR1
  rw [y2] at HR2
  rw [y3] at HR3
  obtain ⟨u1, v1⟩ := fewF_le x1
  obtain ⟨u2, v2⟩ := fewF_le x2
  obtain ⟨u3, v3⟩ := fewF_le x3
  have hs1 := (rightF_std y1).1
  have hs2 := (rightF_std y2).1
  have hs3 := (rightF_std y3).1
  have g1 : ht (ratF s1 l1 t1 k1) 6 := few_ht r1 q1 y1 (by omega) (by omega)
  have g2 : ht (ratF s2 l2 t2 k2) 6 := few_ht r2 q2 y2 (by omega) (by omega)
  have g3 : ht (ratF s3 l3 t3 k3) 6 := few_ht r3 q3 y3 (by omega) (by omega)
  generalize ratF s1 l1 t1 k1 = x at *
  generalize ratF s2 l2 t2 k2 = y at *
  generalize ratF s3 l3 t3 k3 = z at *
  clear x1 x2 x3 y1 y2 y3 u1 v1 u2 v2 u3 v3 r1 q1 r2 q2 r3 q3
  obtain ⟨v4, e4⟩ : ∃ v, x + y = v := ⟨_, rfl⟩
  have g4 := ht.add g1 g2 e4
  obtain ⟨v5, e5⟩ : ∃ v, y + x = v := ⟨_, rfl⟩
  have g5 := ht.add g2 g1 e5
  obtain ⟨v6, e6⟩ : ∃ v, y + z = v := ⟨_, rfl⟩
  have g6 := ht.add g2 g3 e6
  obtain ⟨v7, e7⟩ : ∃ v, v4 + z = v := ⟨_, rfl⟩
  have g7 := ht.add g4 g3 e7
  obtain ⟨v8, e8⟩ : ∃ v, x + v6 = v := ⟨_, rfl⟩
  have g8 := ht.add g1 g6 e8
  have E45 := Lib.hid (show v4 = v5 from by rw [← e4, ← e5, Rat.add_comm])
  have E78 := Lib.hid (show v7 = v8 from by rw [← e7, ← e8, ← e4, ← e6, Rat.add_assoc])
  obtain ⟨v9, e9⟩ : ∃ v, x * y = v := ⟨_, rfl⟩
  have g9 := ht.mul g1 g2 e9
  obtain ⟨v10, e10⟩ : ∃ v, y * x = v := ⟨_, rfl⟩
  have g10 := ht.mul g2 g1 e10
  obtain ⟨v11, e11⟩ : ∃ v, y * z = v := ⟨_, rfl⟩
  have g11 := ht.mul g2 g3 e11
  obtain ⟨v12, e12⟩ : ∃ v, v9 * z = v := ⟨_, rfl⟩
  have g12 := ht.mul g9 g3 e12
  obtain ⟨v13, e13⟩ : ∃ v, x * v11 = v := ⟨_, rfl⟩
  have g13 := ht.mul g1 g11 e13
  have E910 := Lib.hid (show v9 = v10 from by rw [← e9, ← e10, Rat.mul_comm])
  have E1213 := Lib.hid (show v12 = v13 from by rw [← e12, ← e13, ← e9, ← e11, Rat.mul_assoc])
  obtain ⟨v14, e14⟩ : ∃ v, x * z = v := ⟨_, rfl⟩
  have g14 := ht.mul g1 g3 e14
  obtain ⟨v15, e15⟩ : ∃ v, v4 * z = v := ⟨_, rfl⟩
  have g15 := ht.mul g4 g3 e15
  obtain ⟨v16, e16⟩ : ∃ v, v14 + v11 = v := ⟨_, rfl⟩
  have g16 := ht.add g14 g11 e16
  have E1516 := Lib.hid (show v15 = v16 from by rw [← e15, ← e16, ← e4, ← e14, ← e11, Rat.add_mul])
  obtain ⟨v17, e17⟩ : ∃ v, Rat.divInt 0 1 = v := ⟨_, rfl⟩
  have g17 : ht v17 1 := by rw [← e17]; exact ht_of (by decide) (by decide) (by decide)
  have e17' : v17 = 0 := by rw [← e17]; decide +kernel
  obtain ⟨v19, e19⟩ : ∃ v, Rat.divInt 1 1 = v := ⟨_, rfl⟩
  have g19 : ht v19 1 := by rw [← e19]; exact ht_of (by decide) (by decide) (by decide)
  have e19' : v19 = 1 := by rw [← e19]; decide +kernel
  have E18 := Lib.hid (show x + v17 = x from by rw [e17', Rat.add_zero])
  have E20 := Lib.hid (show x * v19 = x from by rw [e19', Rat.mul_one])
  have E21 := Lib.hid (show v4 - y = x from by rw [← e4, Rat.add_sub_cancel])
  have E22 := Lib.hid (fun h : y ≠ 0 => (show v9 / y = x from by rw [← e9, Rat.mul_div_cancel h]))
  replace e4 := Lib.hid e4
  replace e5 := Lib.hid e5
  replace e6 := Lib.hid e6
  replace e7 := Lib.hid e7
  replace e8 := Lib.hid e8
  replace e9 := Lib.hid e9
  replace e10 := Lib.hid e10
  replace e11 := Lib.hid e11
  replace e12 := Lib.hid e12
  replace e13 := Lib.hid e13
  replace e14 := Lib.hid e14
  replace e15 := Lib.hid e15
  replace e16 := Lib.hid e16
  replace e17 := Lib.hid e17
  replace e19 := Lib.hid e19
  clear e17' e19' htab
  have g18 := g1
  have g20 := g1
  have g21 := g1
  go_enter Tryz.func5, Tryz.ntmps5
  go_wp2_with (first | (first | ((first | (apply K.alloc; rfl; rfl; (first | with_reducible exact big_zero | with_reducible exact frac_zero)) | (apply K.box; rfl; rfl; rfl)); clear K r; (first | ((fail_if_success revert b0); intro W b0 K) | ((fail_if_success revert b1); intro W b1 K) | ((fail_if_success revert b2); intro W b2 K) | ((fail_if_success revert b3); intro W b3 K) | ((fail_if_success revert b4); intro W b4 K) | ((fail_if_success revert b5); intro W b5 K) | ((fail_if_success revert b6); intro W b6 K) | ((fail_if_success revert b7); intro W b7 K) | ((fail_if_success revert b8); intro W b8 K) | ((fail_if_success revert b9); intro W b9 K) | ((fail_if_success revert b10); intro W b10 K) | ((fail_if_success revert b11); intro W b11 K) | ((fail_if_success revert b12); intro W b12 K) | ((fail_if_success revert b13); intro W b13 K) | ((fail_if_success revert b14); intro W b14 K) | ((fail_if_success revert b15); intro W b15 K)); have r := K.rawS) | (apply K.storeA; rfl; rfl; rfl; rfl; rfl; (repeat (first | with_reducible exact Upd.head _ | with_reducible apply Upd.tail)); (first | with_reducible exact big_size | with_reducible exact frac_size); rfl; rfl; rfl; clear K r; intro W K; have r := K.rawS)) | (go_at_call 37; (with_reducible refine (HS.out _ K.bel).mono ?_); rintro e W' ⟨rfl, hb⟩; replace K := K.keep hb; clear r; have r := K.rawS; clear hb) | (go_at_call 38; (with_reducible refine (HF1.out _).mono ?_); rintro e W' ⟨rfl, hb⟩; replace K := K.keep hb; clear r; have r := K.rawS; clear hb) | (go_at_call 54; (with_reducible refine (HR1.out _ ?qr ?qs).mono ?_); (case qr => exact (by first | exact Rd.nil | exact K.rda)); (case qs => exact (by first | exact Rd.nil | exact K.rda)); rintro e W' ⟨rfl, hb⟩; replace K := K.keep hb; clear r; have r := K.rawS; clear hb) | (go_at_call 38; (with_reducible refine (HF2.out _).mono ?_); rintro e W' ⟨rfl, hb⟩; replace K := K.keep hb; clear r; have r := K.rawS; clear hb) | (go_at_call 54; (with_reducible refine (HR2.out _ ?qr ?qs).mono ?_); (case qr => exact (by first | exact Rd.nil | exact K.rda)); (case qs => exact (by first | exact Rd.nil | exact K.rda)); rintro e W' ⟨rfl, hb⟩; replace K := K.keep hb; clear r; have r := K.rawS; clear hb) | (go_at_call 38; (with_reducible refine (HF3.out _).mono ?_); rintro e W' ⟨rfl, hb⟩; replace K := K.keep hb; clear r; have r := K.rawS; clear hb) | (go_at_call 54; (with_reducible refine (HR3.out _ ?qr ?qs).mono ?_); (case qr => exact (by first | exact Rd.nil | exact K.rda)); (case qs => exact (by first | exact Rd.nil | exact K.rda)); rintro e W' ⟨rfl, hb⟩; replace K := K.keep hb; clear r; have r := K.rawS; clear hb))
  clear HS HF1 HF2 HF3 HR1 HR2 HR3
  refine (cAdd _ _ v4 _ _ _ _ _ _ _ _ _ _ _ _ _ _ _ _ _ _ _ _ _ (by first | exact Rd.nil | exact K.rda) (by first | exact Rd.nil | exact K.rda) (by first | exact Rd.nil | exact K.rda) (by first | exact Rd.nil | exact K.rda) hs1 hs2 g1 g2 e4.out (by omega)).mono ?_
  rintro e W' ⟨s4, A4, n4, c4, l4, t4, B4, m4, d4, k4, rfl, ⟨hra, hrb⟩, hs4, ⟨hfa, hfb⟩, hb⟩
  replace hs4 : StdF s4 l4 t4 k4 v4 := hs4
  replace K := K.retF hb hra hrb hfa hfb
  clear r
  have r := K.rawS
  clear hra hrb hfa hfb hb
  go_wp2_with fail
  refine (lright_any _ _ _ _ _ _ _ _ _ _ _ (by first | exact Rd.nil | exact K.rda) (by first | exact Rd.nil | exact K.rda) _ hs4 (ht_fits g4 (by omega))).mono ?_
  rintro e W' ⟨rfl, hb⟩
  replace K := K.keep hb
  clear r
  have r := K.rawS
  clear hb
  go_wp2_with (first | ((first | (apply K.alloc; rfl; rfl; (first | with_reducible exact big_zero | with_reducible exact frac_zero)) | (apply K.box; rfl; rfl; rfl)); clear K r; (first | ((fail_if_success revert b0); intro W b0 K) | ((fail_if_success revert b1); intro W b1 K) | ((fail_if_success revert b2); intro W b2 K) | ((fail_if_success revert b3); intro W b3 K) | ((fail_if_success revert b4); intro W b4 K) | ((fail_if_success revert b5); intro W b5 K) | ((fail_if_success revert b6); intro W b6 K) | ((fail_if_success revert b7); intro W b7 K) | ((fail_if_success revert b8); intro W b8 K) | ((fail_if_success revert b9); intro W b9 K) | ((fail_if_success revert b10); intro W b10 K) | ((fail_if_success revert b11); intro W b11 K) | ((fail_if_success revert b12); intro W b12 K) | ((fail_if_success revert b13); intro W b13 K) | ((fail_if_success revert b14); intro W b14 K) | ((fail_if_success revert b15); intro W b15 K)); have r := K.rawS) | (apply K.storeA; rfl; rfl; rfl; rfl; rfl; (repeat (first | with_reducible exact Upd.head _ | with_reducible apply Upd.tail)); (first | with_reducible exact big_size | with_reducible exact frac_size); rfl; rfl; rfl; clear K r; intro W K; have r := K.rawS))
  refine (cAdd _ _ v5 _ _ _ _ _ _ _ _ _ _ _ _ _ _ _ _ _ _ _ _ _ (by first | exact Rd.nil | exact K.rda) (by first | exact Rd.nil | exact K.rda) (by first | exact Rd.nil | exact K.rda) (by first | exact Rd.nil | exact K.rda) hs2 hs1 g2 g1 e5.out (by omega)).mono ?_
  rintro e W' ⟨s5, A5, n5, c5, l5, t5, B5, m5, d5, k5, rfl, ⟨hra, hrb⟩, hs5, ⟨hfa, hfb⟩, hb⟩
  replace hs5 : StdF s5 l5 t5 k5 v5 := hs5
  replace K := K.retF hb hra hrb hfa hfb
  clear r
  have r := K.rawS
  clear hra hrb hfa hfb hb
  go_wp2_with fail
  refine (lright_any _ _ _ _ _ _ _ _ _ _ _ (by first | exact Rd.nil | exact K.rda) (by first | exact Rd.nil | exact K.rda) _ hs5 (ht_fits g5 (by omega))).mono ?_
  rintro e W' ⟨rfl, hb⟩
  replace K := K.keep hb
  clear r
  have r := K.rawS
  clear hb
  go_wp2_with (first | ((first | (apply K.alloc; rfl; rfl; (first | with_reducible exact big_zero | with_reducible exact frac_zero)) | (apply K.box; rfl; rfl; rfl)); clear K r; (first | ((fail_if_success revert b0); intro W b0 K) | ((fail_if_success revert b1); intro W b1 K) | ((fail_if_success revert b2); intro W b2 K) | ((fail_if_success revert b3); intro W b3 K) | ((fail_if_success revert b4); intro W b4 K) | ((fail_if_success revert b5); intro W b5 K) | ((fail_if_success revert b6); intro W b6 K) | ((fail_if_success revert b7); intro W b7 K) | ((fail_if_success revert b8); intro W b8 K) | ((fail_if_success revert b9); intro W b9 K) | ((fail_if_success revert b10); intro W b10 K) | ((fail_if_success revert b11); intro W b11 K) | ((fail_if_success revert b12); intro W b12 K) | ((fail_if_success revert b13); intro W b13 K) | ((fail_if_success revert b14); intro W b14 K) | ((fail_if_success revert b15); intro W b15 K)); have r := K.rawS) | (apply K.storeA; rfl; rfl; rfl; rfl; rfl; (repeat (first | with_reducible exact Upd.head _ | with_reducible apply Upd.tail)); (first | with_reducible exact big_size | with_reducible exact frac_size); rfl; rfl; rfl; clear K r; intro W K; have r := K.rawS))
  refine (cAdd _ _ v6 _ _ _ _ _ _ _ _ _ _ _ _ _ _ _ _ _ _ _ _ _ (by first | exact Rd.nil | exact K.rda) (by first | exact Rd.nil | exact K.rda) (by first | exact Rd.nil | exact K.rda) (by first | exact Rd.nil | exact K.rda) hs2 hs3 g2 g3 e6.out (by omega)).mono ?_
  rintro e W' ⟨s6, A6, n6, c6, l6, t6, B6, m6, d6, k6, rfl, ⟨hra, hrb⟩, hs6, ⟨hfa, hfb⟩, hb⟩
  replace hs6 : StdF s6 l6 t6 k6 v6 := hs6
  replace K := K.retF hb hra hrb hfa hfb
  clear r
  have r := K.rawS
  clear hra hrb hfa hfb hb
  go_wp2_with fail
  refine (lright_any _ _ _ _ _ _ _ _ _ _ _ (by first | exact Rd.nil | exact K.rda) (by first | exact Rd.nil | exact K.rda) _ hs6 (ht_fits g6 (by omega))).mono ?_
  rintro e W' ⟨rfl, hb⟩
  replace K := K.keep hb
  clear r
  have r := K.rawS
  clear hb
  go_wp2_with (first | ((first | (apply K.alloc; rfl; rfl; (first | with_reducible exact big_zero | with_reducible exact frac_zero)) | (apply K.box; rfl; rfl; rfl)); clear K r; (first | ((fail_if_success revert b0); intro W b0 K) | ((fail_if_success revert b1); intro W b1 K) | ((fail_if_success revert b2); intro W b2 K) | ((fail_if_success revert b3); intro W b3 K) | ((fail_if_success revert b4); intro W b4 K) | ((fail_if_success revert b5); intro W b5 K) | ((fail_if_success revert b6); intro W b6 K) | ((fail_if_success revert b7); intro W b7 K) | ((fail_if_success revert b8); intro W b8 K) | ((fail_if_success revert b9); intro W b9 K) | ((fail_if_success revert b10); intro W b10 K) | ((fail_if_success revert b11); intro W b11 K) | ((fail_if_success revert b12); intro W b12 K) | ((fail_if_success revert b13); intro W b13 K) | ((fail_if_success revert b14); intro W b14 K) | ((fail_if_success revert b15); intro W b15 K)); have r := K.rawS) | (apply K.storeA; rfl; rfl; rfl; rfl; rfl; (repeat (first | with_reducible exact Upd.head _ | with_reducible apply Upd.tail)); (first | with_reducible exact big_size | with_reducible exact frac_size); rfl; rfl; rfl; clear K r; intro W K; have r := K.rawS))
  refine (cAdd _ _ v7 _ _ _ _ _ _ _ _ _ _ _ _ _ _ _ _ _ _ _ _ _ (by first | exact Rd.nil | exact K.rda) (by first | exact Rd.nil | exact K.rda) (by first | exact Rd.nil | exact K.rda) (by first | exact Rd.nil | exact K.rda) hs4 hs3 g4 g3 e7.out (by omega)).mono ?_
  rintro e W' ⟨s7, A7, n7, c7, l7, t7, B7, m7, d7, k7, rfl, ⟨hra, hrb⟩, hs7, ⟨hfa, hfb⟩, hb⟩
  replace hs7 : StdF s7 l7 t7 k7 v7 := hs7
  replace K := K.retF hb hra hrb hfa hfb
  clear r
  have r := K.rawS
  clear hra hrb hfa hfb hb
  go_wp2_with fail
  refine (lright_any _ _ _ _ _ _ _ _ _ _ _ (by first | exact Rd.nil | exact K.rda) (by first | exact Rd.nil | exact K.rda) _ hs7 (ht_fits g7 (by omega))).mono ?_
  rintro e W' ⟨rfl, hb⟩
  replace K := K.keep hb
  clear r
  have r := K.rawS
  clear hb
  go_wp2_with (first | ((first | (apply K.alloc; rfl; rfl; (first | with_reducible exact big_zero | with_reducible exact frac_zero)) | (apply K.box; rfl; rfl; rfl)); clear K r; (first | ((fail_if_success revert b0); intro W b0 K) | ((fail_if_success revert b1); intro W b1 K) | ((fail_if_success revert b2); intro W b2 K) | ((fail_if_success revert b3); intro W b3 K) | ((fail_if_success revert b4); intro W b4 K) | ((fail_if_success revert b5); intro W b5 K) | ((fail_if_success revert b6); intro W b6 K) | ((fail_if_success revert b7); intro W b7 K) | ((fail_if_success revert b8); intro W b8 K) | ((fail_if_success revert b9); intro W b9 K) | ((fail_if_success revert b10); intro W b10 K) | ((fail_if_success revert b11); intro W b11 K) | ((fail_if_success revert b12); intro W b12 K) | ((fail_if_success revert b13); intro W b13 K) | ((fail_if_success revert b14); intro W b14 K) | ((fail_if_success revert b15); intro W b15 K)); have r := K.rawS) | (apply K.storeA; rfl; rfl; rfl; rfl; rfl; (repeat (first | with_reducible exact Upd.head _ | with_reducible apply Upd.tail)); (first | with_reducible exact big_size | with_reducible exact frac_size); rfl; rfl; rfl; clear K r; intro W K; have r := K.rawS))
  refine (cAdd _ _ v8 _ _ _ _ _ _ _ _ _ _ _ _ _ _ _ _ _ _ _ _ _ (by first | exact Rd.nil | exact K.rda) (by first | exact Rd.nil | exact K.rda) (by first | exact Rd.nil | exact K.rda) (by first | exact Rd.nil | exact K.rda) hs1 hs6 g1 g6 e8.out (by omega)).mono ?_
  rintro e W' ⟨s8, A8, n8, c8, l8, t8, B8, m8, d8, k8, rfl, ⟨hra, hrb⟩, hs8, ⟨hfa, hfb⟩, hb⟩
  replace hs8 : StdF s8 l8 t8 k8 v8 := hs8
  replace K := K.retF hb hra hrb hfa hfb
  clear r
  have r := K.rawS
  clear hra hrb hfa hfb hb
  go_wp2_with fail
  refine (lright_any _ _ _ _ _ _ _ _ _ _ _ (by first | exact Rd.nil | exact K.rda) (by first | exact Rd.nil | exact K.rda) _ hs8 (ht_fits g8 (by omega))).mono ?_
  rintro e W' ⟨rfl, hb⟩
  replace K := K.keep hb
  clear r
  have r := K.rawS
  clear hb
  go_wp2_with (first | ((first | (apply K.alloc; rfl; rfl; (first | with_reducible exact big_zero | with_reducible exact frac_zero)) | (apply K.box; rfl; rfl; rfl)); clear K r; (first | ((fail_if_success revert b0); intro W b0 K) | ((fail_if_success revert b1); intro W b1 K) | ((fail_if_success revert b2); intro W b2 K) | ((fail_if_success revert b3); intro W b3 K) | ((fail_if_success revert b4); intro W b4 K) | ((fail_if_success revert b5); intro W b5 K) | ((fail_if_success revert b6); intro W b6 K) | ((fail_if_success revert b7); intro W b7 K) | ((fail_if_success revert b8); intro W b8 K) | ((fail_if_success revert b9); intro W b9 K) | ((fail_if_success revert b10); intro W b10 K) | ((fail_if_success revert b11); intro W b11 K) | ((fail_if_success revert b12); intro W b12 K) | ((fail_if_success revert b13); intro W b13 K) | ((fail_if_success revert b14); intro W b14 K) | ((fail_if_success revert b15); intro W b15 K)); have r := K.rawS) | (apply K.storeA; rfl; rfl; rfl; rfl; rfl; (repeat (first | with_reducible exact Upd.head _ | with_reducible apply Upd.tail)); (first | with_reducible exact big_size | with_reducible exact frac_size); rfl; rfl; rfl; clear K r; intro W K; have r := K.rawS))
  refine (nSameFT _ _ _ _ _ _ _ _ _ _ _ _ _ _ _ _ _ _ _ _ _ _ _ (by first | exact Rd.nil | exact K.rda) (by first | exact Rd.nil | exact K.rda) (by first | exact Rd.nil | exact K.rda) (by first | exact Rd.nil | exact K.rda) hs4 hs5 E45.out).mono ?_
  rintro e W' ⟨rfl, hb⟩
  replace K := K.keep hb
  clear r
  have r := K.rawS
  clear hb
  go_wp2_with (first | ((first | (apply K.alloc; rfl; rfl; (first | with_reducible exact big_zero | with_reducible exact frac_zero)) | (apply K.box; rfl; rfl; rfl)); clear K r; (first | ((fail_if_success revert b0); intro W b0 K) | ((fail_if_success revert b1); intro W b1 K) | ((fail_if_success revert b2); intro W b2 K) | ((fail_if_success revert b3); intro W b3 K) | ((fail_if_success revert b4); intro W b4 K) | ((fail_if_success revert b5); intro W b5 K) | ((fail_if_success revert b6); intro W b6 K) | ((fail_if_success revert b7); intro W b7 K) | ((fail_if_success revert b8); intro W b8 K) | ((fail_if_success revert b9); intro W b9 K) | ((fail_if_success revert b10); intro W b10 K) | ((fail_if_success revert b11); intro W b11 K) | ((fail_if_success revert b12); intro W b12 K) | ((fail_if_success revert b13); intro W b13 K) | ((fail_if_success revert b14); intro W b14 K) | ((fail_if_success revert b15); intro W b15 K)); have r := K.rawS) | (apply K.storeA; rfl; rfl; rfl; rfl; rfl; (repeat (first | with_reducible exact Upd.head _ | with_reducible apply Upd.tail)); (first | with_reducible exact big_size | with_reducible exact frac_size); rfl; rfl; rfl; clear K r; intro W K; have r := K.rawS))
  refine (nSameFT _ _ _ _ _ _ _ _ _ _ _ _ _ _ _ _ _ _ _ _ _ _ _ (by first | exact Rd.nil | exact K.rda) (by first | exact Rd.nil | exact K.rda) (by first | exact Rd.nil | exact K.rda) (by first | exact Rd.nil | exact K.rda) hs7 hs8 E78.out).mono ?_
  rintro e W' ⟨rfl, hb⟩
  replace K := K.keep hb
  clear r
  have r := K.rawS
  clear hb
  go_wp2_with (first | ((first | (apply K.alloc; rfl; rfl; (first | with_reducible exact big_zero | with_reducible exact frac_zero)) | (apply K.box; rfl; rfl; rfl)); clear K r; (first | ((fail_if_success revert b0); intro W b0 K) | ((fail_if_success revert b1); intro W b1 K) | ((fail_if_success revert b2); intro W b2 K) | ((fail_if_success revert b3); intro W b3 K) | ((fail_if_success revert b4); intro W b4 K) | ((fail_if_success revert b5); intro W b5 K) | ((fail_if_success revert b6); intro W b6 K) | ((fail_if_success revert b7); intro W b7 K) | ((fail_if_success revert b8); intro W b8 K) | ((fail_if_success revert b9); intro W b9 K) | ((fail_if_success revert b10); intro W b10 K) | ((fail_if_success revert b11); intro W b11 K) | ((fail_if_success revert b12); intro W b12 K) | ((fail_if_success revert b13); intro W b13 K) | ((fail_if_success revert b14); intro W b14 K) | ((fail_if_success revert b15); intro W b15 K)); have r := K.rawS) | (apply K.storeA; rfl; rfl; rfl; rfl; rfl; (repeat (first | with_reducible exact Upd.head _ | with_reducible apply Upd.tail)); (first | with_reducible exact big_size | with_reducible exact frac_size); rfl; rfl; rfl; clear K r; intro W K; have r := K.rawS))
  replace K := K.sub (L' := [(b7, #[.int .i64 s8, .slice A8 n8 c8, .int .i64 t8, .slice B8 m8 d8], 43), (b6, #[.int .i64 s7, .slice A7 n7 c7, .int .i64 t7, .slice B7 m7 d7], 43), (b3, #[.int .i64 s4, .slice A4 n4 c4, .int .i64 t4, .slice B4 m4 d4], 43), (b2, #[.int .i64 s3, .slice A3 n3 c3, .int .i64 t3, .slice B3 m3 d3], 43), (b1, #[.int .i64 s2, .slice A2 n2 c2, .int .i64 t2, .slice B2 m2 d2], 43), (b0, #[.int .i64 s1, .slice A1 n1 c1, .int .i64 t1, .slice B1 m1 d1], 43)]) (by repeat (first | with_reducible exact List.nil_sublist _ | with_reducible apply List.Sublist.cons_cons | with_reducible apply List.Sublist.cons))
  replace K := K.less (D' := [⟨rdP B4 m4 d4 k4, rdS B4 m4⟩, ⟨rdP A4 n4 c4 l4, rdS A4 n4⟩, ⟨rdP B3 m3 d3 k3, oldS w⟩, ⟨rdP A3 n3 c3 l3, oldS w⟩, ⟨rdP B2 m2 d2 k2, oldS w⟩, ⟨rdP A2 n2 c2 l2, oldS w⟩, ⟨rdP B1 m1 d1 k1, oldS w⟩, ⟨rdP A1 n1 c1 l1, oldS w⟩]) (by simp only [List.mem_cons, List.not_mem_nil, or_false, forall_eq_or_imp, forall_eq, true_or, or_true, and_self])
  clear r hs5 hs6 hs7 hs8 E45 E78 e4 e5 e6 e7 e8 g5 g6 g7 g8
  have r := K.rawS
  refine (cMul _ _ v9 _ _ _ _ _ _ _ _ _ _ _ _ _ _ _ _ _ _ _ _ _ (by first | exact Rd.nil | exact K.rda) (by first | exact Rd.nil | exact K.rda) (by first | exact Rd.nil | exact K.rda) (by first | exact Rd.nil | exact K.rda) hs1 hs2 g1 g2 e9.out (by omega)).mono ?_
  rintro e W' ⟨s9, A9, n9, c9, l9, t9, B9, m9, d9, k9, rfl, ⟨hra, hrb⟩, hs9, ⟨hfa, hfb⟩, hb⟩
  replace hs9 : StdF s9 l9 t9 k9 v9 := hs9
  replace K := K.retF hb hra hrb hfa hfb
  clear r
  have r := K.rawS
  clear hra hrb hfa hfb hb
  go_wp2_with fail
  refine (lright_any _ _ _ _ _ _ _ _ _ _ _ (by first | exact Rd.nil | exact K.rda) (by first | exact Rd.nil | exact K.rda) _ hs9 (ht_fits g9 (by omega))).mono ?_
  rintro e W' ⟨rfl, hb⟩
  replace K := K.keep hb
  clear r
  have r := K.rawS
  clear hb
  go_wp2_with (first | ((first | (apply K.alloc; rfl; rfl; (first | with_reducible exact big_zero | with_reducible exact frac_zero)) | (apply K.box; rfl; rfl; rfl)); clear K r; (first | ((fail_if_success revert b0); intro W b0 K) | ((fail_if_success revert b1); intro W b1 K) | ((fail_if_success revert b2); intro W b2 K) | ((fail_if_success revert b3); intro W b3 K) | ((fail_if_success revert b4); intro W b4 K) | ((fail_if_success revert b5); intro W b5 K) | ((fail_if_success revert b6); intro W b6 K) | ((fail_if_success revert b7); intro W b7 K) | ((fail_if_success revert b8); intro W b8 K) | ((fail_if_success revert b9); intro W b9 K) | ((fail_if_success revert b10); intro W b10 K) | ((fail_if_success revert b11); intro W b11 K) | ((fail_if_success revert b12); intro W b12 K) | ((fail_if_success revert b13); intro W b13 K) | ((fail_if_success revert b14); intro W b14 K) | ((fail_if_success revert b15); intro W b15 K)); have r := K.rawS) | (apply K.storeA; rfl; rfl; rfl; rfl; rfl; (repeat (first | with_reducible exact Upd.head _ | with_reducible apply Upd.tail)); (first | with_reducible exact big_size | with_reducible exact frac_size); rfl; rfl; rfl; clear K r; intro W K; have r := K.rawS))
  refine (cMul _ _ v10 _ _ _ _ _ _ _ _ _ _ _ _ _ _ _ _ _ _ _ _ _ (by first | exact Rd.nil | exact K.rda) (by first | exact Rd.nil | exact K.rda) (by first | exact Rd.nil | exact K.rda) (by first | exact Rd.nil | exact K.rda) hs2 hs1 g2 g1 e10.out (by omega)).mono ?_
  rintro e W' ⟨s10, A10, n10, c10, l10, t10, B10, m10, d10, k10, rfl, ⟨hra, hrb⟩, hs10, ⟨hfa, hfb⟩, hb⟩
  replace hs10 : StdF s10 l10 t10 k10 v10 := hs10
  replace K := K.retF hb hra hrb hfa hfb
  clear r
  have r := K.rawS
  clear hra hrb hfa hfb hb
  go_wp2_with fail
  refine (lright_any _ _ _ _ _ _ _ _ _ _ _ (by first | exact Rd.nil | exact K.rda) (by first | exact Rd.nil | exact K.rda) _ hs10 (ht_fits g10 (by omega))).mono ?_
  rintro e W' ⟨rfl, hb⟩
  replace K := K.keep hb
  clear r
  have r := K.rawS
  clear hb
  go_wp2_with (first | ((first | (apply K.alloc; rfl; rfl; (first | with_reducible exact big_zero | with_reducible exact frac_zero)) | (apply K.box; rfl; rfl; rfl)); clear K r; (first | ((fail_if_success revert b0); intro W b0 K) | ((fail_if_success revert b1); intro W b1 K) | ((fail_if_success revert b2); intro W b2 K) | ((fail_if_success revert b3); intro W b3 K) | ((fail_if_success revert b4); intro W b4 K) | ((fail_if_success revert b5); intro W b5 K) | ((fail_if_success revert b6); intro W b6 K) | ((fail_if_success revert b7); intro W b7 K) | ((fail_if_success revert b8); intro W b8 K) | ((fail_if_success revert b9); intro W b9 K) | ((fail_if_success revert b10); intro W b10 K) | ((fail_if_success revert b11); intro W b11 K) | ((fail_if_success revert b12); intro W b12 K) | ((fail_if_success revert b13); intro W b13 K) | ((fail_if_success revert b14); intro W b14 K) | ((fail_if_success revert b15); intro W b15 K)); have r := K.rawS) | (apply K.storeA; rfl; rfl; rfl; rfl; rfl; (repeat (first | with_reducible exact Upd.head _ | with_reducible apply Upd.tail)); (first | with_reducible exact big_size | with_reducible exact frac_size); rfl; rfl; rfl; clear K r; intro W K; have r := K.rawS))
  refine (cMul _ _ v11 _ _ _ _ _ _ _ _ _ _ _ _ _ _ _ _ _ _ _ _ _ (by first | exact Rd.nil | exact K.rda) (by first | exact Rd.nil | exact K.rda) (by first | exact Rd.nil | exact K.rda) (by first | exact Rd.nil | exact K.rda) hs2 hs3 g2 g3 e11.out (by omega)).mono ?_
  rintro e W' ⟨s11, A11, n11, c11, l11, t11, B11, m11, d11, k11, rfl, ⟨hra, hrb⟩, hs11, ⟨hfa, hfb⟩, hb⟩
  replace hs11 : StdF s11 l11 t11 k11 v11 := hs11
  replace K := K.retF hb hra hrb hfa hfb
  clear r
  have r := K.rawS
  clear hra hrb hfa hfb hb
  go_wp2_with fail
  refine (lright_any _ _ _ _ _ _ _ _ _ _ _ (by first | exact Rd.nil | exact K.rda) (by first | exact Rd.nil | exact K.rda) _ hs11 (ht_fits g11 (by omega))).mono ?_
  rintro e W' ⟨rfl, hb⟩
  replace K := K.keep hb
  clear r
  have r := K.rawS
  clear hb
  go_wp2_with (first | ((first | (apply K.alloc; rfl; rfl; (first | with_reducible exact big_zero | with_reducible exact frac_zero)) | (apply K.box; rfl; rfl; rfl)); clear K r; (first | ((fail_if_success revert b0); intro W b0 K) | ((fail_if_success revert b1); intro W b1 K) | ((fail_if_success revert b2); intro W b2 K) | ((fail_if_success revert b3); intro W b3 K) | ((fail_if_success revert b4); intro W b4 K) | ((fail_if_success revert b5); intro W b5 K) | ((fail_if_success revert b6); intro W b6 K) | ((fail_if_success revert b7); intro W b7 K) | ((fail_if_success revert b8); intro W b8 K) | ((fail_if_success revert b9); intro W b9 K) | ((fail_if_success revert b10); intro W b10 K) | ((fail_if_success revert b11); intro W b11 K) | ((fail_if_success revert b12); intro W b12 K) | ((fail_if_success revert b13); intro W b13 K) | ((fail_if_success revert b14); intro W b14 K) | ((fail_if_success revert b15); intro W b15 K)); have r := K.rawS) | (apply K.storeA; rfl; rfl; rfl; rfl; rfl; (repeat (first | with_reducible exact Upd.head _ | with_reducible apply Upd.tail)); (first | with_reducible exact big_size | with_reducible exact frac_size); rfl; rfl; rfl; clear K r; intro W K; have r := K.rawS))
  refine (cMul _ _ v12 _ _ _ _ _ _ _ _ _ _ _ _ _ _ _ _ _ _ _ _ _ (by first | exact Rd.nil | exact K.rda) (by first | exact Rd.nil | exact K.rda) (by first | exact Rd.nil | exact K.rda) (by first | exact Rd.nil | exact K.rda) hs9 hs3 g9 g3 e12.out (by omega)).mono ?_
  rintro e W' ⟨s12, A12, n12, c12, l12, t12, B12, m12, d12, k12, rfl, ⟨hra, hrb⟩, hs12, ⟨hfa, hfb⟩, hb⟩
  replace hs12 : StdF s12 l12 t12 k12 v12 := hs12
  replace K := K.retF hb hra hrb hfa hfb
  clear r
  have r := K.rawS
  clear hra hrb hfa hfb hb
  go_wp2_with fail
  refine (lright_any _ _ _ _ _ _ _ _ _ _ _ (by first | exact Rd.nil | exact K.rda) (by first | exact Rd.nil | exact K.rda) _ hs12 (ht_fits g12 (by omega))).mono ?_
  rintro e W' ⟨rfl, hb⟩
  replace K := K.keep hb
  clear r
  have r := K.rawS
  clear hb
  go_wp2_with (first | ((first | (apply K.alloc; rfl; rfl; (first | with_reducible exact big_zero | with_reducible exact frac_zero)) | (apply K.box; rfl; rfl; rfl)); clear K r; (first | ((fail_if_success revert b0); intro W b0 K) | ((fail_if_success revert b1); intro W b1 K) | ((fail_if_success revert b2); intro W b2 K) | ((fail_if_success revert b3); intro W b3 K) | ((fail_if_success revert b4); intro W b4 K) | ((fail_if_success revert b5); intro W b5 K) | ((fail_if_success revert b6); intro W b6 K) | ((fail_if_success revert b7); intro W b7 K) | ((fail_if_success revert b8); intro W b8 K) | ((fail_if_success revert b9); intro W b9 K) | ((fail_if_success revert b10); intro W b10 K) | ((fail_if_success revert b11); intro W b11 K) | ((fail_if_success revert b12); intro W b12 K) | ((fail_if_success revert b13); intro W b13 K) | ((fail_if_success revert b14); intro W b14 K) | ((fail_if_success revert b15); intro W b15 K)); have r := K.rawS) | (apply K.storeA; rfl; rfl; rfl; rfl; rfl; (repeat (first | with_reducible exact Upd.head _ | with_reducible apply Upd.tail)); (first | with_reducible exact big_size | with_reducible exact frac_size); rfl; rfl; rfl; clear K r; intro W K; have r := K.rawS))
  refine (cMul _ _ v13 _ _ _ _ _ _ _ _ _ _ _ _ _ _ _ _ _ _ _ _ _ (by first | exact Rd.nil | exact K.rda) (by first | exact Rd.nil | exact K.rda) (by first | exact Rd.nil | exact K.rda) (by first | exact Rd.nil | exact K.rda) hs1 hs11 g1 g11 e13.out (by omega)).mono ?_
  rintro e W' ⟨s13, A13, n13, c13, l13, t13, B13, m13, d13, k13, rfl, ⟨hra, hrb⟩, hs13, ⟨hfa, hfb⟩, hb⟩
  replace hs13 : StdF s13 l13 t13 k13 v13 := hs13
  replace K := K.retF hb hra hrb hfa hfb
  clear r
  have r := K.rawS
  clear hra hrb hfa hfb hb
  go_wp2_with fail
  refine (lright_any _ _ _ _ _ _ _ _ _ _ _ (by first | exact Rd.nil | exact K.rda) (by first | exact Rd.nil | exact K.rda) _ hs13 (ht_fits g13 (by omega))).mono ?_
  rintro e W' ⟨rfl, hb⟩
  replace K := K.keep hb
  clear r
  have r := K.rawS
  clear hb
  go_wp2_with (first | ((first | (apply K.alloc; rfl; rfl; (first | with_reducible exact big_zero | with_reducible exact frac_zero)) | (apply K.box; rfl; rfl; rfl)); clear K r; (first | ((fail_if_success revert b0); intro W b0 K) | ((fail_if_success revert b1); intro W b1 K) | ((fail_if_success revert b2); intro W b2 K) | ((fail_if_success revert b3); intro W b3 K) | ((fail_if_success revert b4); intro W b4 K) | ((fail_if_success revert b5); intro W b5 K) | ((fail_if_success revert b6); intro W b6 K) | ((fail_if_success revert b7); intro W b7 K) | ((fail_if_success revert b8); intro W b8 K) | ((fail_if_success revert b9); intro W b9 K) | ((fail_if_success revert b10); intro W b10 K) | ((fail_if_success revert b11); intro W b11 K) | ((fail_if_success revert b12); intro W b12 K) | ((fail_if_success revert b13); intro W b13 K) | ((fail_if_success revert b14); intro W b14 K) | ((fail_if_success revert b15); intro W b15 K)); have r := K.rawS) | (apply K.storeA; rfl; rfl; rfl; rfl; rfl; (repeat (first | with_reducible exact Upd.head _ | with_reducible apply Upd.tail)); (first | with_reducible exact big_size | with_reducible exact frac_size); rfl; rfl; rfl; clear K r; intro W K; have r := K.rawS))
  refine (nSameFT _ _ _ _ _ _ _ _ _ _ _ _ _ _ _ _ _ _ _ _ _ _ _ (by first | exact Rd.nil | exact K.rda) (by first | exact Rd.nil | exact K.rda) (by first | exact Rd.nil | exact K.rda) (by first | exact Rd.nil | exact K.rda) hs9 hs10 E910.out).mono ?_
  rintro e W' ⟨rfl, hb⟩
  replace K := K.keep hb
  clear r
  have r := K.rawS
  clear hb
  go_wp2_with (first | ((first | (apply K.alloc; rfl; rfl; (first | with_reducible exact big_zero | with_reducible exact frac_zero)) | (apply K.box; rfl; rfl; rfl)); clear K r; (first | ((fail_if_success revert b0); intro W b0 K) | ((fail_if_success revert b1); intro W b1 K) | ((fail_if_success revert b2); intro W b2 K) | ((fail_if_success revert b3); intro W b3 K) | ((fail_if_success revert b4); intro W b4 K) | ((fail_if_success revert b5); intro W b5 K) | ((fail_if_success revert b6); intro W b6 K) | ((fail_if_success revert b7); intro W b7 K) | ((fail_if_success revert b8); intro W b8 K) | ((fail_if_success revert b9); intro W b9 K) | ((fail_if_success revert b10); intro W b10 K) | ((fail_if_success revert b11); intro W b11 K) | ((fail_if_success revert b12); intro W b12 K) | ((fail_if_success revert b13); intro W b13 K) | ((fail_if_success revert b14); intro W b14 K) | ((fail_if_success revert b15); intro W b15 K)); have r := K.rawS) | (apply K.storeA; rfl; rfl; rfl; rfl; rfl; (repeat (first | with_reducible exact Upd.head _ | with_reducible apply Upd.tail)); (first | with_reducible exact big_size | with_reducible exact frac_size); rfl; rfl; rfl; clear K r; intro W K; have r := K.rawS))
  refine (nSameFT _ _ _ _ _ _ _ _ _ _ _ _ _ _ _ _ _ _ _ _ _ _ _ (by first | exact Rd.nil | exact K.rda) (by first | exact Rd.nil | exact K.rda) (by first | exact Rd.nil | exact K.rda) (by first | exact Rd.nil | exact K.rda) hs12 hs13 E1213.out).mono ?_
  rintro e W' ⟨rfl, hb⟩
  replace K := K.keep hb
  clear r
  have r := K.rawS
  clear hb
  go_wp2_with (first | ((first | (apply K.alloc; rfl; rfl; (first | with_reducible exact big_zero | with_reducible exact frac_zero)) | (apply K.box; rfl; rfl; rfl)); clear K r; (first | ((fail_if_success revert b0); intro W b0 K) | ((fail_if_success revert b1); intro W b1 K) | ((fail_if_success revert b2); intro W b2 K) | ((fail_if_success revert b3); intro W b3 K) | ((fail_if_success revert b4); intro W b4 K) | ((fail_if_success revert b5); intro W b5 K) | ((fail_if_success revert b6); intro W b6 K) | ((fail_if_success revert b7); intro W b7 K) | ((fail_if_success revert b8); intro W b8 K) | ((fail_if_success revert b9); intro W b9 K) | ((fail_if_success revert b10); intro W b10 K) | ((fail_if_success revert b11); intro W b11 K) | ((fail_if_success revert b12); intro W b12 K) | ((fail_if_success revert b13); intro W b13 K) | ((fail_if_success revert b14); intro W b14 K) | ((fail_if_success revert b15); intro W b15 K)); have r := K.rawS) | (apply K.storeA; rfl; rfl; rfl; rfl; rfl; (repeat (first | with_reducible exact Upd.head _ | with_reducible apply Upd.tail)); (first | with_reducible exact big_size | with_reducible exact frac_size); rfl; rfl; rfl; clear K r; intro W K; have r := K.rawS))
  clear r
  replace K := K.sub (L' := [(b10, #[.int .i64 s11, .slice A11 n11 c11, .int .i64 t11, .slice B11 m11 d11], 43), (b8, #[.int .i64 s9, .slice A9 n9 c9, .int .i64 t9, .slice B9 m9 d9], 43), (b7, #[.int .i64 s13, .slice A13 n13 c13, .int .i64 t13, .slice B13 m13 d13], 43), (b6, #[.int .i64 s12, .slice A12 n12 c12, .int .i64 t12, .slice B12 m12 d12], 43), (b3, #[.int .i64 s4, .slice A4 n4 c4, .int .i64 t4, .slice B4 m4 d4], 43), (b2, #[.int .i64 s3, .slice A3 n3 c3, .int .i64 t3, .slice B3 m3 d3], 43), (b1, #[.int .i64 s2, .slice A2 n2 c2, .int .i64 t2, .slice B2 m2 d2], 43), (b0, #[.int .i64 s1, .slice A1 n1 c1, .int .i64 t1, .slice B1 m1 d1], 43)]) (by repeat (first | with_reducible exact List.nil_sublist _ | with_reducible apply List.Sublist.cons_cons | with_reducible apply List.Sublist.cons))
  replace K := K.less (D' := [⟨rdP B11 m11 d11 k11, rdS B11 m11⟩, ⟨rdP A11 n11 c11 l11, rdS A11 n11⟩, ⟨rdP B9 m9 d9 k9, rdS B9 m9⟩, ⟨rdP A9 n9 c9 l9, rdS A9 n9⟩, ⟨rdP B4 m4 d4 k4, rdS B4 m4⟩, ⟨rdP A4 n4 c4 l4, rdS A4 n4⟩, ⟨rdP B3 m3 d3 k3, oldS w⟩, ⟨rdP A3 n3 c3 l3, oldS w⟩, ⟨rdP B2 m2 d2 k2, oldS w⟩, ⟨rdP A2 n2 c2 l2, oldS w⟩, ⟨rdP B1 m1 d1 k1, oldS w⟩, ⟨rdP A1 n1 c1 l1, oldS w⟩]) (by simp only [List.mem_cons, List.not_mem_nil, or_false, forall_eq_or_imp, forall_eq, true_or, or_true, and_self])
  clear hs10 hs12 hs13 E910 E1213 e9 e10 e11 e12 e13 g10 g12 g13
  have r := K.rawS
  refine (cMul _ _ v14 _ _ _ _ _ _ _ _ _ _ _ _ _ _ _ _ _ _ _ _ _ (by first | exact Rd.nil | exact K.rda) (by first | exact Rd.nil | exact K.rda) (by first | exact Rd.nil | exact K.rda) (by first | exact Rd.nil | exact K.rda) hs1 hs3 g1 g3 e14.out (by omega)).mono ?_
  rintro e W' ⟨s14, A14, n14, c14, l14, t14, B14, m14, d14, k14, rfl, ⟨hra, hrb⟩, hs14, ⟨hfa, hfb⟩, hb⟩
  replace hs14 : StdF s14 l14 t14 k14 v14 := hs14
  replace K := K.retF hb hra hrb hfa hfb
  clear r
  have r := K.rawS
  clear hra hrb hfa hfb hb
  go_wp2_with fail
  refine (lright_any _ _ _ _ _ _ _ _ _ _ _ (by first | exact Rd.nil | exact K.rda) (by first | exact Rd.nil | exact K.rda) _ hs14 (ht_fits g14 (by omega))).mono ?_
  rintro e W' ⟨rfl, hb⟩
  replace K := K.keep hb
  clear r
  have r := K.rawS
  clear hb
  go_wp2_with (first | ((first | (apply K.alloc; rfl; rfl; (first | with_reducible exact big_zero | with_reducible exact frac_zero)) | (apply K.box; rfl; rfl; rfl)); clear K r; (first | ((fail_if_success revert b0); intro W b0 K) | ((fail_if_success revert b1); intro W b1 K) | ((fail_if_success revert b2); intro W b2 K) | ((fail_if_success revert b3); intro W b3 K) | ((fail_if_success revert b4); intro W b4 K) | ((fail_if_success revert b5); intro W b5 K) | ((fail_if_success revert b6); intro W b6 K) | ((fail_if_success revert b7); intro W b7 K) | ((fail_if_success revert b8); intro W b8 K) | ((fail_if_success revert b9); intro W b9 K) | ((fail_if_success revert b10); intro W b10 K) | ((fail_if_success revert b11); intro W b11 K) | ((fail_if_success revert b12); intro W b12 K) | ((fail_if_success revert b13); intro W b13 K) | ((fail_if_success revert b14); intro W b14 K) | ((fail_if_success revert b15); intro W b15 K)); have r := K.rawS) | (apply K.storeA; rfl; rfl; rfl; rfl; rfl; (repeat (first | with_reducible exact Upd.head _ | with_reducible apply Upd.tail)); (first | with_reducible exact big_size | with_reducible exact frac_size); rfl; rfl; rfl; clear K r; intro W K; have r := K.rawS))
  refine (cMul _ _ v15 _ _ _ _ _ _ _ _ _ _ _ _ _ _ _ _ _ _ _ _ _ (by first | exact Rd.nil | exact K.rda) (by first | exact Rd.nil | exact K.rda) (by first | exact Rd.nil | exact K.rda) (by first | exact Rd.nil | exact K.rda) hs4 hs3 g4 g3 e15.out (by omega)).mono ?_
  rintro e W' ⟨s15, A15, n15, c15, l15, t15, B15, m15, d15, k15, rfl, ⟨hra, hrb⟩, hs15, ⟨hfa, hfb⟩, hb⟩
  replace hs15 : StdF s15 l15 t15 k15 v15 := hs15
  replace K := K.retF hb hra hrb hfa hfb
  clear r
  have r := K.rawS
  clear hra hrb hfa hfb hb
  go_wp2_with fail
  refine (lright_any _ _ _ _ _ _ _ _ _ _ _ (by first | exact Rd.nil | exact K.rda) (by first | exact Rd.nil | exact K.rda) _ hs15 (ht_fits g15 (by omega))).mono ?_
  rintro e W' ⟨rfl, hb⟩
  replace K := K.keep hb
  clear r
  have r := K.rawS
  clear hb
  go_wp2_with (first | ((first | (apply K.alloc; rfl; rfl; (first | with_reducible exact big_zero | with_reducible exact frac_zero)) | (apply K.box; rfl; rfl; rfl)); clear K r; (first | ((fail_if_success revert b0); intro W b0 K) | ((fail_if_success revert b1); intro W b1 K) | ((fail_if_success revert b2); intro W b2 K) | ((fail_if_success revert b3); intro W b3 K) | ((fail_if_success revert b4); intro W b4 K) | ((fail_if_success revert b5); intro W b5 K) | ((fail_if_success revert b6); intro W b6 K) | ((fail_if_success revert b7); intro W b7 K) | ((fail_if_success revert b8); intro W b8 K) | ((fail_if_success revert b9); intro W b9 K) | ((fail_if_success revert b10); intro W b10 K) | ((fail_if_success revert b11); intro W b11 K) | ((fail_if_success revert b12); intro W b12 K) | ((fail_if_success revert b13); intro W b13 K) | ((fail_if_success revert b14); intro W b14 K) | ((fail_if_success revert b15); intro W b15 K)); have r := K.rawS) | (apply K.storeA; rfl; rfl; rfl; rfl; rfl; (repeat (first | with_reducible exact Upd.head _ | with_reducible apply Upd.tail)); (first | with_reducible exact big_size | with_reducible exact frac_size); rfl; rfl; rfl; clear K r; intro W K; have r := K.rawS))
  refine (cAdd _ _ v16 _ _ _ _ _ _ _ _ _ _ _ _ _ _ _ _ _ _ _ _ _ (by first | exact Rd.nil | exact K.rda) (by first | exact Rd.nil | exact K.rda) (by first | exact Rd.nil | exact K.rda) (by first | exact Rd.nil | exact K.rda) hs14 hs11 g14 g11 e16.out (by omega)).mono ?_
  rintro e W' ⟨s16, A16, n16, c16, l16, t16, B16, m16, d16, k16, rfl, ⟨hra, hrb⟩, hs16, ⟨hfa, hfb⟩, hb⟩
  replace hs16 : StdF s16 l16 t16 k16 v16 := hs16
  replace K := K.retF hb hra hrb hfa hfb
  clear r
  have r := K.rawS
  clear hra hrb hfa hfb hb
  go_wp2_with fail
  refine (lright_any _ _ _ _ _ _ _ _ _ _ _ (by first | exact Rd.nil | exact K.rda) (by first | exact Rd.nil | exact K.rda) _ hs16 (ht_fits g16 (by omega))).mono ?_
  rintro e W' ⟨rfl, hb⟩
  replace K := K.keep hb
  clear r
  have r := K.rawS
  clear hb
  clear e14 e15 e16
  have F0 := ht_fits g1 (by omega)
  have E18' := Lib.hid E18
  replace hs11 := Lib.hid hs11
  replace hs9 := Lib.hid hs9
  replace hs2 := Lib.hid hs2
  replace hs3 := Lib.hid hs3
  replace hs4 := Lib.hid hs4
  replace hs14 := Lib.hid hs14
  replace hs15 := Lib.hid hs15
  replace hs16 := Lib.hid hs16
  go_upto_region 21 with (first | ((first | (apply K.alloc; rfl; rfl; (first | with_reducible exact big_zero | with_reducible exact frac_zero)) | (apply K.box; rfl; rfl; rfl)); clear K r; (first | ((fail_if_success revert b0); intro W b0 K) | ((fail_if_success revert b1); intro W b1 K) | ((fail_if_success revert b2); intro W b2 K) | ((fail_if_success revert b3); intro W b3 K) | ((fail_if_success revert b4); intro W b4 K) | ((fail_if_success revert b5); intro W b5 K) | ((fail_if_success revert b6); intro W b6 K) | ((fail_if_success revert b7); intro W b7 K) | ((fail_if_success revert b8); intro W b8 K) | ((fail_if_success revert b9); intro W b9 K) | ((fail_if_success revert b10); intro W b10 K) | ((fail_if_success revert b11); intro W b11 K) | ((fail_if_success revert b12); intro W b12 K) | ((fail_if_success revert b13); intro W b13 K) | ((fail_if_success revert b14); intro W b14 K) | ((fail_if_success revert b15); intro W b15 K)); have r := K.rawS) | (apply K.storeA; rfl; rfl; rfl; rfl; rfl; (repeat (first | with_reducible exact Upd.head _ | with_reducible apply Upd.tail)); (first | with_reducible exact big_size | with_reducible exact frac_size); rfl; rfl; rfl; clear K r; intro W K; have r := K.rawS))
  obtain ⟨RR, HR0⟩ := K.hideF 43
  go_cut [15, 22] from 233 to 241 (fun e p wx => ∃ g s8 A8 n8 c8 l8 t8 B8 m8 d8 k8, e = .bool true ∧ p = .pointer (some ⟨g, 0, none⟩) ∧ StdF s8 l8 t8 k8 (x) ∧ RR g #[.int .i64 s8, .slice A8 n8 c8, .int .i64 t8, .slice B8 m8 d8] A8 n8 c8 l8 B8 m8 d8 k8 wx)
  case first =>
    obtain ⟨gz1, hgz1, KA⟩ := K.newX #[.int .i64 0, .slice none 0 0, .int .i64 0, .slice none 0 0] 43
    have rA := KA.raw
    have Kd := K.drew
    have KAd := KA.drew
    simp only [Raw, RawC, and_true, true_and, Nat.zero_add, Nat.reduceAdd] at rA
    go_region_with (first
      | (go_at_call 64; (with_reducible refine (lof_any 0 1 _ (by decide) (by decide) (by decide)).mono ?_); rintro e W ⟨s30, A30, n30, c30, l30, t30, B30, m30, d30, k30, rfl, ⟨hra, hrb⟩, hs30, ⟨hfa, hfb⟩, hb⟩; (first | with_reducible replace K := Kd.retF hb hra hrb hfa hfb | with_reducible replace K := KAd.retF hb hra hrb hfa hfb); clear r rA KA hra hrb hfa hfb hb; have r := K.raw; obtain ⟨gz2, hgz2, KA⟩ := K.newX #[.int .i64 0, .slice none 0 0, .int .i64 0, .slice none 0 0] 43; have rA := KA.raw; simp only [Raw, RawC, and_true, true_and, Nat.zero_add, Nat.reduceAdd] at r rA)
      | (go_at_call 39; (with_reducible refine (cAdd x v17 x _ _ _ _ _ _ _ _ _ _ _ _ _ _ _ _ _ _ _ _ _ ?qa ?qb ?qc ?qd hs1 (by rw [e17.out] at hs30; exact hs30) g1 g17 E18.out (by omega)).mono ?_); (case qa => (first | with_reducible exact K.rd (by repeat (first | with_reducible exact List.mem_cons_self | with_reducible apply List.mem_cons_of_mem)) | with_reducible exact KA.rd (by repeat (first | with_reducible exact List.mem_cons_self | with_reducible apply List.mem_cons_of_mem)))); (case qb => (first | with_reducible exact K.rd (by repeat (first | with_reducible exact List.mem_cons_self | with_reducible apply List.mem_cons_of_mem)) | with_reducible exact KA.rd (by repeat (first | with_reducible exact List.mem_cons_self | with_reducible apply List.mem_cons_of_mem)))); (case qc => (first | with_reducible exact K.rd (by repeat (first | with_reducible exact List.mem_cons_self | with_reducible apply List.mem_cons_of_mem)) | with_reducible exact KA.rd (by repeat (first | with_reducible exact List.mem_cons_self | with_reducible apply List.mem_cons_of_mem)))); (case qd => (first | with_reducible exact K.rd (by repeat (first | with_reducible exact List.mem_cons_self | with_reducible apply List.mem_cons_of_mem)) | with_reducible exact KA.rd (by repeat (first | with_reducible exact List.mem_cons_self | with_reducible apply List.mem_cons_of_mem)))); rintro e W ⟨s31, A31, n31, c31, l31, t31, B31, m31, d31, k31, rfl, ⟨hra, hrb⟩, hs31, ⟨hfa, hfb⟩, hb⟩; replace hs31 : StdF s31 l31 t31 k31 (x) := hs31; (first | with_reducible replace K := K.retF hb hra hrb hfa hfb | with_reducible replace K := KA.retF hb hra hrb hfa hfb); clear r rA KA hra hrb hfa hfb hb; have r := K.raw; obtain ⟨gz2, hgz2, KA⟩ := K.newX #[.int .i64 0, .slice none 0 0, .int .i64 0, .slice none 0 0] 43; have rA := KA.raw; simp only [Raw, RawC, and_true, true_and, Nat.zero_add, Nat.reduceAdd] at r rA)
      | (go_at_call 63; (with_reducible refine (lright_any _ _ _ _ _ _ _ _ _ _ _ ?qa ?qb (x) hs31 F0).mono ?_); (case qa => (first | with_reducible exact K.rd (by repeat (first | with_reducible exact List.mem_cons_self | with_reducible apply List.mem_cons_of_mem)) | with_reducible exact KA.rd (by repeat (first | with_reducible exact List.mem_cons_self | with_reducible apply List.mem_cons_of_mem)))); (case qb => (first | with_reducible exact K.rd (by repeat (first | with_reducible exact List.mem_cons_self | with_reducible apply List.mem_cons_of_mem)) | with_reducible exact KA.rd (by repeat (first | with_reducible exact List.mem_cons_self | with_reducible apply List.mem_cons_of_mem)))); rintro e W ⟨rfl, hb⟩; (first | with_reducible replace K := K.keep hb | with_reducible replace K := KA.keep hb); clear r rA KA hb; have r := K.raw; have z := K.rawz; simp only [Raw, RawC, RawZ, and_true, true_and, Nat.zero_add, Nat.reduceAdd] at r z))
    all_goals
      go_wp2_with fail
      go_meet
      first
        | with_reducible exact ⟨_, s31, A31, n31, c31, l31, t31, B31, m31, d31, k31, rfl, rfl, hs31, (HR0 _ _ _ _ _ _ _ _ _ _ _).2 (K.new #[.int .i64 s31, .slice A31 n31 c31, .int .i64 t31, .slice B31 m31 d31] 43).skip4⟩
        | with_reducible exact ⟨_, s31, A31, n31, c31, l31, t31, B31, m31, d31, k31, rfl, rfl, hs31, (HR0 _ _ _ _ _ _ _ _ _ _ _).2 (K.set4 (u0 := .int .i64 s31) (u1 := .slice A31 n31 c31) (u2 := .int .i64 t31) (u3 := .slice B31 m31 d31) (by repeat (first | with_reducible exact Upd.head _ | with_reducible apply Upd.tail))).skip4⟩
        | exact ⟨_, s31, A31, n31, c31, l31, t31, B31, m31, d31, k31, rfl, rfl, hs31, (HR0 _ _ _ _ _ _ _ _ _ _ _).2 (K.new #[.int .i64 s31, .slice A31 n31 c31, .int .i64 t31, .slice B31 m31 d31] 43).skip4⟩
        | exact ⟨_, s31, A31, n31, c31, l31, t31, B31, m31, d31, k31, rfl, rfl, hs31, (HR0 _ _ _ _ _ _ _ _ _ _ _).2 (K.set4 (u0 := .int .i64 s31) (u1 := .slice A31 n31 c31) (u2 := .int .i64 t31) (u3 := .slice B31 m31 d31) (by repeat (first | with_reducible exact Upd.head _ | with_reducible apply Upd.tail))).skip4⟩
  case rest =>
  obtain ⟨gb18, s18, A18, n18, c18, l18, t18, B18, m18, d18, k18, rfl, rfl, hs18, hk⟩ := hcut
  replace K := (HR0 _ _ _ _ _ _ _ _ _ _ _).1 hk
  clear r hk HR0
  have r := K.rawS
  go_upto_region 22 with (first | ((first | (apply K.alloc; rfl; rfl; (first | with_reducible exact big_zero | with_reducible exact frac_zero)) | (apply K.box; rfl; rfl; rfl)); clear K r; (first | ((fail_if_success revert b0); intro W b0 K) | ((fail_if_success revert b1); intro W b1 K) | ((fail_if_success revert b2); intro W b2 K) | ((fail_if_success revert b3); intro W b3 K) | ((fail_if_success revert b4); intro W b4 K) | ((fail_if_success revert b5); intro W b5 K) | ((fail_if_success revert b6); intro W b6 K) | ((fail_if_success revert b7); intro W b7 K) | ((fail_if_success revert b8); intro W b8 K) | ((fail_if_success revert b9); intro W b9 K) | ((fail_if_success revert b10); intro W b10 K) | ((fail_if_success revert b11); intro W b11 K) | ((fail_if_success revert b12); intro W b12 K) | ((fail_if_success revert b13); intro W b13 K) | ((fail_if_success revert b14); intro W b14 K) | ((fail_if_success revert b15); intro W b15 K)); have r := K.rawS) | (apply K.storeA; rfl; rfl; rfl; rfl; rfl; (repeat (first | with_reducible exact Upd.head _ | with_reducible apply Upd.tail)); (first | with_reducible exact big_size | with_reducible exact frac_size); rfl; rfl; rfl; clear K r; intro W K; have r := K.rawS))
  obtain ⟨RR, HR0⟩ := K.hideF 43
  go_cut [17, 23] from 242 to 250 (fun e p wx => ∃ g s8 A8 n8 c8 l8 t8 B8 m8 d8 k8, e = .bool true ∧ p = .pointer (some ⟨g, 0, none⟩) ∧ StdF s8 l8 t8 k8 (x) ∧ RR g #[.int .i64 s8, .slice A8 n8 c8, .int .i64 t8, .slice B8 m8 d8] A8 n8 c8 l8 B8 m8 d8 k8 wx)
  case first =>
    obtain ⟨gz1, hgz1, KA⟩ := K.newX #[.int .i64 0, .slice none 0 0, .int .i64 0, .slice none 0 0] 43
    have rA := KA.raw
    have Kd := K.drew
    have KAd := KA.drew
    simp only [Raw, RawC, and_true, true_and, Nat.zero_add, Nat.reduceAdd] at rA
    go_region_with (first
      | (go_at_call 64; (with_reducible refine (lof_any 1 1 _ (by decide) (by decide) (by decide)).mono ?_); rintro e W ⟨s30, A30, n30, c30, l30, t30, B30, m30, d30, k30, rfl, ⟨hra, hrb⟩, hs30, ⟨hfa, hfb⟩, hb⟩; (first | with_reducible replace K := Kd.retF hb hra hrb hfa hfb | with_reducible replace K := KAd.retF hb hra hrb hfa hfb); clear r rA KA hra hrb hfa hfb hb; have r := K.raw; obtain ⟨gz2, hgz2, KA⟩ := K.newX #[.int .i64 0, .slice none 0 0, .int .i64 0, .slice none 0 0] 43; have rA := KA.raw; simp only [Raw, RawC, and_true, true_and, Nat.zero_add, Nat.reduceAdd] at r rA)
      | (go_at_call 44; (with_reducible refine (cMul x v19 x _ _ _ _ _ _ _ _ _ _ _ _ _ _ _ _ _ _ _ _ _ ?qa ?qb ?qc ?qd hs1 (by rw [e19.out] at hs30; exact hs30) g1 g19 E20.out (by omega)).mono ?_); (case qa => (first | with_reducible exact K.rd (by repeat (first | with_reducible exact List.mem_cons_self | with_reducible apply List.mem_cons_of_mem)) | with_reducible exact KA.rd (by repeat (first | with_reducible exact List.mem_cons_self | with_reducible apply List.mem_cons_of_mem)))); (case qb => (first | with_reducible exact K.rd (by repeat (first | with_reducible exact List.mem_cons_self | with_reducible apply List.mem_cons_of_mem)) | with_reducible exact KA.rd (by repeat (first | with_reducible exact List.mem_cons_self | with_reducible apply List.mem_cons_of_mem)))); (case qc => (first | with_reducible exact K.rd (by repeat (first | with_reducible exact List.mem_cons_self | with_reducible apply List.mem_cons_of_mem)) | with_reducible exact KA.rd (by repeat (first | with_reducible exact List.mem_cons_self | with_reducible apply List.mem_cons_of_mem)))); (case qd => (first | with_reducible exact K.rd (by repeat (first | with_reducible exact List.mem_cons_self | with_reducible apply List.mem_cons_of_mem)) | with_reducible exact KA.rd (by repeat (first | with_reducible exact List.mem_cons_self | with_reducible apply List.mem_cons_of_mem)))); rintro e W ⟨s31, A31, n31, c31, l31, t31, B31, m31, d31, k31, rfl, ⟨hra, hrb⟩, hs31, ⟨hfa, hfb⟩, hb⟩; replace hs31 : StdF s31 l31 t31 k31 (x) := hs31; (first | with_reducible replace K := K.retF hb hra hrb hfa hfb | with_reducible replace K := KA.retF hb hra hrb hfa hfb); clear r rA KA hra hrb hfa hfb hb; have r := K.raw; obtain ⟨gz2, hgz2, KA⟩ := K.newX #[.int .i64 0, .slice none 0 0, .int .i64 0, .slice none 0 0] 43; have rA := KA.raw; simp only [Raw, RawC, and_true, true_and, Nat.zero_add, Nat.reduceAdd] at r rA)
      | (go_at_call 63; (with_reducible refine (lright_any _ _ _ _ _ _ _ _ _ _ _ ?qa ?qb (x) hs31 F0).mono ?_); (case qa => (first | with_reducible exact K.rd (by repeat (first | with_reducible exact List.mem_cons_self | with_reducible apply List.mem_cons_of_mem)) | with_reducible exact KA.rd (by repeat (first | with_reducible exact List.mem_cons_self | with_reducible apply List.mem_cons_of_mem)))); (case qb => (first | with_reducible exact K.rd (by repeat (first | with_reducible exact List.mem_cons_self | with_reducible apply List.mem_cons_of_mem)) | with_reducible exact KA.rd (by repeat (first | with_reducible exact List.mem_cons_self | with_reducible apply List.mem_cons_of_mem)))); rintro e W ⟨rfl, hb⟩; (first | with_reducible replace K := K.keep hb | with_reducible replace K := KA.keep hb); clear r rA KA hb; have r := K.raw; have z := K.rawz; simp only [Raw, RawC, RawZ, and_true, true_and, Nat.zero_add, Nat.reduceAdd] at r z))
    all_goals
      go_wp2_with fail
      go_meet
      first
        | with_reducible exact ⟨_, s31, A31, n31, c31, l31, t31, B31, m31, d31, k31, rfl, rfl, hs31, (HR0 _ _ _ _ _ _ _ _ _ _ _).2 (K.new #[.int .i64 s31, .slice A31 n31 c31, .int .i64 t31, .slice B31 m31 d31] 43).skip4⟩
        | with_reducible exact ⟨_, s31, A31, n31, c31, l31, t31, B31, m31, d31, k31, rfl, rfl, hs31, (HR0 _ _ _ _ _ _ _ _ _ _ _).2 (K.set4 (u0 := .int .i64 s31) (u1 := .slice A31 n31 c31) (u2 := .int .i64 t31) (u3 := .slice B31 m31 d31) (by repeat (first | with_reducible exact Upd.head _ | with_reducible apply Upd.tail))).skip4⟩
        | exact ⟨_, s31, A31, n31, c31, l31, t31, B31, m31, d31, k31, rfl, rfl, hs31, (HR0 _ _ _ _ _ _ _ _ _ _ _).2 (K.new #[.int .i64 s31, .slice A31 n31 c31, .int .i64 t31, .slice B31 m31 d31] 43).skip4⟩
        | exact ⟨_, s31, A31, n31, c31, l31, t31, B31, m31, d31, k31, rfl, rfl, hs31, (HR0 _ _ _ _ _ _ _ _ _ _ _).2 (K.set4 (u0 := .int .i64 s31) (u1 := .slice A31 n31 c31) (u2 := .int .i64 t31) (u3 := .slice B31 m31 d31) (by repeat (first | with_reducible exact Upd.head _ | with_reducible apply Upd.tail))).skip4⟩
  case rest =>
  obtain ⟨gb20, s20, A20, n20, c20, l20, t20, B20, m20, d20, k20, rfl, rfl, hs20, hk⟩ := hcut
  replace K := (HR0 _ _ _ _ _ _ _ _ _ _ _).1 hk
  clear r hk HR0
  have r := K.rawS
  replace hs11 := hs11.out
  replace hs9 := hs9.out
  replace hs2 := hs2.out
  replace hs3 := hs3.out
  replace hs4 := hs4.out
  replace hs14 := hs14.out
  replace hs15 := hs15.out
  replace hs16 := hs16.out
  go_wp2_with (first | ((first | (apply K.alloc; rfl; rfl; (first | with_reducible exact big_zero | with_reducible exact frac_zero)) | (apply K.box; rfl; rfl; rfl)); clear K r; (first | ((fail_if_success revert b0); intro W b0 K) | ((fail_if_success revert b1); intro W b1 K) | ((fail_if_success revert b2); intro W b2 K) | ((fail_if_success revert b3); intro W b3 K) | ((fail_if_success revert b4); intro W b4 K) | ((fail_if_success revert b5); intro W b5 K) | ((fail_if_success revert b6); intro W b6 K) | ((fail_if_success revert b7); intro W b7 K) | ((fail_if_success revert b8); intro W b8 K) | ((fail_if_success revert b9); intro W b9 K) | ((fail_if_success revert b10); intro W b10 K) | ((fail_if_success revert b11); intro W b11 K) | ((fail_if_success revert b12); intro W b12 K) | ((fail_if_success revert b13); intro W b13 K) | ((fail_if_success revert b14); intro W b14 K) | ((fail_if_success revert b15); intro W b15 K)); have r := K.rawS) | (apply K.storeA; rfl; rfl; rfl; rfl; rfl; (repeat (first | with_reducible exact Upd.head _ | with_reducible apply Upd.tail)); (first | with_reducible exact big_size | with_reducible exact frac_size); rfl; rfl; rfl; clear K r; intro W K; have r := K.rawS))
  refine (nSameFT _ _ _ _ _ _ _ _ _ _ _ _ _ _ _ _ _ _ _ _ _ _ _ (by first | exact Rd.nil | exact K.rda) (by first | exact Rd.nil | exact K.rda) (by first | exact Rd.nil | exact K.rda) (by first | exact Rd.nil | exact K.rda) hs15 hs16 E1516.out).mono ?_
  rintro e W' ⟨rfl, hb⟩
  replace K := K.keep hb
  clear r
  have r := K.rawS
  clear hb
  go_wp2_with (first | ((first | (apply K.alloc; rfl; rfl; (first | with_reducible exact big_zero | with_reducible exact frac_zero)) | (apply K.box; rfl; rfl; rfl)); clear K r; (first | ((fail_if_success revert b0); intro W b0 K) | ((fail_if_success revert b1); intro W b1 K) | ((fail_if_success revert b2); intro W b2 K) | ((fail_if_success revert b3); intro W b3 K) | ((fail_if_success revert b4); intro W b4 K) | ((fail_if_success revert b5); intro W b5 K) | ((fail_if_success revert b6); intro W b6 K) | ((fail_if_success revert b7); intro W b7 K) | ((fail_if_success revert b8); intro W b8 K) | ((fail_if_success revert b9); intro W b9 K) | ((fail_if_success revert b10); intro W b10 K) | ((fail_if_success revert b11); intro W b11 K) | ((fail_if_success revert b12); intro W b12 K) | ((fail_if_success revert b13); intro W b13 K) | ((fail_if_success revert b14); intro W b14 K) | ((fail_if_success revert b15); intro W b15 K)); have r := K.rawS) | (apply K.storeA; rfl; rfl; rfl; rfl; rfl; (repeat (first | with_reducible exact Upd.head _ | with_reducible apply Upd.tail)); (first | with_reducible exact big_size | with_reducible exact frac_size); rfl; rfl; rfl; clear K r; intro W K; have r := K.rawS))
  refine (nSameFT _ _ _ _ _ _ _ _ _ _ _ _ _ _ _ _ _ _ _ _ _ _ _ (by first | exact Rd.nil | exact K.rda) (by first | exact Rd.nil | exact K.rda) (by first | exact Rd.nil | exact K.rda) (by first | exact Rd.nil | exact K.rda) hs18 hs1 rfl).mono ?_
  rintro e W' ⟨rfl, hb⟩
  replace K := K.keep hb
  clear r
  have r := K.rawS
  clear hb
  go_wp2_with (first | ((first | (apply K.alloc; rfl; rfl; (first | with_reducible exact big_zero | with_reducible exact frac_zero)) | (apply K.box; rfl; rfl; rfl)); clear K r; (first | ((fail_if_success revert b0); intro W b0 K) | ((fail_if_success revert b1); intro W b1 K) | ((fail_if_success revert b2); intro W b2 K) | ((fail_if_success revert b3); intro W b3 K) | ((fail_if_success revert b4); intro W b4 K) | ((fail_if_success revert b5); intro W b5 K) | ((fail_if_success revert b6); intro W b6 K) | ((fail_if_success revert b7); intro W b7 K) | ((fail_if_success revert b8); intro W b8 K) | ((fail_if_success revert b9); intro W b9 K) | ((fail_if_success revert b10); intro W b10 K) | ((fail_if_success revert b11); intro W b11 K) | ((fail_if_success revert b12); intro W b12 K) | ((fail_if_success revert b13); intro W b13 K) | ((fail_if_success revert b14); intro W b14 K) | ((fail_if_success revert b15); intro W b15 K)); have r := K.rawS) | (apply K.storeA; rfl; rfl; rfl; rfl; rfl; (repeat (first | with_reducible exact Upd.head _ | with_reducible apply Upd.tail)); (first | with_reducible exact big_size | with_reducible exact frac_size); rfl; rfl; rfl; clear K r; intro W K; have r := K.rawS))
  refine (nSameFT _ _ _ _ _ _ _ _ _ _ _ _ _ _ _ _ _ _ _ _ _ _ _ (by first | exact Rd.nil | exact K.rda) (by first | exact Rd.nil | exact K.rda) (by first | exact Rd.nil | exact K.rda) (by first | exact Rd.nil | exact K.rda) hs20 hs1 rfl).mono ?_
  rintro e W' ⟨rfl, hb⟩
  replace K := K.keep hb
  clear r
  have r := K.rawS
  clear hb
  go_wp2_with (first | ((first | (apply K.alloc; rfl; rfl; (first | with_reducible exact big_zero | with_reducible exact frac_zero)) | (apply K.box; rfl; rfl; rfl)); clear K r; (first | ((fail_if_success revert b0); intro W b0 K) | ((fail_if_success revert b1); intro W b1 K) | ((fail_if_success revert b2); intro W b2 K) | ((fail_if_success revert b3); intro W b3 K) | ((fail_if_success revert b4); intro W b4 K) | ((fail_if_success revert b5); intro W b5 K) | ((fail_if_success revert b6); intro W b6 K) | ((fail_if_success revert b7); intro W b7 K) | ((fail_if_success revert b8); intro W b8 K) | ((fail_if_success revert b9); intro W b9 K) | ((fail_if_success revert b10); intro W b10 K) | ((fail_if_success revert b11); intro W b11 K) | ((fail_if_success revert b12); intro W b12 K) | ((fail_if_success revert b13); intro W b13 K) | ((fail_if_success revert b14); intro W b14 K) | ((fail_if_success revert b15); intro W b15 K)); have r := K.rawS) | (apply K.storeA; rfl; rfl; rfl; rfl; rfl; (repeat (first | with_reducible exact Upd.head _ | with_reducible apply Upd.tail)); (first | with_reducible exact big_size | with_reducible exact frac_size); rfl; rfl; rfl; clear K r; intro W K; have r := K.rawS))
  clear r
  replace K := K.sub (L' := [(b8, #[.int .i64 s9, .slice A9 n9 c9, .int .i64 t9, .slice B9 m9 d9], 43), (b7, #[.int .i64 s16, .slice A16 n16 c16, .int .i64 t16, .slice B16 m16 d16], 43), (b6, #[.int .i64 s15, .slice A15 n15 c15, .int .i64 t15, .slice B15 m15 d15], 43), (b3, #[.int .i64 s4, .slice A4 n4 c4, .int .i64 t4, .slice B4 m4 d4], 43), (b2, #[.int .i64 s3, .slice A3 n3 c3, .int .i64 t3, .slice B3 m3 d3], 43), (b1, #[.int .i64 s2, .slice A2 n2 c2, .int .i64 t2, .slice B2 m2 d2], 43), (b0, #[.int .i64 s1, .slice A1 n1 c1, .int .i64 t1, .slice B1 m1 d1], 43)]) (by repeat (first | with_reducible exact List.nil_sublist _ | with_reducible apply List.Sublist.cons_cons | with_reducible apply List.Sublist.cons))
  replace K := K.less (D' := [⟨rdP B9 m9 d9 k9, rdS B9 m9⟩, ⟨rdP A9 n9 c9 l9, rdS A9 n9⟩, ⟨rdP B4 m4 d4 k4, rdS B4 m4⟩, ⟨rdP A4 n4 c4 l4, rdS A4 n4⟩, ⟨rdP B3 m3 d3 k3, oldS w⟩, ⟨rdP A3 n3 c3 l3, oldS w⟩, ⟨rdP B2 m2 d2 k2, oldS w⟩, ⟨rdP A2 n2 c2 l2, oldS w⟩, ⟨rdP B1 m1 d1 k1, oldS w⟩, ⟨rdP A1 n1 c1 l1, oldS w⟩]) (by simp only [List.mem_cons, List.not_mem_nil, or_false, forall_eq_or_imp, forall_eq, true_or, or_true, and_self])
  try clear hs14
  try clear hs15
  try clear hs16
  try clear hs17
  try clear hs18
  try clear hs19
  try clear hs20
  try clear hs11
  try clear E1516
  try clear e14
  try clear e15
  try clear e16
  try clear e17
  try clear e19
  try clear g14
  try clear g15
  try clear g16
  try clear g17
  try clear g18
  try clear g19
  try clear g20
  try clear g11
  have r := K.rawS
  refine (cSub _ _ x _ _ _ _ _ _ _ _ _ _ _ _ _ _ _ _ _ _ _ _ _ (by first | exact Rd.nil | exact K.rda) (by first | exact Rd.nil | exact K.rda) (by first | exact Rd.nil | exact K.rda) (by first | exact Rd.nil | exact K.rda) hs4 hs2 g4 g2 E21.out (by omega)).mono ?_
  rintro e W' ⟨s21, A21, n21, c21, l21, t21, B21, m21, d21, k21, rfl, ⟨hra, hrb⟩, hs21, ⟨hfa, hfb⟩, hb⟩
  replace hs21 : StdF s21 l21 t21 k21 x := hs21
  replace K := K.retF hb hra hrb hfa hfb
  clear r
  have r := K.rawS
  clear hra hrb hfa hfb hb
  go_wp2_with fail
  refine (lright_any _ _ _ _ _ _ _ _ _ _ _ (by first | exact Rd.nil | exact K.rda) (by first | exact Rd.nil | exact K.rda) _ hs21 (ht_fits g21 (by omega))).mono ?_
  rintro e W' ⟨rfl, hb⟩
  replace K := K.keep hb
  clear r
  have r := K.rawS
  clear hb
  go_wp2_with (first | ((first | (apply K.alloc; rfl; rfl; (first | with_reducible exact big_zero | with_reducible exact frac_zero)) | (apply K.box; rfl; rfl; rfl)); clear K r; (first | ((fail_if_success revert b0); intro W b0 K) | ((fail_if_success revert b1); intro W b1 K) | ((fail_if_success revert b2); intro W b2 K) | ((fail_if_success revert b3); intro W b3 K) | ((fail_if_success revert b4); intro W b4 K) | ((fail_if_success revert b5); intro W b5 K) | ((fail_if_success revert b6); intro W b6 K) | ((fail_if_success revert b7); intro W b7 K) | ((fail_if_success revert b8); intro W b8 K) | ((fail_if_success revert b9); intro W b9 K) | ((fail_if_success revert b10); intro W b10 K) | ((fail_if_success revert b11); intro W b11 K) | ((fail_if_success revert b12); intro W b12 K) | ((fail_if_success revert b13); intro W b13 K) | ((fail_if_success revert b14); intro W b14 K) | ((fail_if_success revert b15); intro W b15 K)); have r := K.rawS) | (apply K.storeA; rfl; rfl; rfl; rfl; rfl; (repeat (first | with_reducible exact Upd.head _ | with_reducible apply Upd.tail)); (first | with_reducible exact big_size | with_reducible exact frac_size); rfl; rfl; rfl; clear K r; intro W K; have r := K.rawS))
  by_cases hy : y = 0
  · have hd : (s2 == 0) = true := by rw [hs2.1.1, hy]; rfl
    refine (nDivF0 _ _ _ _ _ _ _ _ _ _ _ _ _ _ _ _ _ _ _ _ _ _ _ (by first | exact Rd.nil | exact K.rda) (by first | exact Rd.nil | exact K.rda) (by first | exact Rd.nil | exact K.rda) (by first | exact Rd.nil | exact K.rda) hs9 hs2 (ht_fits g9 (by omega)) (ht_fits g2 (by omega)) hy).mono ?_
    rintro e W' ⟨s22, A22, n22, c22, l22, t22, B22, m22, d22, k22, rfl, ⟨hra, hrb⟩, -, ⟨hfa, hfb⟩, hb⟩
    replace K := K.retF hb hra hrb hfa hfb
    clear r
    have r := K.rawS
    clear hra hrb hfa hfb hb
    clear hy
    go_wp2_with (first | ((first | (apply K.alloc; rfl; rfl; (first | with_reducible exact big_zero | with_reducible exact frac_zero)) | (apply K.box; rfl; rfl; rfl)); clear K r; (first | ((fail_if_success revert b0); intro W b0 K) | ((fail_if_success revert b1); intro W b1 K) | ((fail_if_success revert b2); intro W b2 K) | ((fail_if_success revert b3); intro W b3 K) | ((fail_if_success revert b4); intro W b4 K) | ((fail_if_success revert b5); intro W b5 K) | ((fail_if_success revert b6); intro W b6 K) | ((fail_if_success revert b7); intro W b7 K) | ((fail_if_success revert b8); intro W b8 K) | ((fail_if_success revert b9); intro W b9 K) | ((fail_if_success revert b10); intro W b10 K) | ((fail_if_success revert b11); intro W b11 K) | ((fail_if_success revert b12); intro W b12 K) | ((fail_if_success revert b13); intro W b13 K) | ((fail_if_success revert b14); intro W b14 K) | ((fail_if_success revert b15); intro W b15 K)); have r := K.rawS) | (apply K.storeA; rfl; rfl; rfl; rfl; rfl; (repeat (first | with_reducible exact Upd.head _ | with_reducible apply Upd.tail)); (first | with_reducible exact big_size | with_reducible exact frac_size); rfl; rfl; rfl; clear K r; intro W K; have r := K.rawS))
    refine (nSameFT _ _ _ _ _ _ _ _ _ _ _ _ _ _ _ _ _ _ _ _ _ _ _ (by first | exact Rd.nil | exact K.rda) (by first | exact Rd.nil | exact K.rda) (by first | exact Rd.nil | exact K.rda) (by first | exact Rd.nil | exact K.rda) hs21 hs1 rfl).mono ?_
    rintro e W' ⟨rfl, hb⟩
    replace K := K.keep hb
    clear r
    have r := K.rawS
    clear hb
    go_wp2_with (first | ((first | (apply K.alloc; rfl; rfl; (first | with_reducible exact big_zero | with_reducible exact frac_zero)) | (apply K.box; rfl; rfl; rfl)); clear K r; (first | ((fail_if_success revert b0); intro W b0 K) | ((fail_if_success revert b1); intro W b1 K) | ((fail_if_success revert b2); intro W b2 K) | ((fail_if_success revert b3); intro W b3 K) | ((fail_if_success revert b4); intro W b4 K) | ((fail_if_success revert b5); intro W b5 K) | ((fail_if_success revert b6); intro W b6 K) | ((fail_if_success revert b7); intro W b7 K) | ((fail_if_success revert b8); intro W b8 K) | ((fail_if_success revert b9); intro W b9 K) | ((fail_if_success revert b10); intro W b10 K) | ((fail_if_success revert b11); intro W b11 K) | ((fail_if_success revert b12); intro W b12 K) | ((fail_if_success revert b13); intro W b13 K) | ((fail_if_success revert b14); intro W b14 K) | ((fail_if_success revert b15); intro W b15 K)); have r := K.rawS) | (apply K.storeA; rfl; rfl; rfl; rfl; rfl; (repeat (first | with_reducible exact Upd.head _ | with_reducible apply Upd.tail)); (first | with_reducible exact big_size | with_reducible exact frac_size); rfl; rfl; rfl; clear K r; intro W K; have r := K.rawS))
    go_ret
    exact ⟨rfl, K.1⟩
  · have hd : (s2 == 0) = false := by
      have hn : y.num ≠ 0 := fun e => hy (rat_zero.2 e)
      rw [hs2.1.1]
      unfold sgI
      rw [if_neg hn]
      split <;> rfl
    have E23 := Lib.hid (E22.out hy)
    refine (cDiv _ _ x _ _ _ _ _ _ _ _ _ _ _ _ _ _ _ _ _ _ _ _ _ (by first | exact Rd.nil | exact K.rda) (by first | exact Rd.nil | exact K.rda) (by first | exact Rd.nil | exact K.rda) (by first | exact Rd.nil | exact K.rda) hs9 hs2 g9 g2 hy E23.out (by omega)).mono ?_
    rintro e W' ⟨s22, A22, n22, c22, l22, t22, B22, m22, d22, k22, rfl, ⟨hra, hrb⟩, hs22, ⟨hfa, hfb⟩, hb⟩
    replace hs22 : StdF s22 l22 t22 k22 x := hs22
    replace K := K.retF hb hra hrb hfa hfb
    clear r
    have r := K.rawS
    clear hra hrb hfa hfb hb
    clear hy
    go_wp2_with (first | ((first | (apply K.alloc; rfl; rfl; (first | with_reducible exact big_zero | with_reducible exact frac_zero)) | (apply K.box; rfl; rfl; rfl)); clear K r; (first | ((fail_if_success revert b0); intro W b0 K) | ((fail_if_success revert b1); intro W b1 K) | ((fail_if_success revert b2); intro W b2 K) | ((fail_if_success revert b3); intro W b3 K) | ((fail_if_success revert b4); intro W b4 K) | ((fail_if_success revert b5); intro W b5 K) | ((fail_if_success revert b6); intro W b6 K) | ((fail_if_success revert b7); intro W b7 K) | ((fail_if_success revert b8); intro W b8 K) | ((fail_if_success revert b9); intro W b9 K) | ((fail_if_success revert b10); intro W b10 K) | ((fail_if_success revert b11); intro W b11 K) | ((fail_if_success revert b12); intro W b12 K) | ((fail_if_success revert b13); intro W b13 K) | ((fail_if_success revert b14); intro W b14 K) | ((fail_if_success revert b15); intro W b15 K)); have r := K.rawS) | (apply K.storeA; rfl; rfl; rfl; rfl; rfl; (repeat (first | with_reducible exact Upd.head _ | with_reducible apply Upd.tail)); (first | with_reducible exact big_size | with_reducible exact frac_size); rfl; rfl; rfl; clear K r; intro W K; have r := K.rawS))
    refine (nSameFT _ _ _ _ _ _ _ _ _ _ _ _ _ _ _ _ _ _ _ _ _ _ _ (by first | exact Rd.nil | exact K.rda) (by first | exact Rd.nil | exact K.rda) (by first | exact Rd.nil | exact K.rda) (by first | exact Rd.nil | exact K.rda) hs21 hs1 rfl).mono ?_
    rintro e W' ⟨rfl, hb⟩
    replace K := K.keep hb
    clear r
    have r := K.rawS
    clear hb
    go_wp2_with (first | ((first | (apply K.alloc; rfl; rfl; (first | with_reducible exact big_zero | with_reducible exact frac_zero)) | (apply K.box; rfl; rfl; rfl)); clear K r; (first | ((fail_if_success revert b0); intro W b0 K) | ((fail_if_success revert b1); intro W b1 K) | ((fail_if_success revert b2); intro W b2 K) | ((fail_if_success revert b3); intro W b3 K) | ((fail_if_success revert b4); intro W b4 K) | ((fail_if_success revert b5); intro W b5 K) | ((fail_if_success revert b6); intro W b6 K) | ((fail_if_success revert b7); intro W b7 K) | ((fail_if_success revert b8); intro W b8 K) | ((fail_if_success revert b9); intro W b9 K) | ((fail_if_success revert b10); intro W b10 K) | ((fail_if_success revert b11); intro W b11 K) | ((fail_if_success revert b12); intro W b12 K) | ((fail_if_success revert b13); intro W b13 K) | ((fail_if_success revert b14); intro W b14 K) | ((fail_if_success revert b15); intro W b15 K)); have r := K.rawS) | (apply K.storeA; rfl; rfl; rfl; rfl; rfl; (repeat (first | with_reducible exact Upd.head _ | with_reducible apply Upd.tail)); (first | with_reducible exact big_size | with_reducible exact frac_size); rfl; rfl; rfl; clear K r; intro W K; have r := K.rawS))
    refine (nSameFT _ _ _ _ _ _ _ _ _ _ _ _ _ _ _ _ _ _ _ _ _ _ _ (by first | exact Rd.nil | exact K.rda) (by first | exact Rd.nil | exact K.rda) (by first | exact Rd.nil | exact K.rda) (by first | exact Rd.nil | exact K.rda) hs22 hs1 rfl).mono ?_
    rintro e W' ⟨rfl, hb⟩
    replace K := K.keep hb
    clear r
    have r := K.rawS
    clear hb
    go_wp2_with (first | ((first | (apply K.alloc; rfl; rfl; (first | with_reducible exact big_zero | with_reducible exact frac_zero)) | (apply K.box; rfl; rfl; rfl)); clear K r; (first | ((fail_if_success revert b0); intro W b0 K) | ((fail_if_success revert b1); intro W b1 K) | ((fail_if_success revert b2); intro W b2 K) | ((fail_if_success revert b3); intro W b3 K) | ((fail_if_success revert b4); intro W b4 K) | ((fail_if_success revert b5); intro W b5 K) | ((fail_if_success revert b6); intro W b6 K) | ((fail_if_success revert b7); intro W b7 K) | ((fail_if_success revert b8); intro W b8 K) | ((fail_if_success revert b9); intro W b9 K) | ((fail_if_success revert b10); intro W b10 K) | ((fail_if_success revert b11); intro W b11 K) | ((fail_if_success revert b12); intro W b12 K) | ((fail_if_success revert b13); intro W b13 K) | ((fail_if_success revert b14); intro W b14 K) | ((fail_if_success revert b15); intro W b15 K)); have r := K.rawS) | (apply K.storeA; rfl; rfl; rfl; rfl; rfl; (repeat (first | with_reducible exact Upd.head _ | with_reducible apply Upd.tail)); (first | with_reducible exact big_size | with_reducible exact frac_size); rfl; rfl; rfl; clear K r; intro W K; have r := K.rawS))
    go_ret
    exact ⟨rfl, K.1⟩
end Go.Proofs.YtkeajohkpmabcaaGreatDoor
