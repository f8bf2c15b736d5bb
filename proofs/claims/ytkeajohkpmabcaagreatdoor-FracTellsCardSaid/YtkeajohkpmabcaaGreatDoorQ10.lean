
/- Walk over the law FracTells. Conditions stand in the theorem. -/
import Derived.Test.YtkeajohkpmabcaaGreatDoorQ5
import Derived.Test.YtkeajohkpmabcaaGreatDoorU
import Derived.Test.YtkeajohkpmabcaaGreatDoorQo
import Derived.Test.YtkeajohkpmabcaaGreatDoorF10
import Derived.Test.YtkeajohkpmabcaaGreatDoorF12
namespace Go.Proofs.YtkeajohkpmabcaaGreatDoor
open Go.RowKit
set_option linter.unusedVariables false
set_option linter.unusedSimpArgs false

set_option maxRecDepth 1000000 in
set_option maxHeartbeats 16000000 in
theorem fracTells_walk (s1 t1 : Int) (A1 B1 : Option Addr) (n1 c1 m1 d1 : Nat) (l1 k1 : List Int) (s2 t2 : Int) (A2 B2 : Option Addr) (n2 c2 m2 d2 : Nat) (l2 k2 : List Int) (p q : Int) (s : ByteArray) (w : World) (r1 : RdI w w.heap.size A1 n1 c1 l1) (q1 : RdI w w.heap.size B1 m1 d1 k1) (r2 : RdI w w.heap.size A2 n2 c2 l2) (q2 : RdI w w.heap.size B2 m2 d2 k2) (hp : -9223372036854775808 ≤ p ∧ p ≤ 9223372036854775807) (hq : -9223372036854775808 ≤ q ∧ q ≤ 9223372036854775807) (hS : s.size ≤ maxLen) (htab : TabM w) :
    Calls Tryz.prog 4 #[.agg #[.int .i64 s1, .slice A1 n1 c1, .int .i64 t1, .slice B1 m1 d1], .agg #[.int .i64 s2, .slice A2 n2 c2, .int .i64 t2, .slice B2 m2 d2], .int .i64 p, .int .i64 q, .string s] w fun e w' => e = .returned (.bool true) ∧ Below w.heap.size w w' := by
  have K := ((((St.start w).oldRd r1).oldRd q1).oldRd r2).oldRd q2
  have r := K.raw
  have HT := Lib.hid htab
  have HS := Lib.hid (fun W (h : Below w.heap.size w W) => small5_any W (htab.on h))
  have HF1 := Lib.hid (fun W => gfew_any s1 t1 A1 B1 n1 c1 m1 d1 40 W)
  have HF2 := Lib.hid (fun W => gfew_any s2 t2 A2 B2 n2 c2 m2 d2 40 W)
  clear htab
  cases x1 : fewF n1 m1 40
  · rw [x1] at HF1
    clear x1
    clear r1 q1 r2 q2
    go_enter Tryz.func4, Tryz.ntmps4
    go_wp2_with (first | (first | ((first | (apply K.alloc; rfl; rfl; (first | with_reducible exact big_zero | with_reducible exact frac_zero)) | (apply K.box; rfl; rfl; rfl)); clear K r; (first | (have := b6; clear this; intro W b7 K) | (have := b5; clear this; intro W b6 K) | (have := b4; clear this; intro W b5 K) | (have := b3; clear this; intro W b4 K) | (have := b2; clear this; intro W b3 K) | (have := b1; clear this; intro W b2 K) | (have := b0; clear this; intro W b1 K) | intro W b0 K); have r := K.rawS) | (apply K.storeA; rfl; rfl; rfl; rfl; rfl; (repeat (first | with_reducible exact Upd.head _ | with_reducible apply Upd.tail)); (first | with_reducible exact big_size | with_reducible exact frac_size); rfl; rfl; rfl; clear K r; intro W K; have r := K.rawS)) | (go_at_call 37; (with_reducible refine (HS.out _ K.bel).mono ?_); rintro e W' ⟨rfl, hb⟩; replace K := K.keep hb; clear r; have r := K.rawS; clear hb) | (go_at_call 38; (with_reducible refine (HF1.out _).mono ?_); rintro e W' ⟨rfl, hb⟩; replace K := K.keep hb; clear r; have r := K.rawS; clear hb) | (go_at_call 38; (with_reducible refine (HF2.out _).mono ?_); rintro e W' ⟨rfl, hb⟩; replace K := K.keep hb; clear r; have r := K.rawS; clear hb))
    go_ret
    exact ⟨rfl, K.1⟩
  rw [x1] at HF1
  cases x2 : fewF n2 m2 40
  · rw [x2] at HF2
    clear x1 x2
    clear r1 q1 r2 q2
    go_enter Tryz.func4, Tryz.ntmps4
    go_wp2_with (first | (first | ((first | (apply K.alloc; rfl; rfl; (first | with_reducible exact big_zero | with_reducible exact frac_zero)) | (apply K.box; rfl; rfl; rfl)); clear K r; (first | (have := b6; clear this; intro W b7 K) | (have := b5; clear this; intro W b6 K) | (have := b4; clear this; intro W b5 K) | (have := b3; clear this; intro W b4 K) | (have := b2; clear this; intro W b3 K) | (have := b1; clear this; intro W b2 K) | (have := b0; clear this; intro W b1 K) | intro W b0 K); have r := K.rawS) | (apply K.storeA; rfl; rfl; rfl; rfl; rfl; (repeat (first | with_reducible exact Upd.head _ | with_reducible apply Upd.tail)); (first | with_reducible exact big_size | with_reducible exact frac_size); rfl; rfl; rfl; clear K r; intro W K; have r := K.rawS)) | (go_at_call 37; (with_reducible refine (HS.out _ K.bel).mono ?_); rintro e W' ⟨rfl, hb⟩; replace K := K.keep hb; clear r; have r := K.rawS; clear hb) | (go_at_call 38; (with_reducible refine (HF1.out _).mono ?_); rintro e W' ⟨rfl, hb⟩; replace K := K.keep hb; clear r; have r := K.rawS; clear hb) | (go_at_call 38; (with_reducible refine (HF2.out _).mono ?_); rintro e W' ⟨rfl, hb⟩; replace K := K.keep hb; clear r; have r := K.rawS; clear hb))
    go_ret
    exact ⟨rfl, K.1⟩
  rw [x2] at HF2
  clear x1 x2
  by_cases x3 : (300 : Int) < (s.size : Int)
  · clear r1 q1 r2 q2
    go_enter Tryz.func4, Tryz.ntmps4
    go_wp2_with (first | (first | ((first | (apply K.alloc; rfl; rfl; (first | with_reducible exact big_zero | with_reducible exact frac_zero)) | (apply K.box; rfl; rfl; rfl)); clear K r; (first | (have := b6; clear this; intro W b7 K) | (have := b5; clear this; intro W b6 K) | (have := b4; clear this; intro W b5 K) | (have := b3; clear this; intro W b4 K) | (have := b2; clear this; intro W b3 K) | (have := b1; clear this; intro W b2 K) | (have := b0; clear this; intro W b1 K) | intro W b0 K); have r := K.rawS) | (apply K.storeA; rfl; rfl; rfl; rfl; rfl; (repeat (first | with_reducible exact Upd.head _ | with_reducible apply Upd.tail)); (first | with_reducible exact big_size | with_reducible exact frac_size); rfl; rfl; rfl; clear K r; intro W K; have r := K.rawS)) | (go_at_call 37; (with_reducible refine (HS.out _ K.bel).mono ?_); rintro e W' ⟨rfl, hb⟩; replace K := K.keep hb; clear r; have r := K.rawS; clear hb) | (go_at_call 38; (with_reducible refine (HF1.out _).mono ?_); rintro e W' ⟨rfl, hb⟩; replace K := K.keep hb; clear r; have r := K.rawS; clear hb) | (go_at_call 38; (with_reducible refine (HF2.out _).mono ?_); rintro e W' ⟨rfl, hb⟩; replace K := K.keep hb; clear r; have r := K.rawS; clear hb))
    go_ret
    exact ⟨rfl, K.1⟩
  have hs3 : s.size ≤ 1000 := by omega
  have HR1 := Lib.hid (fun W (h : Below w.heap.size w W) => fRead_any s W hs3 (HT.out.on h))
  have HR2 := Lib.hid (fun W => gRead_any s W hs3)
  have HA1 := fun W a b c d => fAdd_any s1 t1 s2 t2 A1 B1 A2 B2 n1 c1 m1 d1 n2 c2 m2 d2 l1 k1 l2 k2 W a b c d
  have HB1 := fun W a b c d => gAdd_any s1 t1 s2 t2 A1 B1 A2 B2 n1 c1 m1 d1 n2 c2 m2 d2 l1 k1 l2 k2 W a b c d
  generalize binO (rightF s1 l1 t1 k1 && rightF s2 l2 t2 k2) (addK (ratF s1 l1 t1 k1) (ratF s2 l2 t2 k2)) (ratF s1 l1 t1 k1 + ratF s2 l2 t2 k2) = o1 at HA1 HB1
  generalize binE (rightF s1 l1 t1 k1 && rightF s2 l2 t2 k2) (addK (ratF s1 l1 t1 k1) (ratF s2 l2 t2 k2)) = e1 at HA1 HB1
  replace HA1 := Lib.hid HA1
  replace HB1 := Lib.hid HB1
  have he1 : (e1 == e1) = true := beq_self_eq_true _
  have HA2 := fun W a b c d => fSub_any s1 t1 s2 t2 A1 B1 A2 B2 n1 c1 m1 d1 n2 c2 m2 d2 l1 k1 l2 k2 W a b c d
  have HB2 := fun W a b c d => gSub_any s1 t1 s2 t2 A1 B1 A2 B2 n1 c1 m1 d1 n2 c2 m2 d2 l1 k1 l2 k2 W a b c d
  generalize binO (rightF s1 l1 t1 k1 && rightF s2 l2 t2 k2) (addK (ratF s1 l1 t1 k1) (-ratF s2 l2 t2 k2)) (ratF s1 l1 t1 k1 - ratF s2 l2 t2 k2) = o2 at HA2 HB2
  generalize binE (rightF s1 l1 t1 k1 && rightF s2 l2 t2 k2) (addK (ratF s1 l1 t1 k1) (-ratF s2 l2 t2 k2)) = e2 at HA2 HB2
  replace HA2 := Lib.hid HA2
  replace HB2 := Lib.hid HB2
  have he2 : (e2 == e2) = true := beq_self_eq_true _
  have HA3 := fun W a b c d => fMul_any s1 t1 s2 t2 A1 B1 A2 B2 n1 c1 m1 d1 n2 c2 m2 d2 l1 k1 l2 k2 W a b c d
  have HB3 := fun W a b c d => gMul_any s1 t1 s2 t2 A1 B1 A2 B2 n1 c1 m1 d1 n2 c2 m2 d2 l1 k1 l2 k2 W a b c d
  generalize binO (rightF s1 l1 t1 k1 && rightF s2 l2 t2 k2) (mulK (ratF s1 l1 t1 k1) (ratF s2 l2 t2 k2)) (ratF s1 l1 t1 k1 * ratF s2 l2 t2 k2) = o3 at HA3 HB3
  generalize binE (rightF s1 l1 t1 k1 && rightF s2 l2 t2 k2) (mulK (ratF s1 l1 t1 k1) (ratF s2 l2 t2 k2)) = e3 at HA3 HB3
  replace HA3 := Lib.hid HA3
  replace HB3 := Lib.hid HB3
  have he3 : (e3 == e3) = true := beq_self_eq_true _
  have HA4 := fun W a b c d => fDiv_any s1 t1 s2 t2 A1 B1 A2 B2 n1 c1 m1 d1 n2 c2 m2 d2 l1 k1 l2 k2 W a b c d
  have HB4 := fun W a b c d => gDiv_any s1 t1 s2 t2 A1 B1 A2 B2 n1 c1 m1 d1 n2 c2 m2 d2 l1 k1 l2 k2 W a b c d
  generalize divO (rightF s1 l1 t1 k1 && rightF s2 l2 t2 k2) (ratF s1 l1 t1 k1) (ratF s2 l2 t2 k2) = o4 at HA4 HB4
  generalize divE (rightF s1 l1 t1 k1 && rightF s2 l2 t2 k2) (ratF s1 l1 t1 k1) (ratF s2 l2 t2 k2) = e4 at HA4 HB4
  replace HA4 := Lib.hid HA4
  replace HB4 := Lib.hid HB4
  have he4 : (e4 == e4) = true := beq_self_eq_true _
  have HA5 := fun W => fOf_any p q W hp hq
  have HB5 := fun W => gOf_any p q W hp hq
  generalize newO true p q = o5 at HA5 HB5
  generalize newE true q = e5 at HA5 HB5
  replace HA5 := Lib.hid HA5
  replace HB5 := Lib.hid HB5
  have he5 : (e5 == e5) = true := beq_self_eq_true _
  have HA6 := fun W a b => fNew_any s1 s2 A1 A2 n1 c1 n2 c2 l1 l2 W a b
  have HB6 := fun W a b => gNew_any s1 s2 A1 A2 n1 c1 n2 c2 l1 l2 W a b
  generalize newO (rightB s1 l1 && rightB s2 l2) (bval s1 l1) (bval s2 l2) = o6 at HA6 HB6
  generalize newE (rightB s1 l1 && rightB s2 l2) (bval s2 l2) = e6 at HA6 HB6
  replace HA6 := Lib.hid HA6
  replace HB6 := Lib.hid HB6
  have he6 : (e6 == e6) = true := beq_self_eq_true _
  have HC1 := fun W a b c d => fCompare_any s1 t1 s2 t2 A1 B1 A2 B2 n1 c1 m1 d1 n2 c2 m2 d2 l1 k1 l2 k2 W a b c d
  have HC2 := fun W a b c d => gCompare_any s1 t1 s2 t2 A1 B1 A2 B2 n1 c1 m1 d1 n2 c2 m2 d2 l1 k1 l2 k2 W a b c d
  generalize cmpF (rightF s1 l1 t1 k1 && rightF s2 l2 t2 k2) (ratF s1 l1 t1 k1) (ratF s2 l2 t2 k2) = C at HC1 HC2
  replace HC1 := Lib.hid HC1
  replace HC2 := Lib.hid HC2
  have hC : (C == C) = true := beq_self_eq_true _
  have HX1 := fun W a b t => fText_any s1 t1 A1 B1 n1 c1 m1 d1 l1 k1 W a b t
  have HX2 := fun W a b => gText_any s1 t1 A1 B1 n1 c1 m1 d1 l1 k1 W a b
  generalize textF (rightF s1 l1 t1 k1) (ratF s1 l1 t1 k1) = T at HX1 HX2
  replace HX1 := Lib.hid HX1
  replace HX2 := Lib.hid HX2
  have HZ1 := fun W a b => fFloor_any s1 t1 A1 B1 n1 c1 m1 d1 l1 k1 W a b
  have HZ2 := fun W a b => gFloor_any s1 t1 A1 B1 n1 c1 m1 d1 l1 k1 W a b
  generalize floorZ (rightF s1 l1 t1 k1) (ratF s1 l1 t1 k1) = Z at HZ1 HZ2
  replace HZ1 := Lib.hid HZ1
  replace HZ2 := Lib.hid HZ2
  have HG1 := fun W a b => fRight_any s1 t1 A1 B1 n1 c1 m1 d1 l1 k1 W a b
  have HG2 := fun W a b => gRight_any s1 t1 A1 B1 n1 c1 m1 d1 l1 k1 W a b
  generalize rightF s1 l1 t1 k1 = R at HG1 HG2
  replace HG1 := Lib.hid HG1
  replace HG2 := Lib.hid HG2
  have hR : (R == R) = true := beq_self_eq_true _
  clear r1 q1 r2 q2 hp hq hs3
  go_enter Tryz.func4, Tryz.ntmps4
  go_wp2_with (first | (first | ((first | (apply K.alloc; rfl; rfl; (first | with_reducible exact big_zero | with_reducible exact frac_zero)) | (apply K.box; rfl; rfl; rfl)); clear K r; (first | (have := b6; clear this; intro W b7 K) | (have := b5; clear this; intro W b6 K) | (have := b4; clear this; intro W b5 K) | (have := b3; clear this; intro W b4 K) | (have := b2; clear this; intro W b3 K) | (have := b1; clear this; intro W b2 K) | (have := b0; clear this; intro W b1 K) | intro W b0 K); have r := K.rawS) | (apply K.storeA; rfl; rfl; rfl; rfl; rfl; (repeat (first | with_reducible exact Upd.head _ | with_reducible apply Upd.tail)); (first | with_reducible exact big_size | with_reducible exact frac_size); rfl; rfl; rfl; clear K r; intro W K; have r := K.rawS)) | (go_at_call 37; (with_reducible refine (HS.out _ K.bel).mono ?_); rintro e W' ⟨rfl, hb⟩; replace K := K.keep hb; clear r; have r := K.rawS; clear hb) | (go_at_call 38; (with_reducible refine (HF1.out _).mono ?_); rintro e W' ⟨rfl, hb⟩; replace K := K.keep hb; clear r; have r := K.rawS; clear hb) | (go_at_call 38; (with_reducible refine (HF2.out _).mono ?_); rintro e W' ⟨rfl, hb⟩; replace K := K.keep hb; clear r; have r := K.rawS; clear hb))
  clear HS HF1 HF2 x3
  refine (HA1.out _ (by first | exact Rd.nil | exact K.rda) (by first | exact Rd.nil | exact K.rda) (by first | exact Rd.nil | exact K.rda) (by first | exact Rd.nil | exact K.rda)).mono ?_
  rintro e W' ⟨s3, A3, n3, c3, l3, t3, B3, m3, d3, k3, rfl, ⟨hra, hrb⟩, hs3, ⟨hfa, hfb⟩, hb⟩
  replace K := K.retF hb hra hrb hfa hfb
  clear r
  have r := K.rawS
  clear hra hrb hfa hfb hb
  go_wp2_with (first | ((first | (apply K.alloc; rfl; rfl; (first | with_reducible exact big_zero | with_reducible exact frac_zero)) | (apply K.box; rfl; rfl; rfl)); clear K r; (first | (have := b6; clear this; intro W b7 K) | (have := b5; clear this; intro W b6 K) | (have := b4; clear this; intro W b5 K) | (have := b3; clear this; intro W b4 K) | (have := b2; clear this; intro W b3 K) | (have := b1; clear this; intro W b2 K) | (have := b0; clear this; intro W b1 K) | intro W b0 K); have r := K.rawS) | (apply K.storeA; rfl; rfl; rfl; rfl; rfl; (repeat (first | with_reducible exact Upd.head _ | with_reducible apply Upd.tail)); (first | with_reducible exact big_size | with_reducible exact frac_size); rfl; rfl; rfl; clear K r; intro W K; have r := K.rawS))
  refine (HB1.out _ (by first | exact Rd.nil | exact K.rda) (by first | exact Rd.nil | exact K.rda) (by first | exact Rd.nil | exact K.rda) (by first | exact Rd.nil | exact K.rda)).mono ?_
  rintro e W' ⟨s4, A4, n4, c4, l4, t4, B4, m4, d4, k4, rfl, ⟨hra, hrb⟩, hs4, ⟨hfa, hfb⟩, hb⟩
  replace K := K.retF hb hra hrb hfa hfb
  clear r
  have r := K.rawS
  clear hra hrb hfa hfb hb
  go_wp2_with (first | ((first | (apply K.alloc; rfl; rfl; (first | with_reducible exact big_zero | with_reducible exact frac_zero)) | (apply K.box; rfl; rfl; rfl)); clear K r; (first | (have := b6; clear this; intro W b7 K) | (have := b5; clear this; intro W b6 K) | (have := b4; clear this; intro W b5 K) | (have := b3; clear this; intro W b4 K) | (have := b2; clear this; intro W b3 K) | (have := b1; clear this; intro W b2 K) | (have := b0; clear this; intro W b1 K) | intro W b0 K); have r := K.rawS) | (apply K.storeA; rfl; rfl; rfl; rfl; rfl; (repeat (first | with_reducible exact Upd.head _ | with_reducible apply Upd.tail)); (first | with_reducible exact big_size | with_reducible exact frac_size); rfl; rfl; rfl; clear K r; intro W K; have r := K.rawS))
  refine (HA2.out _ (by first | exact Rd.nil | exact K.rda) (by first | exact Rd.nil | exact K.rda) (by first | exact Rd.nil | exact K.rda) (by first | exact Rd.nil | exact K.rda)).mono ?_
  rintro e W' ⟨s5, A5, n5, c5, l5, t5, B5, m5, d5, k5, rfl, ⟨hra, hrb⟩, hs5, ⟨hfa, hfb⟩, hb⟩
  replace K := K.retF hb hra hrb hfa hfb
  clear r
  have r := K.rawS
  clear hra hrb hfa hfb hb
  go_wp2_with (first | ((first | (apply K.alloc; rfl; rfl; (first | with_reducible exact big_zero | with_reducible exact frac_zero)) | (apply K.box; rfl; rfl; rfl)); clear K r; (first | (have := b6; clear this; intro W b7 K) | (have := b5; clear this; intro W b6 K) | (have := b4; clear this; intro W b5 K) | (have := b3; clear this; intro W b4 K) | (have := b2; clear this; intro W b3 K) | (have := b1; clear this; intro W b2 K) | (have := b0; clear this; intro W b1 K) | intro W b0 K); have r := K.rawS) | (apply K.storeA; rfl; rfl; rfl; rfl; rfl; (repeat (first | with_reducible exact Upd.head _ | with_reducible apply Upd.tail)); (first | with_reducible exact big_size | with_reducible exact frac_size); rfl; rfl; rfl; clear K r; intro W K; have r := K.rawS))
  refine (HB2.out _ (by first | exact Rd.nil | exact K.rda) (by first | exact Rd.nil | exact K.rda) (by first | exact Rd.nil | exact K.rda) (by first | exact Rd.nil | exact K.rda)).mono ?_
  rintro e W' ⟨s6, A6, n6, c6, l6, t6, B6, m6, d6, k6, rfl, ⟨hra, hrb⟩, hs6, ⟨hfa, hfb⟩, hb⟩
  replace K := K.retF hb hra hrb hfa hfb
  clear r
  have r := K.rawS
  clear hra hrb hfa hfb hb
  clear HA1 HB1 HA2 HB2
  go_wp2_with (first | ((first | (apply K.alloc; rfl; rfl; (first | with_reducible exact big_zero | with_reducible exact frac_zero)) | (apply K.box; rfl; rfl; rfl)); clear K r; (first | (have := b6; clear this; intro W b7 K) | (have := b5; clear this; intro W b6 K) | (have := b4; clear this; intro W b5 K) | (have := b3; clear this; intro W b4 K) | (have := b2; clear this; intro W b3 K) | (have := b1; clear this; intro W b2 K) | (have := b0; clear this; intro W b1 K) | intro W b0 K); have r := K.rawS) | (apply K.storeA; rfl; rfl; rfl; rfl; rfl; (repeat (first | with_reducible exact Upd.head _ | with_reducible apply Upd.tail)); (first | with_reducible exact big_size | with_reducible exact frac_size); rfl; rfl; rfl; clear K r; intro W K; have r := K.rawS))
  refine (gSameO _ _ _ _ _ _ _ _ _ _ _ _ _ _ _ _ _ _ _ _ _ _ (by first | exact Rd.nil | exact K.rda) (by first | exact Rd.nil | exact K.rda) (by first | exact Rd.nil | exact K.rda) (by first | exact Rd.nil | exact K.rda) hs3 hs4).mono ?_
  rintro e W' ⟨rfl, hb⟩
  replace K := K.keep hb
  clear r
  have r := K.rawS
  clear hb
  go_wp2_with (first | ((first | (apply K.alloc; rfl; rfl; (first | with_reducible exact big_zero | with_reducible exact frac_zero)) | (apply K.box; rfl; rfl; rfl)); clear K r; (first | (have := b6; clear this; intro W b7 K) | (have := b5; clear this; intro W b6 K) | (have := b4; clear this; intro W b5 K) | (have := b3; clear this; intro W b4 K) | (have := b2; clear this; intro W b3 K) | (have := b1; clear this; intro W b2 K) | (have := b0; clear this; intro W b1 K) | intro W b0 K); have r := K.rawS) | (apply K.storeA; rfl; rfl; rfl; rfl; rfl; (repeat (first | with_reducible exact Upd.head _ | with_reducible apply Upd.tail)); (first | with_reducible exact big_size | with_reducible exact frac_size); rfl; rfl; rfl; clear K r; intro W K; have r := K.rawS))
  refine (gSameO _ _ _ _ _ _ _ _ _ _ _ _ _ _ _ _ _ _ _ _ _ _ (by first | exact Rd.nil | exact K.rda) (by first | exact Rd.nil | exact K.rda) (by first | exact Rd.nil | exact K.rda) (by first | exact Rd.nil | exact K.rda) hs5 hs6).mono ?_
  rintro e W' ⟨rfl, hb⟩
  replace K := K.keep hb
  clear r
  have r := K.rawS
  clear hb
  clear hs3 hs4 hs5 hs6
  replace K := K.less (D' := [⟨rdP B2 m2 d2 k2, oldS w⟩, ⟨rdP A2 n2 c2 l2, oldS w⟩, ⟨rdP B1 m1 d1 k1, oldS w⟩, ⟨rdP A1 n1 c1 l1, oldS w⟩]) (by simp only [List.mem_cons, List.not_mem_nil, or_false, forall_eq_or_imp, forall_eq, true_or, or_true, and_self])
  clear r
  have r := K.rawS
  go_wp2_with (first | ((first | (apply K.alloc; rfl; rfl; (first | with_reducible exact big_zero | with_reducible exact frac_zero)) | (apply K.box; rfl; rfl; rfl)); clear K r; (first | (have := b6; clear this; intro W b7 K) | (have := b5; clear this; intro W b6 K) | (have := b4; clear this; intro W b5 K) | (have := b3; clear this; intro W b4 K) | (have := b2; clear this; intro W b3 K) | (have := b1; clear this; intro W b2 K) | (have := b0; clear this; intro W b1 K) | intro W b0 K); have r := K.rawS) | (apply K.storeA; rfl; rfl; rfl; rfl; rfl; (repeat (first | with_reducible exact Upd.head _ | with_reducible apply Upd.tail)); (first | with_reducible exact big_size | with_reducible exact frac_size); rfl; rfl; rfl; clear K r; intro W K; have r := K.rawS))
  refine (HA3.out _ (by first | exact Rd.nil | exact K.rda) (by first | exact Rd.nil | exact K.rda) (by first | exact Rd.nil | exact K.rda) (by first | exact Rd.nil | exact K.rda)).mono ?_
  rintro e W' ⟨s7, A7, n7, c7, l7, t7, B7, m7, d7, k7, rfl, ⟨hra, hrb⟩, hs7, ⟨hfa, hfb⟩, hb⟩
  replace K := K.retF hb hra hrb hfa hfb
  clear r
  have r := K.rawS
  clear hra hrb hfa hfb hb
  go_wp2_with (first | ((first | (apply K.alloc; rfl; rfl; (first | with_reducible exact big_zero | with_reducible exact frac_zero)) | (apply K.box; rfl; rfl; rfl)); clear K r; (first | (have := b6; clear this; intro W b7 K) | (have := b5; clear this; intro W b6 K) | (have := b4; clear this; intro W b5 K) | (have := b3; clear this; intro W b4 K) | (have := b2; clear this; intro W b3 K) | (have := b1; clear this; intro W b2 K) | (have := b0; clear this; intro W b1 K) | intro W b0 K); have r := K.rawS) | (apply K.storeA; rfl; rfl; rfl; rfl; rfl; (repeat (first | with_reducible exact Upd.head _ | with_reducible apply Upd.tail)); (first | with_reducible exact big_size | with_reducible exact frac_size); rfl; rfl; rfl; clear K r; intro W K; have r := K.rawS))
  refine (HB3.out _ (by first | exact Rd.nil | exact K.rda) (by first | exact Rd.nil | exact K.rda) (by first | exact Rd.nil | exact K.rda) (by first | exact Rd.nil | exact K.rda)).mono ?_
  rintro e W' ⟨s8, A8, n8, c8, l8, t8, B8, m8, d8, k8, rfl, ⟨hra, hrb⟩, hs8, ⟨hfa, hfb⟩, hb⟩
  replace K := K.retF hb hra hrb hfa hfb
  clear r
  have r := K.rawS
  clear hra hrb hfa hfb hb
  go_wp2_with (first | ((first | (apply K.alloc; rfl; rfl; (first | with_reducible exact big_zero | with_reducible exact frac_zero)) | (apply K.box; rfl; rfl; rfl)); clear K r; (first | (have := b6; clear this; intro W b7 K) | (have := b5; clear this; intro W b6 K) | (have := b4; clear this; intro W b5 K) | (have := b3; clear this; intro W b4 K) | (have := b2; clear this; intro W b3 K) | (have := b1; clear this; intro W b2 K) | (have := b0; clear this; intro W b1 K) | intro W b0 K); have r := K.rawS) | (apply K.storeA; rfl; rfl; rfl; rfl; rfl; (repeat (first | with_reducible exact Upd.head _ | with_reducible apply Upd.tail)); (first | with_reducible exact big_size | with_reducible exact frac_size); rfl; rfl; rfl; clear K r; intro W K; have r := K.rawS))
  refine (HA4.out _ (by first | exact Rd.nil | exact K.rda) (by first | exact Rd.nil | exact K.rda) (by first | exact Rd.nil | exact K.rda) (by first | exact Rd.nil | exact K.rda)).mono ?_
  rintro e W' ⟨s9, A9, n9, c9, l9, t9, B9, m9, d9, k9, rfl, ⟨hra, hrb⟩, hs9, ⟨hfa, hfb⟩, hb⟩
  replace K := K.retF hb hra hrb hfa hfb
  clear r
  have r := K.rawS
  clear hra hrb hfa hfb hb
  go_wp2_with (first | ((first | (apply K.alloc; rfl; rfl; (first | with_reducible exact big_zero | with_reducible exact frac_zero)) | (apply K.box; rfl; rfl; rfl)); clear K r; (first | (have := b6; clear this; intro W b7 K) | (have := b5; clear this; intro W b6 K) | (have := b4; clear this; intro W b5 K) | (have := b3; clear this; intro W b4 K) | (have := b2; clear this; intro W b3 K) | (have := b1; clear this; intro W b2 K) | (have := b0; clear this; intro W b1 K) | intro W b0 K); have r := K.rawS) | (apply K.storeA; rfl; rfl; rfl; rfl; rfl; (repeat (first | with_reducible exact Upd.head _ | with_reducible apply Upd.tail)); (first | with_reducible exact big_size | with_reducible exact frac_size); rfl; rfl; rfl; clear K r; intro W K; have r := K.rawS))
  refine (HB4.out _ (by first | exact Rd.nil | exact K.rda) (by first | exact Rd.nil | exact K.rda) (by first | exact Rd.nil | exact K.rda) (by first | exact Rd.nil | exact K.rda)).mono ?_
  rintro e W' ⟨s10, A10, n10, c10, l10, t10, B10, m10, d10, k10, rfl, ⟨hra, hrb⟩, hs10, ⟨hfa, hfb⟩, hb⟩
  replace K := K.retF hb hra hrb hfa hfb
  clear r
  have r := K.rawS
  clear hra hrb hfa hfb hb
  clear HA3 HB3 HA4 HB4
  go_wp2_with (first | ((first | (apply K.alloc; rfl; rfl; (first | with_reducible exact big_zero | with_reducible exact frac_zero)) | (apply K.box; rfl; rfl; rfl)); clear K r; (first | (have := b6; clear this; intro W b7 K) | (have := b5; clear this; intro W b6 K) | (have := b4; clear this; intro W b5 K) | (have := b3; clear this; intro W b4 K) | (have := b2; clear this; intro W b3 K) | (have := b1; clear this; intro W b2 K) | (have := b0; clear this; intro W b1 K) | intro W b0 K); have r := K.rawS) | (apply K.storeA; rfl; rfl; rfl; rfl; rfl; (repeat (first | with_reducible exact Upd.head _ | with_reducible apply Upd.tail)); (first | with_reducible exact big_size | with_reducible exact frac_size); rfl; rfl; rfl; clear K r; intro W K; have r := K.rawS))
  refine (gSameO _ _ _ _ _ _ _ _ _ _ _ _ _ _ _ _ _ _ _ _ _ _ (by first | exact Rd.nil | exact K.rda) (by first | exact Rd.nil | exact K.rda) (by first | exact Rd.nil | exact K.rda) (by first | exact Rd.nil | exact K.rda) hs7 hs8).mono ?_
  rintro e W' ⟨rfl, hb⟩
  replace K := K.keep hb
  clear r
  have r := K.rawS
  clear hb
  go_wp2_with (first | ((first | (apply K.alloc; rfl; rfl; (first | with_reducible exact big_zero | with_reducible exact frac_zero)) | (apply K.box; rfl; rfl; rfl)); clear K r; (first | (have := b6; clear this; intro W b7 K) | (have := b5; clear this; intro W b6 K) | (have := b4; clear this; intro W b5 K) | (have := b3; clear this; intro W b4 K) | (have := b2; clear this; intro W b3 K) | (have := b1; clear this; intro W b2 K) | (have := b0; clear this; intro W b1 K) | intro W b0 K); have r := K.rawS) | (apply K.storeA; rfl; rfl; rfl; rfl; rfl; (repeat (first | with_reducible exact Upd.head _ | with_reducible apply Upd.tail)); (first | with_reducible exact big_size | with_reducible exact frac_size); rfl; rfl; rfl; clear K r; intro W K; have r := K.rawS))
  refine (gSameO _ _ _ _ _ _ _ _ _ _ _ _ _ _ _ _ _ _ _ _ _ _ (by first | exact Rd.nil | exact K.rda) (by first | exact Rd.nil | exact K.rda) (by first | exact Rd.nil | exact K.rda) (by first | exact Rd.nil | exact K.rda) hs9 hs10).mono ?_
  rintro e W' ⟨rfl, hb⟩
  replace K := K.keep hb
  clear r
  have r := K.rawS
  clear hb
  clear hs7 hs8 hs9 hs10
  replace K := K.less (D' := [⟨rdP B2 m2 d2 k2, oldS w⟩, ⟨rdP A2 n2 c2 l2, oldS w⟩, ⟨rdP B1 m1 d1 k1, oldS w⟩, ⟨rdP A1 n1 c1 l1, oldS w⟩]) (by simp only [List.mem_cons, List.not_mem_nil, or_false, forall_eq_or_imp, forall_eq, true_or, or_true, and_self])
  clear r
  have r := K.rawS
  trace "TELLS A"
  go_wp2_with (first | ((first | (apply K.alloc; rfl; rfl; (first | with_reducible exact big_zero | with_reducible exact frac_zero)) | (apply K.box; rfl; rfl; rfl)); clear K r; (first | (have := b6; clear this; intro W b7 K) | (have := b5; clear this; intro W b6 K) | (have := b4; clear this; intro W b5 K) | (have := b3; clear this; intro W b4 K) | (have := b2; clear this; intro W b3 K) | (have := b1; clear this; intro W b2 K) | (have := b0; clear this; intro W b1 K) | intro W b0 K); have r := K.rawS) | (apply K.storeA; rfl; rfl; rfl; rfl; rfl; (repeat (first | with_reducible exact Upd.head _ | with_reducible apply Upd.tail)); (first | with_reducible exact big_size | with_reducible exact frac_size); rfl; rfl; rfl; clear K r; intro W K; have r := K.rawS))
  refine (HA5.out _).mono ?_
  rintro e W' ⟨s11, A11, n11, c11, l11, t11, B11, m11, d11, k11, rfl, ⟨hra, hrb⟩, hs11, ⟨hfa, hfb⟩, hb⟩
  replace K := K.retF hb hra hrb hfa hfb
  clear r
  have r := K.rawS
  clear hra hrb hfa hfb hb
  go_wp2_with (first | ((first | (apply K.alloc; rfl; rfl; (first | with_reducible exact big_zero | with_reducible exact frac_zero)) | (apply K.box; rfl; rfl; rfl)); clear K r; (first | (have := b6; clear this; intro W b7 K) | (have := b5; clear this; intro W b6 K) | (have := b4; clear this; intro W b5 K) | (have := b3; clear this; intro W b4 K) | (have := b2; clear this; intro W b3 K) | (have := b1; clear this; intro W b2 K) | (have := b0; clear this; intro W b1 K) | intro W b0 K); have r := K.rawS) | (apply K.storeA; rfl; rfl; rfl; rfl; rfl; (repeat (first | with_reducible exact Upd.head _ | with_reducible apply Upd.tail)); (first | with_reducible exact big_size | with_reducible exact frac_size); rfl; rfl; rfl; clear K r; intro W K; have r := K.rawS))
  refine (HB5.out _).mono ?_
  rintro e W' ⟨s12, A12, n12, c12, l12, t12, B12, m12, d12, k12, rfl, ⟨hra, hrb⟩, hs12, ⟨hfa, hfb⟩, hb⟩
  replace K := K.retF hb hra hrb hfa hfb
  clear r
  have r := K.rawS
  clear hra hrb hfa hfb hb
  go_wp2_with (first | ((first | (apply K.alloc; rfl; rfl; (first | with_reducible exact big_zero | with_reducible exact frac_zero)) | (apply K.box; rfl; rfl; rfl)); clear K r; (first | (have := b6; clear this; intro W b7 K) | (have := b5; clear this; intro W b6 K) | (have := b4; clear this; intro W b5 K) | (have := b3; clear this; intro W b4 K) | (have := b2; clear this; intro W b3 K) | (have := b1; clear this; intro W b2 K) | (have := b0; clear this; intro W b1 K) | intro W b0 K); have r := K.rawS) | (apply K.storeA; rfl; rfl; rfl; rfl; rfl; (repeat (first | with_reducible exact Upd.head _ | with_reducible apply Upd.tail)); (first | with_reducible exact big_size | with_reducible exact frac_size); rfl; rfl; rfl; clear K r; intro W K; have r := K.rawS))
  refine (HR1.out _ K.1).mono ?_
  rintro e W' ⟨o7, ho7, s13, A13, n13, c13, l13, t13, B13, m13, d13, k13, rfl, ⟨hra, hrb⟩, hs13, ⟨hfa, hfb⟩, hb⟩
  replace K := K.retF hb hra hrb hfa hfb
  clear r
  have r := K.rawS
  clear hra hrb hfa hfb hb
  go_wp2_with (first | ((first | (apply K.alloc; rfl; rfl; (first | with_reducible exact big_zero | with_reducible exact frac_zero)) | (apply K.box; rfl; rfl; rfl)); clear K r; (first | (have := b6; clear this; intro W b7 K) | (have := b5; clear this; intro W b6 K) | (have := b4; clear this; intro W b5 K) | (have := b3; clear this; intro W b4 K) | (have := b2; clear this; intro W b3 K) | (have := b1; clear this; intro W b2 K) | (have := b0; clear this; intro W b1 K) | intro W b0 K); have r := K.rawS) | (apply K.storeA; rfl; rfl; rfl; rfl; rfl; (repeat (first | with_reducible exact Upd.head _ | with_reducible apply Upd.tail)); (first | with_reducible exact big_size | with_reducible exact frac_size); rfl; rfl; rfl; clear K r; intro W K; have r := K.rawS))
  refine (HR2.out _).mono ?_
  rintro e W' ⟨o8, ho8, s14, A14, n14, c14, l14, t14, B14, m14, d14, k14, rfl, ⟨hra, hrb⟩, hs14, ⟨hfa, hfb⟩, hb⟩
  have h78 := ho8.unique ho7
  subst h78
  clear ho7 ho8 HR1 HR2 HA5 HB5
  replace K := K.retF hb hra hrb hfa hfb
  clear r
  have r := K.rawS
  clear hra hrb hfa hfb hb
  generalize readC o8 = e7 at *
  have he7 : (e7 == e7) = true := beq_self_eq_true _
  go_wp2_with (first | ((first | (apply K.alloc; rfl; rfl; (first | with_reducible exact big_zero | with_reducible exact frac_zero)) | (apply K.box; rfl; rfl; rfl)); clear K r; (first | (have := b6; clear this; intro W b7 K) | (have := b5; clear this; intro W b6 K) | (have := b4; clear this; intro W b5 K) | (have := b3; clear this; intro W b4 K) | (have := b2; clear this; intro W b3 K) | (have := b1; clear this; intro W b2 K) | (have := b0; clear this; intro W b1 K) | intro W b0 K); have r := K.rawS) | (apply K.storeA; rfl; rfl; rfl; rfl; rfl; (repeat (first | with_reducible exact Upd.head _ | with_reducible apply Upd.tail)); (first | with_reducible exact big_size | with_reducible exact frac_size); rfl; rfl; rfl; clear K r; intro W K; have r := K.rawS))
  refine (gSameO _ _ _ _ _ _ _ _ _ _ _ _ _ _ _ _ _ _ _ _ _ _ (by first | exact Rd.nil | exact K.rda) (by first | exact Rd.nil | exact K.rda) (by first | exact Rd.nil | exact K.rda) (by first | exact Rd.nil | exact K.rda) hs11 hs12).mono ?_
  rintro e W' ⟨rfl, hb⟩
  replace K := K.keep hb
  clear r
  have r := K.rawS
  clear hb
  go_wp2_with (first | ((first | (apply K.alloc; rfl; rfl; (first | with_reducible exact big_zero | with_reducible exact frac_zero)) | (apply K.box; rfl; rfl; rfl)); clear K r; (first | (have := b6; clear this; intro W b7 K) | (have := b5; clear this; intro W b6 K) | (have := b4; clear this; intro W b5 K) | (have := b3; clear this; intro W b4 K) | (have := b2; clear this; intro W b3 K) | (have := b1; clear this; intro W b2 K) | (have := b0; clear this; intro W b1 K) | intro W b0 K); have r := K.rawS) | (apply K.storeA; rfl; rfl; rfl; rfl; rfl; (repeat (first | with_reducible exact Upd.head _ | with_reducible apply Upd.tail)); (first | with_reducible exact big_size | with_reducible exact frac_size); rfl; rfl; rfl; clear K r; intro W K; have r := K.rawS))
  refine (gSameO _ _ _ _ _ _ _ _ _ _ _ _ _ _ _ _ _ _ _ _ _ _ (by first | exact Rd.nil | exact K.rda) (by first | exact Rd.nil | exact K.rda) (by first | exact Rd.nil | exact K.rda) (by first | exact Rd.nil | exact K.rda) hs13 hs14).mono ?_
  rintro e W' ⟨rfl, hb⟩
  replace K := K.keep hb
  clear r
  have r := K.rawS
  clear hb
  clear hs11 hs12 hs13 hs14
  replace K := K.less (D' := [⟨rdP B2 m2 d2 k2, oldS w⟩, ⟨rdP A2 n2 c2 l2, oldS w⟩, ⟨rdP B1 m1 d1 k1, oldS w⟩, ⟨rdP A1 n1 c1 l1, oldS w⟩]) (by simp only [List.mem_cons, List.not_mem_nil, or_false, forall_eq_or_imp, forall_eq, true_or, or_true, and_self])
  clear r
  have r := K.rawS
  trace "TELLS B"
  go_wp2_with (first | ((first | (apply K.alloc; rfl; rfl; (first | with_reducible exact big_zero | with_reducible exact frac_zero)) | (apply K.box; rfl; rfl; rfl)); clear K r; (first | (have := b6; clear this; intro W b7 K) | (have := b5; clear this; intro W b6 K) | (have := b4; clear this; intro W b5 K) | (have := b3; clear this; intro W b4 K) | (have := b2; clear this; intro W b3 K) | (have := b1; clear this; intro W b2 K) | (have := b0; clear this; intro W b1 K) | intro W b0 K); have r := K.rawS) | (apply K.storeA; rfl; rfl; rfl; rfl; rfl; (repeat (first | with_reducible exact Upd.head _ | with_reducible apply Upd.tail)); (first | with_reducible exact big_size | with_reducible exact frac_size); rfl; rfl; rfl; clear K r; intro W K; have r := K.rawS))
  refine (HA6.out _ (by first | exact Rd.nil | exact K.rda) (by first | exact Rd.nil | exact K.rda)).mono ?_
  rintro e W' ⟨s15, A15, n15, c15, l15, t15, B15, m15, d15, k15, rfl, ⟨hra, hrb⟩, hs15, ⟨hfa, hfb⟩, hb⟩
  replace K := K.retF hb hra hrb hfa hfb
  clear r
  have r := K.rawS
  clear hra hrb hfa hfb hb
  go_wp2_with (first | ((first | (apply K.alloc; rfl; rfl; (first | with_reducible exact big_zero | with_reducible exact frac_zero)) | (apply K.box; rfl; rfl; rfl)); clear K r; (first | (have := b6; clear this; intro W b7 K) | (have := b5; clear this; intro W b6 K) | (have := b4; clear this; intro W b5 K) | (have := b3; clear this; intro W b4 K) | (have := b2; clear this; intro W b3 K) | (have := b1; clear this; intro W b2 K) | (have := b0; clear this; intro W b1 K) | intro W b0 K); have r := K.rawS) | (apply K.storeA; rfl; rfl; rfl; rfl; rfl; (repeat (first | with_reducible exact Upd.head _ | with_reducible apply Upd.tail)); (first | with_reducible exact big_size | with_reducible exact frac_size); rfl; rfl; rfl; clear K r; intro W K; have r := K.rawS))
  refine (HB6.out _ (by first | exact Rd.nil | exact K.rda) (by first | exact Rd.nil | exact K.rda)).mono ?_
  rintro e W' ⟨s16, A16, n16, c16, l16, t16, B16, m16, d16, k16, rfl, ⟨hra, hrb⟩, hs16, ⟨hfa, hfb⟩, hb⟩
  replace K := K.retF hb hra hrb hfa hfb
  clear r
  have r := K.rawS
  clear hra hrb hfa hfb hb
  clear HA6 HB6
  go_upto_region 21 with (first | ((first | (apply K.alloc; rfl; rfl; (first | with_reducible exact big_zero | with_reducible exact frac_zero)) | (apply K.box; rfl; rfl; rfl)); clear K r; (first | (have := b6; clear this; intro W b7 K) | (have := b5; clear this; intro W b6 K) | (have := b4; clear this; intro W b5 K) | (have := b3; clear this; intro W b4 K) | (have := b2; clear this; intro W b3 K) | (have := b1; clear this; intro W b2 K) | (have := b0; clear this; intro W b1 K) | intro W b0 K); have r := K.rawS) | (apply K.storeA; rfl; rfl; rfl; rfl; rfl; (repeat (first | with_reducible exact Upd.head _ | with_reducible apply Upd.tail)); (first | with_reducible exact big_size | with_reducible exact frac_size); rfl; rfl; rfl; clear K r; intro W K; have r := K.rawS))
  trace "TELLS C"
  obtain ⟨KS, X0, XK, XF, XS⟩ := K.pack2 (fun W => ((W.cell? ⟨b0, 0, none⟩ = some (.int .i64 s1) ∧ W.cell? ⟨b0, 1, none⟩ = some (.slice A1 n1 c1) ∧ W.cell? ⟨b0, 2, none⟩ = some (.int .i64 t1) ∧ W.cell? ⟨b0, 3, none⟩ = some (.slice B1 m1 d1)) ∧ (W.cell? ⟨b1, 0, none⟩ = some (.int .i64 s2) ∧ W.cell? ⟨b1, 1, none⟩ = some (.slice A2 n2 c2) ∧ W.cell? ⟨b1, 2, none⟩ = some (.int .i64 t2) ∧ W.cell? ⟨b1, 3, none⟩ = some (.slice B2 m2 d2)) ∧ (W.cell? ⟨b2, 0, none⟩ = some (.int .i64 s15) ∧ W.cell? ⟨b2, 1, none⟩ = some (.slice A15 n15 c15) ∧ W.cell? ⟨b2, 2, none⟩ = some (.int .i64 t15) ∧ W.cell? ⟨b2, 3, none⟩ = some (.slice B15 m15 d15)) ∧ (W.cell? ⟨b3, 0, none⟩ = some (.int .i64 s16) ∧ W.cell? ⟨b3, 1, none⟩ = some (.slice A16 n16 c16) ∧ W.cell? ⟨b3, 2, none⟩ = some (.int .i64 t16) ∧ W.cell? ⟨b3, 3, none⟩ = some (.slice B16 m16 d16)))) (fun W K => by
    have r := K.raw
    simp only [Raw, RawC, and_true, true_and, Nat.zero_add, Nat.reduceAdd] at r
    simp only [r, and_self])
  obtain ⟨ι, f, hne, hfw, hfk, hfc⟩ := cls_st KS _ X0 (fun W h => XK W W.drew h (Below.refl _ _).drew)
  have QS := Lib.hid (fun q => (gSameO _ _ _ _ _ _ _ _ _ _ _ _ _ _ _ _ _ _ _ _ _ (f q) ((XS _ (hfk q)).rd (by repeat (first | with_reducible exact List.mem_cons_self | with_reducible apply List.mem_cons_of_mem))) ((XS _ (hfk q)).rd (by repeat (first | with_reducible exact List.mem_cons_self | with_reducible apply List.mem_cons_of_mem))) ((XS _ (hfk q)).rd (by repeat (first | with_reducible exact List.mem_cons_self | with_reducible apply List.mem_cons_of_mem))) ((XS _ (hfk q)).rd (by repeat (first | with_reducible exact List.mem_cons_self | with_reducible apply List.mem_cons_of_mem))) hs15 hs16).mono fun e w'' ⟨he, hb⟩ => (⟨he, hfc _ (XK _ _ (hfk q) hb)⟩ : e = Ending.returned (.bool true) ∧ ∃ s, w'' = f s))
  have QR := Lib.hid (fun q => (HG1.out (f q) ((XS _ (hfk q)).rd (by repeat (first | with_reducible exact List.mem_cons_self | with_reducible apply List.mem_cons_of_mem))) ((XS _ (hfk q)).rd (by repeat (first | with_reducible exact List.mem_cons_self | with_reducible apply List.mem_cons_of_mem)))).mono fun e w'' ⟨he, hb⟩ => (⟨he, hfc _ (XK _ _ (hfk q) hb)⟩ : e = Ending.returned (.bool R) ∧ ∃ s, w'' = f s))
  have QT := Lib.hid (fun q => (HG2.out (f q) ((XS _ (hfk q)).rd (by repeat (first | with_reducible exact List.mem_cons_self | with_reducible apply List.mem_cons_of_mem))) ((XS _ (hfk q)).rd (by repeat (first | with_reducible exact List.mem_cons_self | with_reducible apply List.mem_cons_of_mem)))).mono fun e w'' ⟨he, hb⟩ => (⟨he, hfc _ (XK _ _ (hfk q) hb)⟩ : e = Ending.returned (.bool R) ∧ ∃ s, w'' = f s))
  have QC := Lib.hid (fun q => (HC1.out (f q) ((XS _ (hfk q)).rd (by repeat (first | with_reducible exact List.mem_cons_self | with_reducible apply List.mem_cons_of_mem))) ((XS _ (hfk q)).rd (by repeat (first | with_reducible exact List.mem_cons_self | with_reducible apply List.mem_cons_of_mem))) ((XS _ (hfk q)).rd (by repeat (first | with_reducible exact List.mem_cons_self | with_reducible apply List.mem_cons_of_mem))) ((XS _ (hfk q)).rd (by repeat (first | with_reducible exact List.mem_cons_self | with_reducible apply List.mem_cons_of_mem)))).mono fun e w'' ⟨he, hb⟩ => (⟨he, hfc _ (XK _ _ (hfk q) hb)⟩ : e = Ending.returned (.int .i64 C) ∧ ∃ s, w'' = f s))
  have QD := Lib.hid (fun q => (HC2.out (f q) ((XS _ (hfk q)).rd (by repeat (first | with_reducible exact List.mem_cons_self | with_reducible apply List.mem_cons_of_mem))) ((XS _ (hfk q)).rd (by repeat (first | with_reducible exact List.mem_cons_self | with_reducible apply List.mem_cons_of_mem))) ((XS _ (hfk q)).rd (by repeat (first | with_reducible exact List.mem_cons_self | with_reducible apply List.mem_cons_of_mem))) ((XS _ (hfk q)).rd (by repeat (first | with_reducible exact List.mem_cons_self | with_reducible apply List.mem_cons_of_mem)))).mono fun e w'' ⟨he, hb⟩ => (⟨he, hfc _ (XK _ _ (hfk q) hb)⟩ : e = Ending.returned (.int .i64 C) ∧ ∃ s, w'' = f s))
  have c0 := fun n => (XF _ (hfk n)).1.1
  have c1' := fun n => (XF _ (hfk n)).1.2.1
  have c2' := fun n => (XF _ (hfk n)).1.2.2.1
  have c3 := fun n => (XF _ (hfk n)).1.2.2.2
  have c4 := fun n => (XF _ (hfk n)).2.1.1
  have c5 := fun n => (XF _ (hfk n)).2.1.2.1
  have c6 := fun n => (XF _ (hfk n)).2.1.2.2.1
  have c7 := fun n => (XF _ (hfk n)).2.1.2.2.2
  have c8 := fun n => (XF _ (hfk n)).2.2.1.1
  have c9 := fun n => (XF _ (hfk n)).2.2.1.2.1
  have c10 := fun n => (XF _ (hfk n)).2.2.1.2.2.1
  have c11 := fun n => (XF _ (hfk n)).2.2.1.2.2.2
  have c12 := fun n => (XF _ (hfk n)).2.2.2.1
  have c13 := fun n => (XF _ (hfk n)).2.2.2.2.1
  have c14 := fun n => (XF _ (hfk n)).2.2.2.2.2.1
  have c15 := fun n => (XF _ (hfk n)).2.2.2.2.2.2
  have XSt := Lib.hid (fun n => XS _ (hfk n))
  have Hfw := Lib.hid hfw
  clear XF XK XS K r hfk hfc hfw X0 hs15 hs16 HC1 HC2 HG1 HG2
  refine wp_region_cls (C := fun w' => ∃ n, w' = f n) (by kernel_rfl) (by kernel_rfl) Hfw.out ?_
  repeat (first
    | go_big_quiet_skip
    | (go_big_quiet_want; go_big_quiet_op; first | go_big_quiet_on | go_big_quiet_call (first
      | (go_at_call 43; with_reducible exact QS.out _)
      | (go_at_call 54; with_reducible exact QR.out _)
      | (go_at_call 55; with_reducible exact QT.out _)
      | (go_at_call 56; with_reducible exact QC.out _)
      | (go_at_call 57; with_reducible exact QD.out _))))
  refine wpQuiet_nil ?_
  rintro _ ⟨nq, rfl⟩
  have K := XSt.out nq
  clear XSt Hfw QS QR QT QC QD c0 c1' c2' c3 c4 c5 c6 c7 c8 c9 c10 c11 c12 c13 c14 c15
  have r := K.rawS
  trace "TELLS D"
  go_upto_region 22 with (first | ((first | (apply K.alloc; rfl; rfl; (first | with_reducible exact big_zero | with_reducible exact frac_zero)) | (apply K.box; rfl; rfl; rfl)); clear K r; (first | (have := b6; clear this; intro W b7 K) | (have := b5; clear this; intro W b6 K) | (have := b4; clear this; intro W b5 K) | (have := b3; clear this; intro W b4 K) | (have := b2; clear this; intro W b3 K) | (have := b1; clear this; intro W b2 K) | (have := b0; clear this; intro W b1 K) | intro W b0 K); have r := K.rawS) | (apply K.storeA; rfl; rfl; rfl; rfl; rfl; (repeat (first | with_reducible exact Upd.head _ | with_reducible apply Upd.tail)); (first | with_reducible exact big_size | with_reducible exact frac_size); rfl; rfl; rfl; clear K r; intro W K; have r := K.rawS))
  trace_state
  obtain ⟨KS, X0, XK, XF, XS⟩ := K.pack2 (fun W => ((W.cell? ⟨b0, 0, none⟩ = some (.int .i64 s1) ∧ W.cell? ⟨b0, 1, none⟩ = some (.slice A1 n1 c1) ∧ W.cell? ⟨b0, 2, none⟩ = some (.int .i64 t1) ∧ W.cell? ⟨b0, 3, none⟩ = some (.slice B1 m1 d1)))) (fun W K => by
    have r := K.raw
    simp only [Raw, RawC, and_true, true_and, Nat.zero_add, Nat.reduceAdd] at r
    simp only [r, and_self])
  have HSx := Lib.hid (fun W (h : KS W) => (show KS W ∧ ((W.cell? ⟨b0, 0, none⟩ = some (.int .i64 s1) ∧ W.cell? ⟨b0, 1, none⟩ = some (.slice A1 n1 c1) ∧ W.cell? ⟨b0, 2, none⟩ = some (.int .i64 t1) ∧ W.cell? ⟨b0, 3, none⟩ = some (.slice B1 m1 d1))) from ⟨h, XF W h⟩))
  have XD := Lib.hid (fun W (h : KS W) => XK W W.drew h (Below.refl _ _).drew)
  have XSt := Lib.hid XS
  have Q1 := Lib.hid (fun W (h : KS W) => (HX1.out W ((XS W h).rd (by repeat (first | with_reducible exact List.mem_cons_self | with_reducible apply List.mem_cons_of_mem))) ((XS W h).rd (by repeat (first | with_reducible exact List.mem_cons_self | with_reducible apply List.mem_cons_of_mem))) (HT.out.1.on (XS W h).1)).mono fun e W' ⟨he, hb⟩ => (⟨he, XK _ _ h hb⟩ : e = Ending.returned (.string T) ∧ KS W'))
  have Q2 := Lib.hid (fun W (h : KS W) => (HX2.out W ((XS W h).rd (by repeat (first | with_reducible exact List.mem_cons_self | with_reducible apply List.mem_cons_of_mem))) ((XS W h).rd (by repeat (first | with_reducible exact List.mem_cons_self | with_reducible apply List.mem_cons_of_mem)))).mono fun e W' ⟨he, hb⟩ => (⟨he, XK _ _ h hb⟩ : e = Ending.returned (.string T) ∧ KS W'))
  have Q3 := Lib.hid (fun W (h : KS W) => (HZ1.out W ((XS W h).rd (by repeat (first | with_reducible exact List.mem_cons_self | with_reducible apply List.mem_cons_of_mem))) ((XS W h).rd (by repeat (first | with_reducible exact List.mem_cons_self | with_reducible apply List.mem_cons_of_mem)))).mono fun e W' ⟨s5, A5, n5, c5, l5, he, hr, hs, hf, hb⟩ => (⟨s5, A5, n5, c5, l5, he, hr, hs, XK _ _ h hb, hb⟩ : ∃ s5 A5 n5 c5 l5, e = Ending.returned (.agg #[.int .i64 s5, .slice A5 n5 c5]) ∧ RdI W' W'.heap.size A5 n5 c5 l5 ∧ Std s5 l5 Z ∧ KS W' ∧ Below W.heap.size W W'))
  have Q4 := Lib.hid (fun W (h : KS W) => (HZ2.out W ((XS W h).rd (by repeat (first | with_reducible exact List.mem_cons_self | with_reducible apply List.mem_cons_of_mem))) ((XS W h).rd (by repeat (first | with_reducible exact List.mem_cons_self | with_reducible apply List.mem_cons_of_mem)))).mono fun e W' ⟨s5, A5, n5, c5, l5, he, hr, hs, hf, hb⟩ => (⟨s5, A5, n5, c5, l5, he, hr, hs, XK _ _ h hb, hb⟩ : ∃ s5 A5 n5 c5 l5, e = Ending.returned (.agg #[.int .i64 s5, .slice A5 n5 c5]) ∧ RdI W' W'.heap.size A5 n5 c5 l5 ∧ Std s5 l5 Z ∧ KS W' ∧ Below W.heap.size W W'))
  have Q5 := Lib.hid (fun s A n cap l t A' n' cap' m W (r1 : RdI W W.heap.size A n cap l) (r2 : RdI W W.heap.size A' n' cap' m) h1 h2 (h : KS W) => (nSameB Z Z s A n cap l t A' n' cap' m W r1 r2 h1 h2).mono fun e W' ⟨he, hb⟩ => (⟨by rw [he, decide_eq_true rfl], XK _ _ h hb⟩ : e = Ending.returned (.bool true) ∧ KS W'))
  clear XF XK XS K r HX1 HX2 HZ1 HZ2
  go_region_held3 (fun W => KS W ∧ ((W.cell? ⟨b0, 0, none⟩ = some (.int .i64 s1) ∧ W.cell? ⟨b0, 1, none⟩ = some (.slice A1 n1 c1) ∧ W.cell? ⟨b0, 2, none⟩ = some (.int .i64 t1) ∧ W.cell? ⟨b0, 3, none⟩ = some (.slice B1 m1 d1))))
    ((refine HSx.out _ ?_; first | assumption | exact XD.out _ X0 | exact And.left (by assumption)))
    (first
      | (go_at_call 58; (with_reducible refine (Q1.out _ (And.left (by assumption))).mono ?_); rintro e w5 ⟨rfl, x5⟩)
      | (go_at_call 59; (with_reducible refine (Q2.out _ (And.left (by assumption))).mono ?_); rintro e w6 ⟨rfl, x6⟩)
      | (go_at_call 61; (with_reducible refine (Q3.out _ (And.left (by assumption))).mono ?_); rintro e w7 ⟨s80, A80, n80, c80, l80, rfl, ra80, hs80, x80, b80⟩)
      | (go_at_call 62; (with_reducible refine (Q4.out _ (And.left (by assumption))).mono ?_); rintro e w8 ⟨s90, A90, n90, c90, l90, rfl, ra90, hs90, x90, b90⟩)
      | (go_at_call 60; (with_reducible refine (Q5.out _ _ _ _ _ _ _ _ _ _ _ ?ra ?rb hs80 hs90 (And.left (by assumption))).mono ?_); (case ra => (first | exact ra80 | exact ra80.up (flat_lasts _) b90)); (case rb => (first | exact ra90 | exact ra90.up (flat_lasts _) b80)); rintro e w9 ⟨rfl, x99⟩))
  all_goals
    have K := XSt.out _ x99
    go_wp2
    go_ret
    exact ⟨rfl, K.1⟩
end Go.Proofs.YtkeajohkpmabcaaGreatDoor
