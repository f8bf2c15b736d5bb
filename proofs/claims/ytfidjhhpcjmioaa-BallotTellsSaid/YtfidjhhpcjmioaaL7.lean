/- Walk over the statement BallotTells. Conditions stand in the theorem. -/
import Derived.Test.YtfidjhhpcjmioaaB11
import Derived.Test.YtfidjhhpcjmioaaOps
namespace Go.Proofs.Ytfidjhhpcjmioaa
open Go.RowKit
set_option linter.unusedVariables false

/-- the sums of cards, right or not -/
def sumG (l : List Crd) (t : Int) : List (Int × Int) := if checkF l t = 0 then sumF l t.toNat else []
def SumPost (w : World) (l : List (Int × Int)) (er : Int) (e : Ending) (w' : World) : Prop :=
  ∃ A n cap, e = .returned (.tuple #[.slice A n cap, .int .i64 er]) ∧ RdP w' w'.heap.size A n cap l ∧ Below w.heap.size w w'
theorem check_t {l : List Crd} {t : Int} (h : checkF l t = 0) : 1 ≤ t ∧ t ≤ 20 := by
  unfold checkF at h
  by_cases h1 : (t : Int) < 1 ∨ 20 < (t : Int) ∨ 4000 < l.length
  · rw [if_pos h1] at h; cases h
  · omega
theorem sum_any (A : Option Addr) (n cap : Nat) (l : List Crd) (t : Int) (w : World) (hl : RdC w w.heap.size A n cap l) :
  Calls Try.prog 27 #[.slice A n cap, .int .i64 t] w (SumPost w (sumG l t) (checkF l t)) := by
  by_cases h : checkF l t = 0
  · obtain ⟨t1, t2⟩ := check_t h
    obtain ⟨t, rfl⟩ := Int.eq_ofNat_of_zero_le (show 0 ≤ t by omega)
    refine (bsum_ok A n cap l t w hl h).mono fun e w' ⟨v, he, ho, hb⟩ => ?_
    obtain ⟨A', c, rfl, hr⟩ := ho.rd pSized (by rw [sumF, shL_len]; omega)
    refine ⟨A', _, c, by rw [h]; exact he, ?_, hb⟩
    rw [sumG, if_pos h]
    exact hr
  · refine (bsum_bad A n cap l t w hl h).mono fun e w' ⟨he, hb⟩ => ⟨none, 0, 0, he, ?_, hb⟩
    rw [sumG, if_neg h]
    exact Rd.nil
theorem rsum_any (A : Option Addr) (n cap : Nat) (l : List Crd) (t : Int) (w : World) (hl : RdC w w.heap.size A n cap l) :
  Calls Try.prog 28 #[.slice A n cap, .int .i64 t] w (SumPost w (sumG l t) (checkF l t)) := by
  by_cases h : checkF l t = 0
  · obtain ⟨t1, t2⟩ := check_t h
    obtain ⟨t, rfl⟩ := Int.eq_ofNat_of_zero_le (show 0 ≤ t by omega)
    refine (rsum_ok A n cap l t w hl h).mono fun e w' ⟨v, he, ho, hb⟩ => ?_
    obtain ⟨A', c, rfl, hr⟩ := ho.rd pSized (by rw [sumF, shL_len]; omega)
    refine ⟨A', _, c, by rw [h]; exact he, ?_, hb⟩
    rw [sumG, if_pos h]
    exact hr
  · refine (rsum_bad A n cap l t w hl h).mono fun e w' ⟨he, hb⟩ => ⟨none, 0, 0, he, ?_, hb⟩
    rw [sumG, if_neg h]
    exact Rd.nil

set_option maxRecDepth 100000 in
set_option maxHeartbeats 2000000 in
theorem ballotTells_walk (m : Int) (y : Bool) (s t k : Int) (A : Option Addr) (n cap : Nat) (l : List Crd) (B : Option Addr) (n2 cap2 : Nat) (sh : List (Int × Int)) (c : Int) (w : World)
    (h0 : I64 m) (h1 : I64 s) (h2 : -9223372036854775808 ≤ t ∧ t ≤ 9223372036854775807) (h3 : -9223372036854775808 ≤ k ∧ k ≤ 9223372036854775807) (rl : RdC w w.heap.size A n cap l) (rs : RdP w w.heap.size B n2 cap2 sh) (h4 : -9223372036854775808 ≤ c ∧ c ≤ 9223372036854775807) :
    Calls Try.prog 7 #[.agg #[.int .i64 m, .bool y, .int .i64 s], .int .i64 t, .int .i64 k, .slice A n cap, .slice B n2 cap2, .int .i64 c] w fun e w' => e = .returned (.bool true) ∧ Below w.heap.size w w' := by
  have hcaps := rl.caps
  have hcaps2 := rs.caps
  have hcast := fun w => cast_any m y t k s w h1
  have hrcast := fun w => rcast_any m y t k s w h1
  have hsum := fun w => sum_any A n cap l t w
  have hrsum := fun w => rsum_any A n cap l t w
  have hopen := fun w => open_any B n2 cap2 sh k c w
  have hropen := fun w => ropen_any B n2 cap2 sh k c w
  have hcheck := fun w => check_any A n cap l t w
  have hrcheck := fun w => rcheck_any A n cap l t w
  generalize castF m y t k s = C at *
  obtain ⟨⟨cm, cl⟩, ce⟩ := C
  generalize sumG l t = S at *
  generalize openF sh k c = O at *
  obtain ⟨on, oe⟩ := O
  generalize checkF l t = E at *
  have Hcast := Lib.hid hcast; have Hrcast := Lib.hid hrcast; have Hsum := Lib.hid hsum; have Hrsum := Lib.hid hrsum; have Hopen := Lib.hid hopen; have Hropen := Lib.hid hropen; have Hcheck := Lib.hid hcheck; have Hrcheck := Lib.hid hrcheck
  clear hcast hrcast hsum hrsum hopen hropen hcheck hrcheck h0 h1 h2 h3 h4
  go_enter Try.func7, Try.ntmps7
  go_wp2_with fail
  refine (bsmall_any _).mono ?_
  rintro e w1 ⟨rfl, hb1⟩
  have hb01 : Below w.heap.size w w1 := ((Below.refl w.heap.size w).alloc (Nat.le_refl _) _).trans (hb1.mono (by simp))
  have v0 : w1.cell? ⟨w.heap.size, 0, none⟩ = some (.int .i64 m) := (hb1.cell (by simp)).trans (by simp)
  have v1 : w1.cell? ⟨w.heap.size, 1, none⟩ = some (.bool y) := (hb1.cell (by simp)).trans (by simp)
  have v2 : w1.cell? ⟨w.heap.size, 2, none⟩ = some (.int .i64 s) := (hb1.cell (by simp)).trans (by simp)
  have vlt : w.heap.size < w1.heap.size := by have := hb1.size; simp at this; omega
  clear hb1
  go_wp2_with fail
  refine (few_any A n cap l w1 (rl.up cdE_lasts hb01)).mono ?_
  rintro e w2 ⟨b, rfl, hb2⟩
  have hb02 := hb01.trans (hb2.mono hb01.size)
  cases b
  · go_wp2
    go_ret
    exact ⟨rfl, hb02⟩
  · by_cases h25 : 25 < n2
    · have hd : decide ((25 : Int) < (n2 : Int)) = true := by simp; omega
      go_wp2
      go_ret
      exact ⟨rfl, hb02⟩
    · have hd : decide ((25 : Int) < (n2 : Int)) = false := by simp; omega
      have c0 := (hb2.cell vlt).trans v0
      have c1 := (hb2.cell vlt).trans v1
      have c2 := (hb2.cell vlt).trans v2
      have vlt2 : w.heap.size < w2.heap.size := by have := hb2.size; omega
      clear v0 v1 v2 vlt hb2 hb01
      go_wp2_with fail
      refine (Hcast.out _).mono ?_
      rintro e w3 ⟨A3, n3, cap3, rfl, r3, -, hb3⟩
      have hb03 := hb02.trans (hb3.mono hb02.size)
      have v0 := (hb3.cell vlt2).trans c0
      have v1 := (hb3.cell vlt2).trans c1
      have v2 := (hb3.cell vlt2).trans c2
      have vlt3 : w.heap.size < w3.heap.size := by have := hb3.size; omega
      clear c0 c1 c2 vlt2 hb3
      go_wp2_with fail
      have hbA := (Below.refl w3.heap.size w3).alloc (Nat.le_refl _) (Obj.cells #[.int .i64 cm, .slice A3 n3 cap3] 47)
      have p0 : (w3.alloc (Obj.cells #[.int .i64 cm, .slice A3 n3 cap3] 47)).cell? ⟨w3.heap.size, 0, none⟩ = some (.int .i64 cm) := by simp
      have p1 : (w3.alloc (Obj.cells #[.int .i64 cm, .slice A3 n3 cap3] 47)).cell? ⟨w3.heap.size, 1, none⟩ = some (.slice A3 n3 cap3) := by simp
      have hbl : w3.heap.size < (w3.alloc (Obj.cells #[.int .i64 cm, .slice A3 n3 cap3] 47)).heap.size := by simp
      have r4 := r3.up (flat_lasts _) hbA
      have hb04 := hb03.trans (hbA.mono hb03.size)
      refine (Hrcast.out _).mono ?_
      rintro e w5 ⟨A5, n5, cap5, rfl, r5, -, hb5⟩
      have r6 := r4.up (flat_lasts _) hb5
      have q0 := (hb5.cell hbl).trans p0
      have q1 := (hb5.cell hbl).trans p1
      have ql : w3.heap.size < w5.heap.size := by have := hb5.size; omega
      have hb05 := hb04.trans (hb5.mono hb04.size)
      clear v0 v1 v2 vlt3 p0 p1 hbl hbA r3 r4 hb5 hb03 hb04
      go_wp2_with fail
      have hbB := (Below.refl w5.heap.size w5).alloc (Nat.le_refl _) (Obj.cells #[.int .i64 cm, .slice A5 n5 cap5] 47)
      have p0 : (w5.alloc (Obj.cells #[.int .i64 cm, .slice A5 n5 cap5] 47)).cell? ⟨w5.heap.size, 0, none⟩ = some (.int .i64 cm) := by simp
      have p1 : (w5.alloc (Obj.cells #[.int .i64 cm, .slice A5 n5 cap5] 47)).cell? ⟨w5.heap.size, 1, none⟩ = some (.slice A5 n5 cap5) := by simp
      have pl : w5.heap.size < (w5.alloc (Obj.cells #[.int .i64 cm, .slice A5 n5 cap5] 47)).heap.size := by simp
      have hb06 := hb05.trans (hbB.mono hb05.size)
      have r7 := r5.up (flat_lasts _) hbB
      have r8 := r6.up (flat_lasts _) hbB
      have s0 := (hbB.cell ql).trans q0
      have s1 := (hbB.cell ql).trans q1
      have sl := Nat.lt_of_lt_of_le ql hbB.size
      clear q0 q1 ql hbB r5 r6 hb05
      generalize w5.alloc (Obj.cells #[.int .i64 cm, .slice A5 n5 cap5] 47) = w6 at *
      refine (Hsum.out _ (rl.up cdE_lasts hb06)).mono ?_
      rintro e w7 ⟨A7, n7, cap7, rfl, r9, hb7⟩
      have hb07 := hb06.trans (hb7.mono hb06.size)
      go_wp2_with fail
      refine (Hrsum.out _ (rl.up cdE_lasts hb07)).mono ?_
      rintro e w8 ⟨A8, n8, cap8, rfl, r10, hb8⟩
      have hb08 := hb07.trans (hb8.mono hb07.size)
      have hb68 := hb7.trans (hb8.mono hb7.size)
      have r11 := r9.up (flat_lasts _) hb8
      clear r9 hb7 hb8 hb07
      go_wp2_with fail
      refine (Hopen.out _ (rs.up (flat_lasts _) hb08)).mono ?_
      rintro e w9 ⟨rfl, hb9⟩
      have hb09 := hb08.trans (hb9.mono hb08.size)
      go_wp2_with fail
      refine (Hropen.out _ (rs.up (flat_lasts _) hb09) (by omega)).mono ?_
      rintro e w10 ⟨rfl, hb10⟩
      have hb010 := hb09.trans (hb10.mono hb09.size)
      have hb810 := hb9.trans (hb10.mono hb9.size)
      have hb610 := hb68.trans (hb810.mono hb68.size)
      have t0 := (hb610.cell sl).trans s0
      have t1 := (hb610.cell sl).trans s1
      have u0 := (hb610.cell pl).trans p0
      have u1 := (hb610.cell pl).trans p1
      have r12 := r7.up (flat_lasts _) hb610
      have r13 := r8.up (flat_lasts _) hb610
      have r14 := r10.up (flat_lasts _) hb810
      have r15 := r11.up (flat_lasts _) hb810
      clear s0 s1 p0 p1 sl pl hb610 hb810 hb9 hb10 hb68 r7 r8 r10 r11 hb09 hb08 hb06
      go_wp2_with fail
      refine (bsame_any _ _ _ _ _ _ _ _ _ r13 r12).mono ?_
      rintro e w11 ⟨rfl, hb11⟩
      rw [decide_eq_true rfl]
      have hb011 := hb010.trans (hb11.mono hb010.size)
      go_wp2_with fail
      refine (bsame_any _ _ _ _ _ _ _ _ _ (r15.up (flat_lasts _) hb11) (r14.up (flat_lasts _) hb11)).mono ?_
      rintro e w12 ⟨rfl, hb12⟩
      rw [decide_eq_true rfl]
      have hb012 := hb011.trans (hb12.mono hb011.size)
      go_wp2_with fail
      refine (Hcheck.out _ (rl.up cdE_lasts hb012)).mono ?_
      rintro e w13 ⟨rfl, hb13⟩
      have hb013 := hb012.trans (hb13.mono hb012.size)
      go_wp2_with fail
      refine (Hrcheck.out _ (rl.up cdE_lasts hb013)).mono ?_
      rintro e w14 ⟨rfl, hb14⟩
      have hb014 := hb013.trans (hb14.mono hb013.size)
      go_wp2_with fail
      go_ret
      exact ⟨by simp, hb014⟩
end Go.Proofs.Ytfidjhhpcjmioaa
