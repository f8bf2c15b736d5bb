
/- Walks over fine and Sum of the reference of layer 27. Conditions stand in each theorem. -/
import Derived.Test.YtinfcngkbdiddaaCo
import Derived.Test.YtinfcngkbdiddaaCq
import Derived.Test.YtinfcngkbdiddaaL
namespace Go.Proofs.Ytinfcngkbdiddaa
open Go.RowKit
set_option linter.unusedVariables false
set_option linter.unusedSimpArgs false

section
variable (x y : Rat) (s1 t1 s2 t2 : Int) (A1 B1 A2 B2 : Option Addr) (n1 c1 m1 d1 n2 c2 m2 d2 : Nat) (l1 k1 l2 k2 : List Int) (w : World) (r1 : RdI w w.heap.size A1 n1 c1 l1) (q1 : RdI w w.heap.size B1 m1 d1 k1) (r2 : RdI w w.heap.size A2 n2 c2 l2) (q2 : RdI w w.heap.size B2 m2 d2 k2)
variable (h1 : StdF s1 l1 t1 k1 x) (h2 : StdF s2 l2 t2 k2 y) (f1 : fitsF x = true) (f2 : fitsF y = true)
include r1 q1 r2 q2 h1 h2 f1 f2
theorem qAdd : Calls Try.prog 15 #[.agg #[.int .i64 s1, .slice A1 n1 c1, .int .i64 t1, .slice B1 m1 d1], .agg #[.int .i64 s2, .slice A2 n2 c2, .int .i64 t2, .slice B2 m2 d2]] w (FrE w (binO true (addK x y) (x + y)) (binE true (addK x y))) := by
  have h := gAdd_any s1 t1 s2 t2 A1 B1 A2 B2 n1 c1 m1 d1 n2 c2 m2 d2 l1 k1 l2 k2 w r1 q1 r2 q2
  rw [h1.right f1, h2.right f2, h1.rat, h2.rat] at h
  exact h
end
theorem rOf_zero (W : World) : Calls Try.prog 36 #[.int .i64 0, .int .i64 1] W (FrV W 0) := by
  have h := rOf_any 0 1 W (by decide) (by decide) (by decide)
  rw [show Rat.divInt 0 1 = 0 from rfl] at h
  exact h
def Cell4 (W : World) (b o : Nat) (x0 x1 x2 x3 : Value) : Prop := W.cell? ⟨b, o, none⟩ = some x0 ∧ W.cell? ⟨b, o + 1, none⟩ = some x1 ∧ W.cell? ⟨b, o + 2, none⟩ = some x2 ∧ W.cell? ⟨b, o + 3, none⟩ = some x3
set_option maxRecDepth 100000 in
set_option maxHeartbeats 2000000 in
theorem rfine_any (A : Option Addr) (n cap : Nat) (l : List Fv) (w : World) (hl : RdF w w.heap.size A n cap l) :
    Calls Try.prog 40 #[.slice A n cap] w fun e w' => e = .returned (.bool (l.all Fv.ok)) ∧ Below w.heap.size w w' := by
  have hcaps := hl.caps
  have Hlen := Lib.hid hl.len
  have HL := Lib.hid hl
  have K := St.start w
  have r := K.raw
  clear hl
  go_enter Try.func40, Try.ntmps40
  go_wp2_with (first | ((first | (apply K.alloc; rfl; rfl; (first | with_reducible exact big_zero | with_reducible exact frac_zero)) | (apply K.box; rfl; rfl; rfl)); clear K r; (first | ((fail_if_success revert b0); intro W b0 K) | ((fail_if_success revert b1); intro W b1 K) | ((fail_if_success revert b2); intro W b2 K) | ((fail_if_success revert b3); intro W b3 K) | ((fail_if_success revert b4); intro W b4 K) | ((fail_if_success revert b5); intro W b5 K) | ((fail_if_success revert b6); intro W b6 K) | ((fail_if_success revert b7); intro W b7 K)); have r := K.rawS) | (apply K.storeA; rfl; rfl; rfl; rfl; rfl; (repeat (first | with_reducible exact Upd.head _ | with_reducible apply Upd.tail)); (first | with_reducible exact big_size | with_reducible exact frac_size); rfl; rfl; rfl; clear K r; intro W K; have r := K.rawS))
  go_loopg [3] n (fun gk s3 wr => ∃ k : Nat, k ≤ n ∧ gk = n - k ∧ s3 = .int .i64 k ∧ Hid (∀ (j : Nat) x, j < k → l[j]? = some x → x.ok = true) ∧ St w [] [] wr)
  case atStart => exact ⟨0, Nat.zero_le _, rfl, rfl, Lib.hid (fun j x h => absurd h (by omega)), K⟩
  case round =>
    clear K r
    obtain ⟨k, hk, rfl, rfl, HA, K⟩ := hrel
    have r := K.rawS
    by_cases hlt : k < n
    · obtain ⟨eb1, off1, A1, n1, c1, B1, m1, d1, x, hA1, hbB1, hx1, ⟨z0, z1, z2, z3⟩, r1, q1⟩ := HL.out.atF hlt
      subst hA1
      have Ex1 := Lib.hid (fun W (h : Below w.heap.size w W) => (⟨(h.cell (p := ⟨eb1, off1 + k * 4, none⟩) hbB1).trans z0, (h.cell (p := ⟨eb1, off1 + k * 4 + 1, none⟩) hbB1).trans z1, (h.cell (p := ⟨eb1, off1 + k * 4 + 2, none⟩) hbB1).trans z2, (h.cell (p := ⟨eb1, off1 + k * 4 + 3, none⟩) hbB1).trans z3⟩ : W.cell? ⟨eb1, off1 + k * 4, none⟩ = some (.int .i64 (x).s) ∧ W.cell? ⟨eb1, off1 + k * 4 + 1, none⟩ = some (.slice A1 n1 c1) ∧ W.cell? ⟨eb1, off1 + k * 4 + 2, none⟩ = some (.int .i64 (x).t) ∧ W.cell? ⟨eb1, off1 + k * 4 + 3, none⟩ = some (.slice B1 m1 d1)))
      have hki : (k : Int) < (n : Int) := by omega
      have hk0 : (0 : Int) ≤ (k : Int) := by omega
      have hcap1 := r1.caps
      have hcbp1 := q1.caps
      replace K := (K.oldRd r1).oldRd q1
      have Hx1 := Lib.hid hx1
      clear hx1 z0 z1 z2 z3 r1 q1
      have e1 := Ex1.out _ K.1
      have HR := Lib.hid (fun W a b => gRight_any x.s x.t A1 B1 n1 c1 m1 d1 x.l x.m W a b)
      have hok : rightF x.s x.l x.t x.m = x.ok := rfl
      rw [hok] at HR
      clear hok
      cases hin : x.ok
      · rw [hin] at HR
        have Hno := Lib.hid (show l.all Fv.ok = false by
          rw [List.all_eq_false]; exact ⟨x, List.mem_of_getElem? Hx1.out, by simp [hin]⟩)
        clear hin
        go_wp2_with (first | ((first | (apply K.alloc; rfl; rfl; (first | with_reducible exact big_zero | with_reducible exact frac_zero)) | (apply K.box; rfl; rfl; rfl)); clear K r; (first | ((fail_if_success revert b0); intro W b0 K) | ((fail_if_success revert b1); intro W b1 K) | ((fail_if_success revert b2); intro W b2 K) | ((fail_if_success revert b3); intro W b3 K) | ((fail_if_success revert b4); intro W b4 K) | ((fail_if_success revert b5); intro W b5 K) | ((fail_if_success revert b6); intro W b6 K) | ((fail_if_success revert b7); intro W b7 K)); have r := K.rawS) | (apply K.storeA; rfl; rfl; rfl; rfl; rfl; (repeat (first | with_reducible exact Upd.head _ | with_reducible apply Upd.tail)); (first | with_reducible exact big_size | with_reducible exact frac_size); rfl; rfl; rfl; clear K r; intro W K; have r := K.rawS))
        refine (HR.out _ (by first | exact Rd.nil | exact K.rda) (by first | exact Rd.nil | exact K.rda)).mono ?_
        rintro e W' ⟨rfl, hb⟩
        replace K := K.keep hb
        clear r
        have r := K.rawS
        clear hb
        go_wp2_with (first | ((first | (apply K.alloc; rfl; rfl; (first | with_reducible exact big_zero | with_reducible exact frac_zero)) | (apply K.box; rfl; rfl; rfl)); clear K r; (first | ((fail_if_success revert b0); intro W b0 K) | ((fail_if_success revert b1); intro W b1 K) | ((fail_if_success revert b2); intro W b2 K) | ((fail_if_success revert b3); intro W b3 K) | ((fail_if_success revert b4); intro W b4 K) | ((fail_if_success revert b5); intro W b5 K) | ((fail_if_success revert b6); intro W b6 K) | ((fail_if_success revert b7); intro W b7 K)); have r := K.rawS) | (apply K.storeA; rfl; rfl; rfl; rfl; rfl; (repeat (first | with_reducible exact Upd.head _ | with_reducible apply Upd.tail)); (first | with_reducible exact big_size | with_reducible exact frac_size); rfl; rfl; rfl; clear K r; intro W K; have r := K.rawS))
        go_ret
        exact ⟨by rw [Hno.out]; first | done | rfl, K.1⟩
      · rw [hin] at HR
        have HA2 := Lib.hid (show ∀ (j : Nat) x, j < k + 1 → l[j]? = some x → x.ok = true from fun j y hj hy => by
          by_cases e : j = k
          · subst e; rw [Hx1.out] at hy; cases hy; exact hin
          · exact HA.out j y (by omega) hy)
        clear hin HA
        go_wp2_with (first | ((first | (apply K.alloc; rfl; rfl; (first | with_reducible exact big_zero | with_reducible exact frac_zero)) | (apply K.box; rfl; rfl; rfl)); clear K r; (first | ((fail_if_success revert b0); intro W b0 K) | ((fail_if_success revert b1); intro W b1 K) | ((fail_if_success revert b2); intro W b2 K) | ((fail_if_success revert b3); intro W b3 K) | ((fail_if_success revert b4); intro W b4 K) | ((fail_if_success revert b5); intro W b5 K) | ((fail_if_success revert b6); intro W b6 K) | ((fail_if_success revert b7); intro W b7 K)); have r := K.rawS) | (apply K.storeA; rfl; rfl; rfl; rfl; rfl; (repeat (first | with_reducible exact Upd.head _ | with_reducible apply Upd.tail)); (first | with_reducible exact big_size | with_reducible exact frac_size); rfl; rfl; rfl; clear K r; intro W K; have r := K.rawS))
        refine (HR.out _ (by first | exact Rd.nil | exact K.rda) (by first | exact Rd.nil | exact K.rda)).mono ?_
        rintro e W' ⟨rfl, hb⟩
        replace K := K.keep hb
        clear r
        have r := K.rawS
        clear hb
        go_wp2_with (first | ((first | (apply K.alloc; rfl; rfl; (first | with_reducible exact big_zero | with_reducible exact frac_zero)) | (apply K.box; rfl; rfl; rfl)); clear K r; (first | ((fail_if_success revert b0); intro W b0 K) | ((fail_if_success revert b1); intro W b1 K) | ((fail_if_success revert b2); intro W b2 K) | ((fail_if_success revert b3); intro W b3 K) | ((fail_if_success revert b4); intro W b4 K) | ((fail_if_success revert b5); intro W b5 K) | ((fail_if_success revert b6); intro W b6 K) | ((fail_if_success revert b7); intro W b7 K)); have r := K.rawS) | (apply K.storeA; rfl; rfl; rfl; rfl; rfl; (repeat (first | with_reducible exact Upd.head _ | with_reducible apply Upd.tail)); (first | with_reducible exact big_size | with_reducible exact frac_size); rfl; rfl; rfl; clear K r; intro W K; have r := K.rawS))
        go_roundg (n - (k + 1))
        case rel => exact ⟨k + 1, hlt, rfl, by go_num, HA2, K.less (fun _ h => by cases h)⟩
        case measure => omega
    · have e : k = n := by omega
      subst e
      have Hyes := Lib.hid (show l.all Fv.ok = true by
        rw [List.all_eq_true]
        intro x hx
        obtain ⟨j, hj, rfl⟩ := List.mem_iff_getElem.1 hx
        exact HA.out j _ (by rw [Hlen.out] at hj; exact hj) (List.getElem?_eq_getElem hj))
      clear HA
      go_wp2_with (first | ((first | (apply K.alloc; rfl; rfl; (first | with_reducible exact big_zero | with_reducible exact frac_zero)) | (apply K.box; rfl; rfl; rfl)); clear K r; (first | ((fail_if_success revert b0); intro W b0 K) | ((fail_if_success revert b1); intro W b1 K) | ((fail_if_success revert b2); intro W b2 K) | ((fail_if_success revert b3); intro W b3 K) | ((fail_if_success revert b4); intro W b4 K) | ((fail_if_success revert b5); intro W b5 K) | ((fail_if_success revert b6); intro W b6 K) | ((fail_if_success revert b7); intro W b7 K)); have r := K.rawS) | (apply K.storeA; rfl; rfl; rfl; rfl; rfl; (repeat (first | with_reducible exact Upd.head _ | with_reducible apply Upd.tail)); (first | with_reducible exact big_size | with_reducible exact frac_size); rfl; rfl; rfl; clear K r; intro W K; have r := K.rawS))
      go_ret
      exact ⟨by rw [Hyes.out]; first | done | rfl, K.1⟩
/-- what a call of Sum leaves -/
def SumR (w : World) (l : List Fv) (e : Ending) (w' : World) : Prop :=
  ∃ s A n cap a t A' n' cap' a', e = .returned (.tuple #[.agg #[.int .i64 s, .slice A n cap, .int .i64 t, .slice A' n' cap'], .bool (sumF 0 (ratL l)).isSome]) ∧ (RdI w' w'.heap.size A n cap a ∧ RdI w' w'.heap.size A' n' cap' a') ∧ (∀ q, sumF 0 (ratL l) = some q → StdF s a t a' q ∧ fitsF q = true) ∧ (FrA w.heap.size A ∧ FrA w.heap.size A') ∧ Below w.heap.size w w'
set_option maxRecDepth 100000 in
set_option maxHeartbeats 4000000 in
theorem rsum_any (A : Option Addr) (n cap : Nat) (l : List Fv) (w : World) (hl : RdF w w.heap.size A n cap l) (hok : ∀ x ∈ l, x.ok = true) :
    Calls Try.prog 20 #[.slice A n cap] w (SumR w l) := by
  have hcaps := hl.caps
  have Hlen := Lib.hid hl.len
  have HL := Lib.hid hl
  have HAll := Lib.hid (show ∀ (j : Nat) x, j < n → l[j]? = some x → x.ok = true from fun j x _ hx => hok x (List.mem_of_getElem? hx))
  have K := St.start w
  have r := K.raw
  clear hl hok
  go_enter Try.func20, Try.ntmps20
  go_wp2_with (first | ((first | (apply K.alloc; rfl; rfl; (first | with_reducible exact big_zero | with_reducible exact frac_zero)) | (apply K.box; rfl; rfl; rfl)); clear K r; (first | ((fail_if_success revert b0); intro W b0 K) | ((fail_if_success revert b1); intro W b1 K) | ((fail_if_success revert b2); intro W b2 K) | ((fail_if_success revert b3); intro W b3 K) | ((fail_if_success revert b4); intro W b4 K) | ((fail_if_success revert b5); intro W b5 K) | ((fail_if_success revert b6); intro W b6 K) | ((fail_if_success revert b7); intro W b7 K)); have r := K.rawS) | (apply K.storeA; rfl; rfl; rfl; rfl; rfl; (repeat (first | with_reducible exact Upd.head _ | with_reducible apply Upd.tail)); (first | with_reducible exact big_size | with_reducible exact frac_size); rfl; rfl; rfl; clear K r; intro W K; have r := K.rawS))
  refine (rOf_zero _).mono ?_
  rintro e W' ⟨s3, A3, n3, c3, l3, t3, B3, m3, d3, k3, rfl, ⟨hra, hrb⟩, hs3, ⟨hfa, hfb⟩, hb⟩
  have hf3 := Lib.hid (hfa.mono K.1.size)
  have hg3 := Lib.hid (hfb.mono K.1.size)
  replace K := K.retF hb hra hrb hfa hfb
  clear r
  have r := K.rawS
  clear hra hrb hfa hfb hb
  have Hs3 := Lib.hid hs3
  clear hs3
  go_wp2_with (first | ((first | (apply K.alloc; rfl; rfl; (first | with_reducible exact big_zero | with_reducible exact frac_zero)) | (apply K.box; rfl; rfl; rfl)); clear K r; (first | ((fail_if_success revert b0); intro W b0 K) | ((fail_if_success revert b1); intro W b1 K) | ((fail_if_success revert b2); intro W b2 K) | ((fail_if_success revert b3); intro W b3 K) | ((fail_if_success revert b4); intro W b4 K) | ((fail_if_success revert b5); intro W b5 K) | ((fail_if_success revert b6); intro W b6 K) | ((fail_if_success revert b7); intro W b7 K)); have r := K.rawS) | (apply K.storeA; rfl; rfl; rfl; rfl; rfl; (repeat (first | with_reducible exact Upd.head _ | with_reducible apply Upd.tail)); (first | with_reducible exact big_size | with_reducible exact frac_size); rfl; rfl; rfl; clear K r; intro W K; have r := K.rawS))
  go_loopg [5] n (fun gk s5 wr => ∃ (j : Nat) (q : Rat) (s4 t4 : Int) (A4 B4 : Option Addr) (n4 c4 m4 d4 : Nat) (l4 k4 : List Int), j ≤ n ∧ gk = n - j ∧ s5 = .int .i64 j ∧ Hid (sumK1 (ratL l) j = some q ∧ fitsF q = true ∧ StdF s4 l4 t4 k4 q) ∧ Hid (FrA w.heap.size A4 ∧ FrA w.heap.size B4) ∧ St w [(b1, #[.int .i64 s4, .slice A4 n4 c4, .int .i64 t4, .slice B4 m4 d4], 35), (b0, #[.int .i64 0, .slice none 0 0, .int .i64 0, .slice none 0 0], 35)] [⟨rdP B4 m4 d4 k4, rdS B4 m4⟩, ⟨rdP A4 n4 c4 l4, rdS A4 n4⟩] wr)
  case atStart => exact ⟨0, 0, s3, t3, A3, B3, n3, c3, m3, d3, l3, k3, Nat.zero_le _, rfl, rfl, Lib.hid ⟨by unfold sumK1; rw [List.take_zero, sumF_nil], fitsF_zero, Hs3.out⟩, Lib.hid ⟨hf3.out, hg3.out⟩, K⟩
  case round =>
    clear K r
    obtain ⟨j, q, s4, t4, A4, B4, n4, c4, m4, d4, l4, k4, hj, rfl, rfl, HQ, HF4, K⟩ := hrel
    have r := K.rawS
    obtain ⟨hsum, fq, hs4⟩ := HQ.out
    by_cases hlt : j < n
    · obtain ⟨eb1, off1, A1, n1, c1, B1, m1, d1, x, hA1, hbB1, hx1, ⟨z0, z1, z2, z3⟩, r1, q1⟩ := HL.out.atF hlt
      subst hA1
      have Ex1 := Lib.hid (fun W (h : Below w.heap.size w W) => (⟨(h.cell (p := ⟨eb1, off1 + j * 4, none⟩) hbB1).trans z0, (h.cell (p := ⟨eb1, off1 + j * 4 + 1, none⟩) hbB1).trans z1, (h.cell (p := ⟨eb1, off1 + j * 4 + 2, none⟩) hbB1).trans z2, (h.cell (p := ⟨eb1, off1 + j * 4 + 3, none⟩) hbB1).trans z3⟩ : W.cell? ⟨eb1, off1 + j * 4, none⟩ = some (.int .i64 (x).s) ∧ W.cell? ⟨eb1, off1 + j * 4 + 1, none⟩ = some (.slice A1 n1 c1) ∧ W.cell? ⟨eb1, off1 + j * 4 + 2, none⟩ = some (.int .i64 (x).t) ∧ W.cell? ⟨eb1, off1 + j * 4 + 3, none⟩ = some (.slice B1 m1 d1)))
      have hki : (j : Int) < (n : Int) := by omega
      have hk0 : (0 : Int) ≤ (j : Int) := by omega
      have hcap1 := r1.caps
      have hcbp1 := q1.caps
      replace K := (K.oldRd r1).oldRd q1
      have Hx1 := Lib.hid hx1
      clear hx1 z0 z1 z2 z3 r1 q1
      have e1 := Ex1.out _ K.1
      obtain ⟨hsx, fy⟩ := fv_std (HAll.out j x hlt Hx1.out)
      have hst := sumK1_step (l := ratL l) (k := j) (x := x.rat) (by unfold ratL; rw [List.getElem?_map, Hx1.out]; rfl)
      rw [hsum, Option.bind_some] at hst
      have HAd := Lib.hid (fun W a b c d => qAdd q x.rat s4 t4 x.s x.t A4 B4 A1 B1 n4 c4 m4 d4 n1 c1 m1 d1 l4 k4 x.l x.m W a b c d hs4 hsx fq fy)
      cases hk : addK q x.rat
      · rw [hk] at HAd hst
        have hnone : sumF 0 (ratL l) = none := by
          rw [← sumK1_all]
          exact sumK1_none hst _ (by rw [ratL_len, Hlen.out]; omega)
        have HS := Lib.hid (show (sumF 0 (ratL l)).isSome = false from by rw [hnone]; rfl)
        have HV := Lib.hid (show ∀ q', sumF 0 (ratL l) = some q' → StdF s4 l4 t4 k4 q' ∧ fitsF q' = true from fun q' h => by rw [hnone] at h; cases h)
        clear hnone hst hk hsum hsx fy fq hs4
        go_upto_region 5 with (first | ((first | (apply K.alloc; rfl; rfl; (first | with_reducible exact big_zero | with_reducible exact frac_zero)) | (apply K.box; rfl; rfl; rfl)); clear K r; (first | ((fail_if_success revert b0); intro W b0 K) | ((fail_if_success revert b1); intro W b1 K) | ((fail_if_success revert b2); intro W b2 K) | ((fail_if_success revert b3); intro W b3 K) | ((fail_if_success revert b4); intro W b4 K) | ((fail_if_success revert b5); intro W b5 K) | ((fail_if_success revert b6); intro W b6 K) | ((fail_if_success revert b7); intro W b7 K)); have r := K.rawS) | (apply K.storeA; rfl; rfl; rfl; rfl; rfl; (repeat (first | with_reducible exact Upd.head _ | with_reducible apply Upd.tail)); (first | with_reducible exact big_size | with_reducible exact frac_size); rfl; rfl; rfl; clear K r; intro W K; have r := K.rawS))
        obtain ⟨RR, HR0⟩ := K.hideZ 35
        go_cut [7, 6] from 16 to 23 (fun e p wx => ∃ g s8 A8 n8 c8 l8 t8 B8 m8 d8 k8, e = .int .i64 6 ∧ p = .pointer (some ⟨g, 0, none⟩) ∧ OptF s8 l8 t8 k8 (none) ∧ (FrA w.heap.size A8 ∧ FrA w.heap.size B8) ∧ RR g #[.int .i64 s8, .slice A8 n8 c8, .int .i64 t8, .slice B8 m8 d8] A8 n8 c8 l8 B8 m8 d8 k8 wx)
        case first =>
          obtain ⟨gz1, hgz1, KA⟩ := K.newZ #[.int .i64 0, .slice none 0 0, .int .i64 0, .slice none 0 0] 35
          have rA := KA.raw
          have Kd := K.drew
          have KAd := KA.drew
          have HBd := Lib.hid (K.bel.size)
          have eA1 := Ex1.out _ KA.1
          simp only [Raw, RawC, RawZ, and_true, true_and, Nat.zero_add, Nat.reduceAdd] at rA
          go_region_with (first
            | (go_at_call 15; (with_reducible refine (HAd.out _ ?qa ?qb ?qc ?qd).mono ?_); (case qa => (first | with_reducible exact Kd.rd (by repeat (first | with_reducible exact List.mem_cons_self | with_reducible apply List.mem_cons_of_mem)) | with_reducible exact KAd.rd (by repeat (first | with_reducible exact List.mem_cons_self | with_reducible apply List.mem_cons_of_mem)))); (case qb => (first | with_reducible exact Kd.rd (by repeat (first | with_reducible exact List.mem_cons_self | with_reducible apply List.mem_cons_of_mem)) | with_reducible exact KAd.rd (by repeat (first | with_reducible exact List.mem_cons_self | with_reducible apply List.mem_cons_of_mem)))); (case qc => (first | with_reducible exact Kd.rd (by repeat (first | with_reducible exact List.mem_cons_self | with_reducible apply List.mem_cons_of_mem)) | with_reducible exact KAd.rd (by repeat (first | with_reducible exact List.mem_cons_self | with_reducible apply List.mem_cons_of_mem)))); (case qd => (first | with_reducible exact Kd.rd (by repeat (first | with_reducible exact List.mem_cons_self | with_reducible apply List.mem_cons_of_mem)) | with_reducible exact KAd.rd (by repeat (first | with_reducible exact List.mem_cons_self | with_reducible apply List.mem_cons_of_mem)))); rintro e W ⟨s31, A31, n31, c31, l31, t31, B31, m31, d31, k31, rfl, ⟨hra, hrb⟩, hs31, ⟨hfa, hfb⟩, hb⟩; have hF31 := Lib.hid (hfa.mono (C := w.heap.size) (by first | exact Kd.bel.size | exact KAd.bel.size)); have hG31 := Lib.hid (hfb.mono (C := w.heap.size) (by first | exact Kd.bel.size | exact KAd.bel.size)); (first | with_reducible replace K := Kd.retF hb hra hrb hfa hfb | with_reducible replace K := KAd.retF hb hra hrb hfa hfb); clear r rA KA hra hrb hfa hfb hb; have r := K.raw; have z := K.rawz; simp only [Raw, RawC, RawZ, and_true, true_and, Nat.zero_add, Nat.reduceAdd] at r z))
          all_goals
            go_wp2_with fail
            go_meet
            first
              | with_reducible exact ⟨_, s31, A31, n31, c31, l31, t31, B31, m31, d31, k31, rfl, rfl, hs31, ⟨hF31.out, hG31.out⟩, (HR0 _ _ _ _ _ _ _ _ _ _ _).2 (K.new #[.int .i64 s31, .slice A31 n31 c31, .int .i64 t31, .slice B31 m31 d31] 35)⟩
              | with_reducible exact ⟨_, s31, A31, n31, c31, l31, t31, B31, m31, d31, k31, rfl, rfl, hs31, ⟨hF31.out, hG31.out⟩, (HR0 _ _ _ _ _ _ _ _ _ _ _).2 (K.set4Z (u0 := .int .i64 s31) (u1 := .slice A31 n31 c31) (u2 := .int .i64 t31) (u3 := .slice B31 m31 d31) (by repeat (first | with_reducible exact Upd.head _ | with_reducible apply Upd.tail)))⟩
              | exact ⟨_, s31, A31, n31, c31, l31, t31, B31, m31, d31, k31, rfl, rfl, hs31, ⟨hF31.out, hG31.out⟩, (HR0 _ _ _ _ _ _ _ _ _ _ _).2 (K.new #[.int .i64 s31, .slice A31 n31 c31, .int .i64 t31, .slice B31 m31 d31] 35)⟩
              | exact ⟨_, s31, A31, n31, c31, l31, t31, B31, m31, d31, k31, rfl, rfl, hs31, ⟨hF31.out, hG31.out⟩, (HR0 _ _ _ _ _ _ _ _ _ _ _).2 (K.set4Z (u0 := .int .i64 s31) (u1 := .slice A31 n31 c31) (u2 := .int .i64 t31) (u3 := .slice B31 m31 d31) (by repeat (first | with_reducible exact Upd.head _ | with_reducible apply Upd.tail)))⟩
        obtain ⟨gb9, s9, A9, n9, c9, l9, t9, B9, m9, d9, k9, rfl, rfl, hs9, ⟨hF9, hG9⟩, hk9⟩ := hcut
        replace K := (HR0 _ _ _ _ _ _ _ _ _ _ _).1 hk9
        clear r hk9 HR0
        have r := K.rawS
        clear HAd hs9 hF9 hG9
        go_wp2_with (first | ((first | (apply K.alloc; rfl; rfl; (first | with_reducible exact big_zero | with_reducible exact frac_zero)) | (apply K.box; rfl; rfl; rfl)); clear K r; (first | ((fail_if_success revert b0); intro W b0 K) | ((fail_if_success revert b1); intro W b1 K) | ((fail_if_success revert b2); intro W b2 K) | ((fail_if_success revert b3); intro W b3 K) | ((fail_if_success revert b4); intro W b4 K) | ((fail_if_success revert b5); intro W b5 K) | ((fail_if_success revert b6); intro W b6 K) | ((fail_if_success revert b7); intro W b7 K)); have r := K.rawS) | (apply K.storeA; rfl; rfl; rfl; rfl; rfl; (repeat (first | with_reducible exact Upd.head _ | with_reducible apply Upd.tail)); (first | with_reducible exact big_size | with_reducible exact frac_size); rfl; rfl; rfl; clear K r; intro W K; have r := K.rawS))
        have HE := Lib.hid (⟨s4, A4, n4, c4, l4, t4, B4, m4, d4, k4, by rw [HS.out], ⟨(by first | exact Rd.nil | exact K.rda), (by first | exact Rd.nil | exact K.rda)⟩, HV.out, HF4.out, K.1⟩ : SumR w l (.returned (.tuple #[.agg #[.int .i64 s4, .slice A4 n4 c4, .int .i64 t4, .slice B4 m4 d4], .bool false])) W)
        exact bodyPost_ret (v := .tuple #[.agg #[.int .i64 s4, .slice A4 n4 c4, .int .i64 t4, .slice B4 m4 d4], .bool false]) (by simp [results, Try.results20, go_sem, r]) rfl HE.out
      · rw [hk] at HAd hst
        have HN := Lib.hid (show sumK1 (ratL l) (j + 1) = some (q + x.rat) ∧ fitsF (q + x.rat) = true from ⟨by rw [hst]; rfl, addK_fits hk⟩)
        clear hst hk hsum hsx fy fq hs4
        go_upto_region 5 with (first | ((first | (apply K.alloc; rfl; rfl; (first | with_reducible exact big_zero | with_reducible exact frac_zero)) | (apply K.box; rfl; rfl; rfl)); clear K r; (first | ((fail_if_success revert b0); intro W b0 K) | ((fail_if_success revert b1); intro W b1 K) | ((fail_if_success revert b2); intro W b2 K) | ((fail_if_success revert b3); intro W b3 K) | ((fail_if_success revert b4); intro W b4 K) | ((fail_if_success revert b5); intro W b5 K) | ((fail_if_success revert b6); intro W b6 K) | ((fail_if_success revert b7); intro W b7 K)); have r := K.rawS) | (apply K.storeA; rfl; rfl; rfl; rfl; rfl; (repeat (first | with_reducible exact Upd.head _ | with_reducible apply Upd.tail)); (first | with_reducible exact big_size | with_reducible exact frac_size); rfl; rfl; rfl; clear K r; intro W K; have r := K.rawS))
        obtain ⟨RR, HR0⟩ := K.hideZ 35
        go_cut [7, 6] from 16 to 23 (fun e p wx => ∃ g s8 A8 n8 c8 l8 t8 B8 m8 d8 k8, e = .int .i64 0 ∧ p = .pointer (some ⟨g, 0, none⟩) ∧ OptF s8 l8 t8 k8 (some (q + x.rat)) ∧ (FrA w.heap.size A8 ∧ FrA w.heap.size B8) ∧ RR g #[.int .i64 s8, .slice A8 n8 c8, .int .i64 t8, .slice B8 m8 d8] A8 n8 c8 l8 B8 m8 d8 k8 wx)
        case first =>
          obtain ⟨gz1, hgz1, KA⟩ := K.newZ #[.int .i64 0, .slice none 0 0, .int .i64 0, .slice none 0 0] 35
          have rA := KA.raw
          have Kd := K.drew
          have KAd := KA.drew
          have HBd := Lib.hid (K.bel.size)
          have eA1 := Ex1.out _ KA.1
          simp only [Raw, RawC, RawZ, and_true, true_and, Nat.zero_add, Nat.reduceAdd] at rA
          go_region_with (first
            | (go_at_call 15; (with_reducible refine (HAd.out _ ?qa ?qb ?qc ?qd).mono ?_); (case qa => (first | with_reducible exact Kd.rd (by repeat (first | with_reducible exact List.mem_cons_self | with_reducible apply List.mem_cons_of_mem)) | with_reducible exact KAd.rd (by repeat (first | with_reducible exact List.mem_cons_self | with_reducible apply List.mem_cons_of_mem)))); (case qb => (first | with_reducible exact Kd.rd (by repeat (first | with_reducible exact List.mem_cons_self | with_reducible apply List.mem_cons_of_mem)) | with_reducible exact KAd.rd (by repeat (first | with_reducible exact List.mem_cons_self | with_reducible apply List.mem_cons_of_mem)))); (case qc => (first | with_reducible exact Kd.rd (by repeat (first | with_reducible exact List.mem_cons_self | with_reducible apply List.mem_cons_of_mem)) | with_reducible exact KAd.rd (by repeat (first | with_reducible exact List.mem_cons_self | with_reducible apply List.mem_cons_of_mem)))); (case qd => (first | with_reducible exact Kd.rd (by repeat (first | with_reducible exact List.mem_cons_self | with_reducible apply List.mem_cons_of_mem)) | with_reducible exact KAd.rd (by repeat (first | with_reducible exact List.mem_cons_self | with_reducible apply List.mem_cons_of_mem)))); rintro e W ⟨s31, A31, n31, c31, l31, t31, B31, m31, d31, k31, rfl, ⟨hra, hrb⟩, hs31, ⟨hfa, hfb⟩, hb⟩; have hF31 := Lib.hid (hfa.mono (C := w.heap.size) (by first | exact Kd.bel.size | exact KAd.bel.size)); have hG31 := Lib.hid (hfb.mono (C := w.heap.size) (by first | exact Kd.bel.size | exact KAd.bel.size)); (first | with_reducible replace K := Kd.retF hb hra hrb hfa hfb | with_reducible replace K := KAd.retF hb hra hrb hfa hfb); clear r rA KA hra hrb hfa hfb hb; have r := K.raw; have z := K.rawz; simp only [Raw, RawC, RawZ, and_true, true_and, Nat.zero_add, Nat.reduceAdd] at r z))
          all_goals
            go_wp2_with fail
            go_meet
            first
              | with_reducible exact ⟨_, s31, A31, n31, c31, l31, t31, B31, m31, d31, k31, rfl, rfl, hs31, ⟨hF31.out, hG31.out⟩, (HR0 _ _ _ _ _ _ _ _ _ _ _).2 (K.new #[.int .i64 s31, .slice A31 n31 c31, .int .i64 t31, .slice B31 m31 d31] 35)⟩
              | with_reducible exact ⟨_, s31, A31, n31, c31, l31, t31, B31, m31, d31, k31, rfl, rfl, hs31, ⟨hF31.out, hG31.out⟩, (HR0 _ _ _ _ _ _ _ _ _ _ _).2 (K.set4Z (u0 := .int .i64 s31) (u1 := .slice A31 n31 c31) (u2 := .int .i64 t31) (u3 := .slice B31 m31 d31) (by repeat (first | with_reducible exact Upd.head _ | with_reducible apply Upd.tail)))⟩
              | exact ⟨_, s31, A31, n31, c31, l31, t31, B31, m31, d31, k31, rfl, rfl, hs31, ⟨hF31.out, hG31.out⟩, (HR0 _ _ _ _ _ _ _ _ _ _ _).2 (K.new #[.int .i64 s31, .slice A31 n31 c31, .int .i64 t31, .slice B31 m31 d31] 35)⟩
              | exact ⟨_, s31, A31, n31, c31, l31, t31, B31, m31, d31, k31, rfl, rfl, hs31, ⟨hF31.out, hG31.out⟩, (HR0 _ _ _ _ _ _ _ _ _ _ _).2 (K.set4Z (u0 := .int .i64 s31) (u1 := .slice A31 n31 c31) (u2 := .int .i64 t31) (u3 := .slice B31 m31 d31) (by repeat (first | with_reducible exact Upd.head _ | with_reducible apply Upd.tail)))⟩
        obtain ⟨gb9, s9, A9, n9, c9, l9, t9, B9, m9, d9, k9, rfl, rfl, hs9, ⟨hF9, hG9⟩, hk9⟩ := hcut
        replace K := (HR0 _ _ _ _ _ _ _ _ _ _ _).1 hk9
        clear r hk9 HR0
        have r := K.rawS
        have HN2 := Lib.hid (show sumK1 (ratL l) (j + 1) = some (q + x.rat) ∧ fitsF (q + x.rat) = true ∧ StdF s9 l9 t9 k9 (q + x.rat) from ⟨HN.out.1, HN.out.2, hs9⟩)
        have HF9 := Lib.hid (show FrA w.heap.size A9 ∧ FrA w.heap.size B9 from ⟨hF9, hG9⟩)
        clear HAd hs9 hF9 hG9 HN
        go_wp2_with (first | ((first | (apply K.alloc; rfl; rfl; (first | with_reducible exact big_zero | with_reducible exact frac_zero)) | (apply K.box; rfl; rfl; rfl)); clear K r; (first | ((fail_if_success revert b0); intro W b0 K) | ((fail_if_success revert b1); intro W b1 K) | ((fail_if_success revert b2); intro W b2 K) | ((fail_if_success revert b3); intro W b3 K) | ((fail_if_success revert b4); intro W b4 K) | ((fail_if_success revert b5); intro W b5 K) | ((fail_if_success revert b6); intro W b6 K) | ((fail_if_success revert b7); intro W b7 K)); have r := K.rawS) | (apply K.storeA; rfl; rfl; rfl; rfl; rfl; (repeat (first | with_reducible exact Upd.head _ | with_reducible apply Upd.tail)); (first | with_reducible exact big_size | with_reducible exact frac_size); rfl; rfl; rfl; clear K r; intro W K; have r := K.rawS))
        go_roundg (n - (j + 1))
        case rel => exact ⟨j + 1, q + x.rat, s9, t9, A9, B9, n9, c9, m9, d9, l9, k9, hlt, rfl, by go_num, HN2, HF9, (K.part (by repeat (first | with_reducible exact List.nil_sublist _ | with_reducible apply List.Sublist.cons_cons | with_reducible apply List.Sublist.cons))).less (by simp only [List.mem_cons, List.not_mem_nil, or_false, forall_eq_or_imp, forall_eq, true_or, or_true, and_self])⟩
        case measure => omega
    · have e : j = n := by omega
      subst e
      have hall : sumF 0 (ratL l) = some q := by
        rw [← sumK1_all, ratL_len, Hlen.out]; exact hsum
      have HS := Lib.hid (show (sumF 0 (ratL l)).isSome = true from by rw [hall]; rfl)
      have HV := Lib.hid (show ∀ q', sumF 0 (ratL l) = some q' → StdF s4 l4 t4 k4 q' ∧ fitsF q' = true from fun q' h => by
        rw [hall] at h
        have e := Option.some.inj h
        subst e
        exact ⟨hs4, fq⟩)
      clear hall hsum fq hs4
      go_wp2_with (first | ((first | (apply K.alloc; rfl; rfl; (first | with_reducible exact big_zero | with_reducible exact frac_zero)) | (apply K.box; rfl; rfl; rfl)); clear K r; (first | ((fail_if_success revert b0); intro W b0 K) | ((fail_if_success revert b1); intro W b1 K) | ((fail_if_success revert b2); intro W b2 K) | ((fail_if_success revert b3); intro W b3 K) | ((fail_if_success revert b4); intro W b4 K) | ((fail_if_success revert b5); intro W b5 K) | ((fail_if_success revert b6); intro W b6 K) | ((fail_if_success revert b7); intro W b7 K)); have r := K.rawS) | (apply K.storeA; rfl; rfl; rfl; rfl; rfl; (repeat (first | with_reducible exact Upd.head _ | with_reducible apply Upd.tail)); (first | with_reducible exact big_size | with_reducible exact frac_size); rfl; rfl; rfl; clear K r; intro W K; have r := K.rawS))
      have HE := Lib.hid (⟨s4, A4, n4, c4, l4, t4, B4, m4, d4, k4, by rw [HS.out], ⟨(by first | exact Rd.nil | exact K.rda), (by first | exact Rd.nil | exact K.rda)⟩, HV.out, HF4.out, K.1⟩ : SumR w l (.returned (.tuple #[.agg #[.int .i64 s4, .slice A4 n4 c4, .int .i64 t4, .slice B4 m4 d4], .bool true])) W)
      exact bodyPost_ret (v := .tuple #[.agg #[.int .i64 s4, .slice A4 n4 c4, .int .i64 t4, .slice B4 m4 d4], .bool true]) (by simp [results, Try.results20, go_sem, r]) rfl HE.out
end Go.Proofs.Ytinfcngkbdiddaa
