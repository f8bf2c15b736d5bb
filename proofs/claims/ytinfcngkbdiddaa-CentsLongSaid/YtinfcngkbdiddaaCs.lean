
/- Walk over sum of package cents. Conditions stand in each theorem. -/
import Derived.Test.YtinfcngkbdiddaaCn
namespace Go.Proofs.Ytinfcngkbdiddaa
open Go.RowKit
set_option linter.unusedVariables false
set_option linter.unusedSimpArgs false

theorem addK_fits {x y : Rat} (h : addK x y = true) : fitsF (x + y) = true := by
  unfold addK sumK at h
  simp only [Bool.and_eq_true] at h
  rw [← rat_add]
  exact divInt_fits (den_mul_pos x y) h.1.2.2 h.2
theorem St.part {w W : World} {L L' : List Blk} {D : List Hl} (h : St w L D W) (hs : L'.Sublist L) : St w L' D W :=
  h.pick (fun p hp => hs.subset hp) (h.2.2.1.sublist hs)
/-- the error of a sum -/
def smE (l : List Fv) : Int := if l.all Fv.ok = true then (if (sumF 0 (l.map Fv.rat)).isSome = true then 0 else 6) else 0
/-- what a call of sum leaves -/
def SumP (w : World) (l : List Fv) (e : Ending) (w' : World) : Prop :=
  ∃ s A n cap a t A' n' cap' a', e = .returned (.tuple #[.agg #[.int .i64 s, .slice A n cap, .int .i64 t, .slice A' n' cap'], .bool (l.all Fv.ok), .int .i64 (smE l)]) ∧ (RdI w' w'.heap.size A n cap a ∧ RdI w' w'.heap.size A' n' cap' a') ∧ (∀ q, l.all Fv.ok = true → sumF 0 (l.map Fv.rat) = some q → StdF s a t a' q ∧ fitsF q = true) ∧ (FrA w.heap.size A ∧ FrA w.heap.size A') ∧ Below w.heap.size w w'
theorem fv_std {x : Fv} (h : x.ok = true) : StdF x.s x.l x.t x.m x.rat ∧ fitsF x.rat = true := rightF_std h
theorem fitsF_zero : fitsF 0 = true := by decide +kernel
set_option maxRecDepth 100000 in
set_option maxHeartbeats 4000000 in
theorem csum_any (A : Option Addr) (n cap : Nat) (l : List Fv) (w : World) (hl : RdF w w.heap.size A n cap l) :
    Calls Try.prog 37 #[.slice A n cap] w (SumP w l) := by
  have hcaps := hl.caps
  have Hlen := Lib.hid hl.len
  have HL := Lib.hid hl
  have K := St.start w
  have r := K.raw
  clear hl
  go_enter Try.func37, Try.ntmps37
  go_wp2_with (first | ((first | (apply K.alloc; rfl; rfl; (first | with_reducible exact big_zero | with_reducible exact frac_zero)) | (apply K.box; rfl; rfl; rfl)); clear K r; (first | ((fail_if_success revert b0); intro W b0 K) | ((fail_if_success revert b1); intro W b1 K) | ((fail_if_success revert b2); intro W b2 K) | ((fail_if_success revert b3); intro W b3 K) | ((fail_if_success revert b4); intro W b4 K) | ((fail_if_success revert b5); intro W b5 K) | ((fail_if_success revert b6); intro W b6 K) | ((fail_if_success revert b7); intro W b7 K)); have r := K.rawS) | (apply K.storeA; rfl; rfl; rfl; rfl; rfl; (repeat (first | with_reducible exact Upd.head _ | with_reducible apply Upd.tail)); (first | with_reducible exact big_size | with_reducible exact frac_size); rfl; rfl; rfl; clear K r; intro W K; have r := K.rawS))
  refine (cwhole_any 0 _ (by decide)).mono ?_
  rintro e W' ⟨s3, A3, n3, c3, l3, t3, B3, m3, d3, k3, rfl, ⟨hra, hrb⟩, hs3, ⟨hfa, hfb⟩, hb⟩
  have hf3 := Lib.hid (hfa.mono K.1.size)
  have hg3 := Lib.hid (hfb.mono K.1.size)
  replace K := K.retF hb hra hrb hfa hfb
  clear r
  have r := K.rawS
  clear hra hrb hfa hfb hb
  have hs3 : StdF s3 l3 t3 k3 0 := by rw [Rat.intCast_zero] at hs3; exact hs3
  have Hs3 := Lib.hid hs3
  clear hs3
  go_wp2_with (first | ((first | (apply K.alloc; rfl; rfl; (first | with_reducible exact big_zero | with_reducible exact frac_zero)) | (apply K.box; rfl; rfl; rfl)); clear K r; (first | ((fail_if_success revert b0); intro W b0 K) | ((fail_if_success revert b1); intro W b1 K) | ((fail_if_success revert b2); intro W b2 K) | ((fail_if_success revert b3); intro W b3 K) | ((fail_if_success revert b4); intro W b4 K) | ((fail_if_success revert b5); intro W b5 K) | ((fail_if_success revert b6); intro W b6 K) | ((fail_if_success revert b7); intro W b7 K)); have r := K.rawS) | (apply K.storeA; rfl; rfl; rfl; rfl; rfl; (repeat (first | with_reducible exact Upd.head _ | with_reducible apply Upd.tail)); (first | with_reducible exact big_size | with_reducible exact frac_size); rfl; rfl; rfl; clear K r; intro W K; have r := K.rawS))
  go_loopg [15] n (fun gk s15 wr => ∃ k : Nat, k ≤ n ∧ gk = n - k ∧ s15 = .int .i64 k ∧ Hid (∀ (j : Nat) x, j < k → l[j]? = some x → x.ok = true) ∧ St w [(b1, #[.int .i64 s3, .slice A3 n3 c3, .int .i64 t3, .slice B3 m3 d3], 35), (b0, #[.int .i64 0, .slice none 0 0, .int .i64 0, .slice none 0 0], 35)] [⟨rdP B3 m3 d3 k3, rdS B3 m3⟩, ⟨rdP A3 n3 c3 l3, rdS A3 n3⟩] wr)
  case atStart => exact ⟨0, Nat.zero_le _, rfl, rfl, Lib.hid (fun j x h => absurd h (by omega)), K⟩
  case round =>
    clear K r
    obtain ⟨k, hk, rfl, rfl, HA, K⟩ := hrel
    have r := K.rawS
    by_cases hlt : k < n
    · obtain ⟨b, off, A1, n1, c1, B1, m1, d1, x, rfl, hbB, hx, ⟨z0, z1, z2, z3⟩, r1, r2⟩ := HL.out.atF hlt
      have e0 := (K.1.cell (p := ⟨b, off + k * 4, none⟩) hbB).trans z0
      have e1 := (K.1.cell (p := ⟨b, off + k * 4 + 1, none⟩) hbB).trans z1
      have e2 := (K.1.cell (p := ⟨b, off + k * 4 + 2, none⟩) hbB).trans z2
      have e3 := (K.1.cell (p := ⟨b, off + k * 4 + 3, none⟩) hbB).trans z3
      have hki : (k : Int) < (n : Int) := by omega
      have hk0 : (0 : Int) ≤ (k : Int) := by omega
      have hcap1 := r1.caps
      have hcap2 := r2.caps
      replace K := (K.oldRd r1).oldRd r2
      have Hx := Lib.hid hx
      clear hx z0 z1 z2 z3
      have HR := Lib.hid (fun W a b => fRight_any x.s x.t A1 B1 n1 c1 m1 d1 x.l x.m W a b)
      have hok : rightF x.s x.l x.t x.m = x.ok := rfl
      rw [hok] at HR
      clear hok r1 r2
      cases hin : x.ok
      · rw [hin] at HR
        have Hno := Lib.hid (show l.all Fv.ok = false by
          rw [List.all_eq_false]; exact ⟨x, List.mem_of_getElem? Hx.out, by simp [hin]⟩)
        have HE0 := Lib.hid (show smE l = 0 from by unfold smE; rw [Hno.out]; rfl)
        clear hin
        go_wp2_with (first | ((first | (apply K.alloc; rfl; rfl; (first | with_reducible exact big_zero | with_reducible exact frac_zero)) | (apply K.box; rfl; rfl; rfl)); clear K r; (first | ((fail_if_success revert b0); intro W b0 K) | ((fail_if_success revert b1); intro W b1 K) | ((fail_if_success revert b2); intro W b2 K) | ((fail_if_success revert b3); intro W b3 K) | ((fail_if_success revert b4); intro W b4 K) | ((fail_if_success revert b5); intro W b5 K) | ((fail_if_success revert b6); intro W b6 K) | ((fail_if_success revert b7); intro W b7 K)); have r := K.rawS) | (apply K.storeA; rfl; rfl; rfl; rfl; rfl; (repeat (first | with_reducible exact Upd.head _ | with_reducible apply Upd.tail)); (first | with_reducible exact big_size | with_reducible exact frac_size); rfl; rfl; rfl; clear K r; intro W K; have r := K.rawS))
        refine (HR.out _ (by first | exact Rd.nil | exact K.rda) (by first | exact Rd.nil | exact K.rda)).mono ?_
        rintro e W' ⟨rfl, hb⟩
        replace K := K.keep hb
        clear r
        have r := K.rawS
        clear hb
        go_wp2_with (first | ((first | (apply K.alloc; rfl; rfl; (first | with_reducible exact big_zero | with_reducible exact frac_zero)) | (apply K.box; rfl; rfl; rfl)); clear K r; (first | ((fail_if_success revert b0); intro W b0 K) | ((fail_if_success revert b1); intro W b1 K) | ((fail_if_success revert b2); intro W b2 K) | ((fail_if_success revert b3); intro W b3 K) | ((fail_if_success revert b4); intro W b4 K) | ((fail_if_success revert b5); intro W b5 K) | ((fail_if_success revert b6); intro W b6 K) | ((fail_if_success revert b7); intro W b7 K)); have r := K.rawS) | (apply K.storeA; rfl; rfl; rfl; rfl; rfl; (repeat (first | with_reducible exact Upd.head _ | with_reducible apply Upd.tail)); (first | with_reducible exact big_size | with_reducible exact frac_size); rfl; rfl; rfl; clear K r; intro W K; have r := K.rawS))
        have HE := Lib.hid (⟨s3, A3, n3, c3, l3, t3, B3, m3, d3, k3, by rw [Hno.out, HE0.out], ⟨(by first | exact Rd.nil | exact K.rda), (by first | exact Rd.nil | exact K.rda)⟩, (fun q h => by rw [Hno.out] at h; cases h), ⟨hf3.out, hg3.out⟩, K.1⟩ : SumP w l (.returned (.tuple #[.agg #[.int .i64 s3, .slice A3 n3 c3, .int .i64 t3, .slice B3 m3 d3], .bool false, .int .i64 0])) W)
        exact bodyPost_ret (v := .tuple #[.agg #[.int .i64 s3, .slice A3 n3 c3, .int .i64 t3, .slice B3 m3 d3], .bool false, .int .i64 0]) (by simp [results, Try.results37, go_sem, r]) rfl HE.out
      · rw [hin] at HR
        have HA2 := Lib.hid (show ∀ (j : Nat) x, j < k + 1 → l[j]? = some x → x.ok = true from fun j y hj hy => by
          by_cases e : j = k
          · subst e; rw [Hx.out] at hy; cases hy; exact hin
          · exact HA.out j y (by omega) hy)
        clear hin HA
        go_wp2_with (first | ((first | (apply K.alloc; rfl; rfl; (first | with_reducible exact big_zero | with_reducible exact frac_zero)) | (apply K.box; rfl; rfl; rfl)); clear K r; (first | ((fail_if_success revert b0); intro W b0 K) | ((fail_if_success revert b1); intro W b1 K) | ((fail_if_success revert b2); intro W b2 K) | ((fail_if_success revert b3); intro W b3 K) | ((fail_if_success revert b4); intro W b4 K) | ((fail_if_success revert b5); intro W b5 K) | ((fail_if_success revert b6); intro W b6 K) | ((fail_if_success revert b7); intro W b7 K)); have r := K.rawS) | (apply K.storeA; rfl; rfl; rfl; rfl; rfl; (repeat (first | with_reducible exact Upd.head _ | with_reducible apply Upd.tail)); (first | with_reducible exact big_size | with_reducible exact frac_size); rfl; rfl; rfl; clear K r; intro W K; have r := K.rawS))
        refine (HR.out _ (by first | exact Rd.nil | exact K.rda) (by first | exact Rd.nil | exact K.rda)).mono ?_
        rintro e W' ⟨rfl, hb⟩
        replace K := K.keep hb
        clear r
        have r := K.rawS
        clear hb
        go_wp2_with (first | ((first | (apply K.alloc; rfl; rfl; (first | with_reducible exact big_zero | with_reducible exact frac_zero)) | (apply K.box; rfl; rfl; rfl)); clear K r; (first | ((fail_if_success revert b0); intro W b0 K) | ((fail_if_success revert b1); intro W b1 K) | ((fail_if_success revert b2); intro W b2 K) | ((fail_if_success revert b3); intro W b3 K) | ((fail_if_success revert b4); intro W b4 K) | ((fail_if_success revert b5); intro W b5 K) | ((fail_if_success revert b6); intro W b6 K) | ((fail_if_success revert b7); intro W b7 K)); have r := K.rawS) | (apply K.storeA; rfl; rfl; rfl; rfl; rfl; (repeat (first | with_reducible exact Upd.head _ | with_reducible apply Upd.tail)); (first | with_reducible exact big_size | with_reducible exact frac_size); rfl; rfl; rfl; clear K r; intro W K; have r := K.rawS))
        go_roundg (n - (k + 1))
        case rel => exact ⟨k + 1, hlt, rfl, by go_num, HA2, (K.part (by repeat (first | with_reducible exact List.nil_sublist _ | with_reducible apply List.Sublist.cons_cons | with_reducible apply List.Sublist.cons))).less (by simp only [List.mem_cons, List.not_mem_nil, or_false, forall_eq_or_imp, forall_eq, true_or, or_true, and_self])⟩
        case measure => omega
    · have e : k = n := by omega
      subst e
      have Hyes := Lib.hid (show l.all Fv.ok = true by
        rw [List.all_eq_true]
        intro x hx
        obtain ⟨j, hj, rfl⟩ := List.mem_iff_getElem.1 hx
        exact HA.out j _ (by rw [Hlen.out] at hj; exact hj) (List.getElem?_eq_getElem hj))
      have HAll := Lib.hid HA.out
      clear HA
      go_wp2_with (first | ((first | (apply K.alloc; rfl; rfl; (first | with_reducible exact big_zero | with_reducible exact frac_zero)) | (apply K.box; rfl; rfl; rfl)); clear K r; (first | ((fail_if_success revert b0); intro W b0 K) | ((fail_if_success revert b1); intro W b1 K) | ((fail_if_success revert b2); intro W b2 K) | ((fail_if_success revert b3); intro W b3 K) | ((fail_if_success revert b4); intro W b4 K) | ((fail_if_success revert b5); intro W b5 K) | ((fail_if_success revert b6); intro W b6 K) | ((fail_if_success revert b7); intro W b7 K)); have r := K.rawS) | (apply K.storeA; rfl; rfl; rfl; rfl; rfl; (repeat (first | with_reducible exact Upd.head _ | with_reducible apply Upd.tail)); (first | with_reducible exact big_size | with_reducible exact frac_size); rfl; rfl; rfl; clear K r; intro W K; have r := K.rawS))
      go_loopg [26] k (fun gk s26 wr => ∃ (j : Nat) (q : Rat) (s4 t4 : Int) (A4 B4 : Option Addr) (n4 c4 m4 d4 : Nat) (l4 k4 : List Int), j ≤ k ∧ gk = k - j ∧ s26 = .int .i64 j ∧ Hid (sumK1 (l.map Fv.rat) j = some q ∧ fitsF q = true ∧ StdF s4 l4 t4 k4 q) ∧ Hid (FrA w.heap.size A4 ∧ FrA w.heap.size B4) ∧ St w [(b1, #[.int .i64 s4, .slice A4 n4 c4, .int .i64 t4, .slice B4 m4 d4], 35), (b0, #[.int .i64 0, .slice none 0 0, .int .i64 0, .slice none 0 0], 35)] [⟨rdP B4 m4 d4 k4, rdS B4 m4⟩, ⟨rdP A4 n4 c4 l4, rdS A4 n4⟩] wr)
      case atStart => exact ⟨0, 0, s3, t3, A3, B3, n3, c3, m3, d3, l3, k3, Nat.zero_le _, rfl, rfl, Lib.hid ⟨by unfold sumK1; rw [List.take_zero, sumF_nil], fitsF_zero, Hs3.out⟩, Lib.hid ⟨hf3.out, hg3.out⟩, K⟩
      case round =>
        clear K r
        obtain ⟨j, q, s4, t4, A4, B4, n4, c4, m4, d4, l4, k4, hj, rfl, rfl, HQ, HF4, K⟩ := hrel
        have r := K.rawS
        obtain ⟨hsum, fq, hs4⟩ := HQ.out
        by_cases hlt : j < k
        · obtain ⟨b, off, A1, n1, c1, B1, m1, d1, x, rfl, hbB, hx, ⟨z0, z1, z2, z3⟩, r1, r2⟩ := HL.out.atF hlt
          have e0 := (K.1.cell (p := ⟨b, off + j * 4, none⟩) hbB).trans z0
          have e1 := (K.1.cell (p := ⟨b, off + j * 4 + 1, none⟩) hbB).trans z1
          have e2 := (K.1.cell (p := ⟨b, off + j * 4 + 2, none⟩) hbB).trans z2
          have e3 := (K.1.cell (p := ⟨b, off + j * 4 + 3, none⟩) hbB).trans z3
          have hki : (j : Int) < (k : Int) := by omega
          have hk0 : (0 : Int) ≤ (j : Int) := by omega
          have hcap1 := r1.caps
          have hcap2 := r2.caps
          replace K := (K.oldRd r1).oldRd r2
          have Hx := Lib.hid hx
          clear hx z0 z1 z2 z3
          obtain ⟨hsx, fy⟩ := fv_std (HAll.out j x hlt Hx.out)
          have hst := sumK1_step (l := l.map Fv.rat) (k := j) (x := x.rat) (by rw [List.getElem?_map, Hx.out]; rfl)
          rw [hsum, Option.bind_some] at hst
          have HAd := Lib.hid (fun W a b c d => pAdd q x.rat s4 t4 x.s x.t A4 B4 A1 B1 n4 c4 m4 d4 n1 c1 m1 d1 l4 k4 x.l x.m W a b c d hs4 hsx fq fy)
          cases hk : addK q x.rat
          · rw [hk] at HAd hst
            have hnone : sumF 0 (l.map Fv.rat) = none := by
              rw [← sumK1_all]
              exact sumK1_none hst _ (by rw [List.length_map, Hlen.out]; omega)
            have HS := Lib.hid (show smE l = 6 from by unfold smE; rw [if_pos Hyes.out, hnone]; rfl)
            have HNo := Lib.hid hnone
            clear hnone hst hk hsum hsx fy fq hs4
            go_wp2_with (first | ((first | (apply K.alloc; rfl; rfl; (first | with_reducible exact big_zero | with_reducible exact frac_zero)) | (apply K.box; rfl; rfl; rfl)); clear K r; (first | ((fail_if_success revert b0); intro W b0 K) | ((fail_if_success revert b1); intro W b1 K) | ((fail_if_success revert b2); intro W b2 K) | ((fail_if_success revert b3); intro W b3 K) | ((fail_if_success revert b4); intro W b4 K) | ((fail_if_success revert b5); intro W b5 K) | ((fail_if_success revert b6); intro W b6 K) | ((fail_if_success revert b7); intro W b7 K)); have r := K.rawS) | (apply K.storeA; rfl; rfl; rfl; rfl; rfl; (repeat (first | with_reducible exact Upd.head _ | with_reducible apply Upd.tail)); (first | with_reducible exact big_size | with_reducible exact frac_size); rfl; rfl; rfl; clear K r; intro W K; have r := K.rawS))
            refine (HAd.out _ (by first | exact Rd.nil | exact K.rda) (by first | exact Rd.nil | exact K.rda) (by first | exact Rd.nil | exact K.rda) (by first | exact Rd.nil | exact K.rda)).mono ?_
            rintro e W' ⟨s5, A5, n5, c5, l5, t5, B5, m5, d5, k5, rfl, ⟨hra, hrb⟩, -, ⟨hfa, hfb⟩, hb⟩
            have hf5 := Lib.hid (hfa.mono K.1.size)
            have hg5 := Lib.hid (hfb.mono K.1.size)
            replace K := K.retF hb hra hrb hfa hfb
            clear r
            have r := K.rawS
            clear hra hrb hfa hfb hb
            clear HAd
            have e6 : binE true false = 6 := rfl
            rw [e6]
            go_wp2_with (first | ((first | (apply K.alloc; rfl; rfl; (first | with_reducible exact big_zero | with_reducible exact frac_zero)) | (apply K.box; rfl; rfl; rfl)); clear K r; (first | ((fail_if_success revert b0); intro W b0 K) | ((fail_if_success revert b1); intro W b1 K) | ((fail_if_success revert b2); intro W b2 K) | ((fail_if_success revert b3); intro W b3 K) | ((fail_if_success revert b4); intro W b4 K) | ((fail_if_success revert b5); intro W b5 K) | ((fail_if_success revert b6); intro W b6 K) | ((fail_if_success revert b7); intro W b7 K)); have r := K.rawS) | (apply K.storeA; rfl; rfl; rfl; rfl; rfl; (repeat (first | with_reducible exact Upd.head _ | with_reducible apply Upd.tail)); (first | with_reducible exact big_size | with_reducible exact frac_size); rfl; rfl; rfl; clear K r; intro W K; have r := K.rawS))
            have HE := Lib.hid (⟨s4, A4, n4, c4, l4, t4, B4, m4, d4, k4, by rw [Hyes.out, HS.out], ⟨(by first | exact Rd.nil | exact K.rda), (by first | exact Rd.nil | exact K.rda)⟩, (fun q _ h => by rw [HNo.out] at h; cases h), HF4.out, K.1⟩ : SumP w l (.returned (.tuple #[.agg #[.int .i64 s4, .slice A4 n4 c4, .int .i64 t4, .slice B4 m4 d4], .bool true, .int .i64 6])) W)
            exact bodyPost_ret (v := .tuple #[.agg #[.int .i64 s4, .slice A4 n4 c4, .int .i64 t4, .slice B4 m4 d4], .bool true, .int .i64 6]) (by simp [results, Try.results37, go_sem, r]) rfl HE.out
          · rw [hk] at HAd hst
            have HN := Lib.hid (show sumK1 (l.map Fv.rat) (j + 1) = some (q + x.rat) ∧ fitsF (q + x.rat) = true from ⟨by rw [hst]; rfl, addK_fits hk⟩)
            clear hst hk hsum hsx fy fq hs4
            go_wp2_with (first | ((first | (apply K.alloc; rfl; rfl; (first | with_reducible exact big_zero | with_reducible exact frac_zero)) | (apply K.box; rfl; rfl; rfl)); clear K r; (first | ((fail_if_success revert b0); intro W b0 K) | ((fail_if_success revert b1); intro W b1 K) | ((fail_if_success revert b2); intro W b2 K) | ((fail_if_success revert b3); intro W b3 K) | ((fail_if_success revert b4); intro W b4 K) | ((fail_if_success revert b5); intro W b5 K) | ((fail_if_success revert b6); intro W b6 K) | ((fail_if_success revert b7); intro W b7 K)); have r := K.rawS) | (apply K.storeA; rfl; rfl; rfl; rfl; rfl; (repeat (first | with_reducible exact Upd.head _ | with_reducible apply Upd.tail)); (first | with_reducible exact big_size | with_reducible exact frac_size); rfl; rfl; rfl; clear K r; intro W K; have r := K.rawS))
            refine (HAd.out _ (by first | exact Rd.nil | exact K.rda) (by first | exact Rd.nil | exact K.rda) (by first | exact Rd.nil | exact K.rda) (by first | exact Rd.nil | exact K.rda)).mono ?_
            rintro e W' ⟨s5, A5, n5, c5, l5, t5, B5, m5, d5, k5, rfl, ⟨hra, hrb⟩, ho, ⟨hfa, hfb⟩, hb⟩
            replace ho : StdF s5 l5 t5 k5 (q + x.rat) := ho
            have HN2 := Lib.hid (show sumK1 (l.map Fv.rat) (j + 1) = some (q + x.rat) ∧ fitsF (q + x.rat) = true ∧ StdF s5 l5 t5 k5 (q + x.rat) from ⟨HN.out.1, HN.out.2, ho⟩)
            clear HN ho
            have hf5 := Lib.hid (hfa.mono K.1.size)
            have hg5 := Lib.hid (hfb.mono K.1.size)
            replace K := K.retF hb hra hrb hfa hfb
            clear r
            have r := K.rawS
            clear hra hrb hfa hfb hb
            clear HAd
            have e6 : binE true true = 0 := rfl
            rw [e6]
            go_wp2_with (first | ((first | (apply K.alloc; rfl; rfl; (first | with_reducible exact big_zero | with_reducible exact frac_zero)) | (apply K.box; rfl; rfl; rfl)); clear K r; (first | ((fail_if_success revert b0); intro W b0 K) | ((fail_if_success revert b1); intro W b1 K) | ((fail_if_success revert b2); intro W b2 K) | ((fail_if_success revert b3); intro W b3 K) | ((fail_if_success revert b4); intro W b4 K) | ((fail_if_success revert b5); intro W b5 K) | ((fail_if_success revert b6); intro W b6 K) | ((fail_if_success revert b7); intro W b7 K)); have r := K.rawS) | (apply K.storeA; rfl; rfl; rfl; rfl; rfl; (repeat (first | with_reducible exact Upd.head _ | with_reducible apply Upd.tail)); (first | with_reducible exact big_size | with_reducible exact frac_size); rfl; rfl; rfl; clear K r; intro W K; have r := K.rawS))
            go_roundg (k - (j + 1))
            case rel => exact ⟨j + 1, q + x.rat, s5, t5, A5, B5, n5, c5, m5, d5, l5, k5, hlt, rfl, by go_num, HN2, Lib.hid ⟨hf5.out, hg5.out⟩, (K.part (by repeat (first | with_reducible exact List.nil_sublist _ | with_reducible apply List.Sublist.cons_cons | with_reducible apply List.Sublist.cons))).less (by simp only [List.mem_cons, List.not_mem_nil, or_false, forall_eq_or_imp, forall_eq, true_or, or_true, and_self])⟩
            case measure => omega
        · have e : j = k := by omega
          subst e
          have hall : sumF 0 (l.map Fv.rat) = some q := by
            rw [← sumK1_all, List.length_map, Hlen.out]; exact hsum
          have HS := Lib.hid (show smE l = 0 from by unfold smE; rw [if_pos Hyes.out, hall]; rfl)
          have HV := Lib.hid (show ∀ q', l.all Fv.ok = true → sumF 0 (l.map Fv.rat) = some q' → StdF s4 l4 t4 k4 q' ∧ fitsF q' = true from fun q' _ h => by
            rw [hall] at h
            have e := Option.some.inj h
            subst e
            exact ⟨hs4, fq⟩)
          clear hall hsum fq hs4
          go_wp2_with (first | ((first | (apply K.alloc; rfl; rfl; (first | with_reducible exact big_zero | with_reducible exact frac_zero)) | (apply K.box; rfl; rfl; rfl)); clear K r; (first | ((fail_if_success revert b0); intro W b0 K) | ((fail_if_success revert b1); intro W b1 K) | ((fail_if_success revert b2); intro W b2 K) | ((fail_if_success revert b3); intro W b3 K) | ((fail_if_success revert b4); intro W b4 K) | ((fail_if_success revert b5); intro W b5 K) | ((fail_if_success revert b6); intro W b6 K) | ((fail_if_success revert b7); intro W b7 K)); have r := K.rawS) | (apply K.storeA; rfl; rfl; rfl; rfl; rfl; (repeat (first | with_reducible exact Upd.head _ | with_reducible apply Upd.tail)); (first | with_reducible exact big_size | with_reducible exact frac_size); rfl; rfl; rfl; clear K r; intro W K; have r := K.rawS))
          have HE := Lib.hid (⟨s4, A4, n4, c4, l4, t4, B4, m4, d4, k4, by rw [Hyes.out, HS.out], ⟨(by first | exact Rd.nil | exact K.rda), (by first | exact Rd.nil | exact K.rda)⟩, HV.out, HF4.out, K.1⟩ : SumP w l (.returned (.tuple #[.agg #[.int .i64 s4, .slice A4 n4 c4, .int .i64 t4, .slice B4 m4 d4], .bool true, .int .i64 0])) W)
          exact bodyPost_ret (v := .tuple #[.agg #[.int .i64 s4, .slice A4 n4 c4, .int .i64 t4, .slice B4 m4 d4], .bool true, .int .i64 0]) (by simp [results, Try.results37, go_sem, r]) rfl HE.out
end Go.Proofs.Ytinfcngkbdiddaa
