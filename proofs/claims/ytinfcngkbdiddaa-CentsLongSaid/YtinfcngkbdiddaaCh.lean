
/- Walks over Ints, Same and Few of the reference of layer 27. Conditions stand in each theorem. -/
import Derived.Test.YtinfcngkbdiddaaCa
import Derived.Test.YtinfcngkbdiddaaL
import Derived.Test.YtinfcngkbdiddaaCt
namespace Go.Proofs.Ytinfcngkbdiddaa
open Go.RowKit
set_option linter.unusedVariables false
set_option linter.unusedSimpArgs false

set_option maxRecDepth 100000 in
set_option maxHeartbeats 1000000 in
theorem rints_any (A A2 : Option Addr) (n cap n2 cap2 : Nat) (a b : List Int) (w : World) (ha : RdI w w.heap.size A n cap a) (hb : RdI w w.heap.size A2 n2 cap2 b) :
    Calls Try.prog 11 #[.slice A n cap, .slice A2 n2 cap2] w fun e w' => e = .returned (.bool (decide (a = b))) ∧ Below w.heap.size w w' := by
  have K := ((St.start w).oldRd ha).oldRd hb
  have r := K.raw
  have hla := ha.len
  have hlb := hb.len
  have hca := ha.caps
  have hcb := hb.caps
  obtain ⟨R, hR⟩ : ∃ R, R = decide (a = b) := ⟨_, rfl⟩
  rw [← hR]
  clear ha hb
  by_cases hnn : (n : Int) = (n2 : Int)
  case neg =>
    have hd2 : ((n : Int) != (n2 : Int)) = true := by simp [hnn]
    have HR := Lib.hid (show R = false from by rw [hR]; exact decide_eq_false fun h => hnn (by rw [← hla, ← hlb, h]))
    clear hR hnn hla hlb
    go_enter Try.func11, Try.ntmps11
    go_wp2_with (first | ((first | (apply K.alloc; rfl; rfl; (first | with_reducible exact big_zero | with_reducible exact frac_zero)) | (apply K.box; rfl; rfl; rfl)); clear K r; (first | ((fail_if_success revert b0); intro W b0 K) | ((fail_if_success revert b1); intro W b1 K) | ((fail_if_success revert b2); intro W b2 K) | ((fail_if_success revert b3); intro W b3 K) | ((fail_if_success revert b4); intro W b4 K) | ((fail_if_success revert b5); intro W b5 K) | ((fail_if_success revert b6); intro W b6 K) | ((fail_if_success revert b7); intro W b7 K)); have r := K.rawS) | (apply K.storeA; rfl; rfl; rfl; rfl; rfl; (repeat (first | with_reducible exact Upd.head _ | with_reducible apply Upd.tail)); (first | with_reducible exact big_size | with_reducible exact frac_size); rfl; rfl; rfl; clear K r; intro W K; have r := K.rawS))
    go_ret
    exact ⟨by rw [HR.out]; first | done | rfl, K.1⟩
  obtain rfl : n = n2 := by omega
  have hd2 : ((n : Int) != (n : Int)) = false := by simp
  have HEq := Lib.hid (show (∀ j, j < n → gi a j = gi b j) → R = true from fun h => by rw [hR]; exact decide_eq_true (gi_list (by omega) (by rw [hla]; exact h)))
  have HNe := Lib.hid (show ∀ j, j < n → gi a j ≠ gi b j → R = false from fun j _ h => by rw [hR]; exact decide_eq_false fun h1 => h (by rw [h1]))
  clear hla hlb hR hnn
  go_enter Try.func11, Try.ntmps11
  go_wp2_with (first | ((first | (apply K.alloc; rfl; rfl; (first | with_reducible exact big_zero | with_reducible exact frac_zero)) | (apply K.box; rfl; rfl; rfl)); clear K r; (first | ((fail_if_success revert b0); intro W b0 K) | ((fail_if_success revert b1); intro W b1 K) | ((fail_if_success revert b2); intro W b2 K) | ((fail_if_success revert b3); intro W b3 K) | ((fail_if_success revert b4); intro W b4 K) | ((fail_if_success revert b5); intro W b5 K) | ((fail_if_success revert b6); intro W b6 K) | ((fail_if_success revert b7); intro W b7 K)); have r := K.rawS) | (apply K.storeA; rfl; rfl; rfl; rfl; rfl; (repeat (first | with_reducible exact Upd.head _ | with_reducible apply Upd.tail)); (first | with_reducible exact big_size | with_reducible exact frac_size); rfl; rfl; rfl; clear K r; intro W K; have r := K.rawS))
  go_loopg [5] n (fun gk i wr => ∃ k : Nat, k ≤ n ∧ gk = n - k ∧ i = .int .i64 k ∧ (∀ j, j < k → gi a j = gi b j) ∧ St w [] [⟨rdP A2 n cap2 b, oldS w⟩, ⟨rdP A n cap a, oldS w⟩] wr)
  case atStart => exact ⟨0, Nat.zero_le _, rfl, rfl, (fun j hj => absurd hj (by omega)), K⟩
  case round =>
    clear K r
    obtain ⟨k, hk, rfl, rfl, hall, K⟩ := hrel
    have Hall := Lib.hid hall
    clear hall
    by_cases hlt : k < n
    · obtain ⟨c1, o1, x, rfl, hc1, hx, d0⟩ := (show RdI wr wr.heap.size A n cap a from K.rd (by repeat (first | with_reducible exact List.mem_cons_self | with_reducible apply List.mem_cons_of_mem))).atI hlt
      obtain ⟨c2, o2, y, rfl, hc2, hy, d1⟩ := (show RdI wr wr.heap.size A2 n cap2 b from K.rd (by repeat (first | with_reducible exact List.mem_cons_self | with_reducible apply List.mem_cons_of_mem))).atI hlt
      have Hx := Lib.hid (gi_eq hx); have Hy := Lib.hid (gi_eq hy)
      have hki : (k : Int) < (n : Int) := by omega
      have hk0 : (0 : Int) ≤ (k : Int) := by omega
      clear hx hy
      have r := K.rawS
      by_cases hxy : x = y
      · have hdd : (x != y) = false := by simp [hxy]
        have Hn := Lib.hid (show ∀ j, j < k + 1 → gi a j = gi b j from fun j hj => by
          by_cases e : j = k
          · subst e; rw [Hx.out, Hy.out]; exact hxy
          · exact Hall.out j (by omega))
        clear hxy
        go_wp2_with fail
        go_quiet (fail)
        go_wp2
        go_roundg (n - (k + 1))
        case rel => exact ⟨k + 1, by omega, rfl, by go_num, Hn.out, K.drewN _⟩
        case measure => omega
      · have hdd : (x != y) = true := by simp [hxy]
        have Hf := Lib.hid (HNe.out k hlt (by rw [Hx.out, Hy.out]; exact hxy))
        clear hxy
        go_wp2_with fail
        go_quiet (fail)
        go_wp2
        go_ret
        exact ⟨by rw [Hf.out]; first | done | rfl, (K.drewN _).1⟩
    · have ee : k = n := by omega
      subst ee
      have hd0 : decide (k < k) = false := by simp
      have Hf := Lib.hid (HEq.out Hall.out)
      clear hlt
      have r := K.rawS
      go_wp2
      go_ret
      exact ⟨by rw [Hf.out]; first | done | rfl, K.1⟩
theorem fv_ext {x y : Fv} : (x.s = y.s ∧ x.l = y.l ∧ x.t = y.t ∧ x.m = y.m) ↔ x = y :=
  ⟨fun ⟨e1, e2, e3, e4⟩ => by cases x; cases y; simp_all, fun e => by subst e; exact ⟨rfl, rfl, rfl, rfl⟩⟩
instance fvDec : DecidableEq Fv := fun x y => decidable_of_iff _ fv_ext
theorem fv_same (x y : Fv) : sameF x.s x.l x.t x.m y.s y.l y.t y.m = decide (x = y) := by
  unfold sameF sameB
  rw [← Bool.decide_and]
  refine decide_eq_decide.2 ⟨fun ⟨⟨e1, e2⟩, e3, e4⟩ => ?_, fun e => ?_⟩
  · cases x; cases y; simp_all
  · subst e; exact ⟨⟨rfl, rfl⟩, rfl, rfl⟩
set_option maxRecDepth 100000 in
set_option maxHeartbeats 2000000 in
theorem rsame_any (A A2 : Option Addr) (n cap n2 cap2 : Nat) (a b : List Fv) (w : World) (ha : RdF w w.heap.size A n cap a) (hb : RdF w w.heap.size A2 n2 cap2 b) :
    Calls Try.prog 12 #[.slice A n cap, .slice A2 n2 cap2] w fun e w' => e = .returned (.bool (decide (a = b))) ∧ Below w.heap.size w w' := by
  have K := St.start w
  have r := K.raw
  have hla := ha.len
  have hlb := hb.len
  have hca := ha.caps
  have hcb := hb.caps
  have HA := Lib.hid ha
  have HB := Lib.hid hb
  obtain ⟨R, hR⟩ : ∃ R, R = decide (a = b) := ⟨_, rfl⟩
  rw [← hR]
  clear ha hb
  by_cases hnn : (n : Int) = (n2 : Int)
  case neg =>
    have hd2 : ((n : Int) != (n2 : Int)) = true := by simp [hnn]
    have HR := Lib.hid (show R = false from by rw [hR]; exact decide_eq_false fun h => hnn (by rw [← hla, ← hlb, h]))
    clear hR hnn hla hlb
    go_enter Try.func12, Try.ntmps12
    go_wp2_with (first | ((first | (apply K.alloc; rfl; rfl; (first | with_reducible exact big_zero | with_reducible exact frac_zero)) | (apply K.box; rfl; rfl; rfl)); clear K r; (first | ((fail_if_success revert b0); intro W b0 K) | ((fail_if_success revert b1); intro W b1 K) | ((fail_if_success revert b2); intro W b2 K) | ((fail_if_success revert b3); intro W b3 K) | ((fail_if_success revert b4); intro W b4 K) | ((fail_if_success revert b5); intro W b5 K) | ((fail_if_success revert b6); intro W b6 K) | ((fail_if_success revert b7); intro W b7 K)); have r := K.rawS) | (apply K.storeA; rfl; rfl; rfl; rfl; rfl; (repeat (first | with_reducible exact Upd.head _ | with_reducible apply Upd.tail)); (first | with_reducible exact big_size | with_reducible exact frac_size); rfl; rfl; rfl; clear K r; intro W K; have r := K.rawS))
    go_ret
    exact ⟨by rw [HR.out]; first | done | rfl, K.1⟩
  obtain rfl : n = n2 := by omega
  have hd2 : ((n : Int) != (n : Int)) = false := by simp
  have HEq := Lib.hid (show (∀ j : Nat, j < n → a[j]? = b[j]?) → R = true from fun h => by
    rw [hR]
    refine decide_eq_true (List.ext_getElem? fun j => ?_)
    by_cases hj : j < n
    · exact h j hj
    · rw [List.getElem?_eq_none (by omega), List.getElem?_eq_none (by omega)])
  have HNe := Lib.hid (show ∀ (j : Nat) x y, a[j]? = some x → b[j]? = some y → x ≠ y → R = false from fun j x y h1 h2 h3 => by
    rw [hR]
    refine decide_eq_false fun h => h3 ?_
    rw [h, h2] at h1
    exact (Option.some.inj h1).symm)
  clear hla hlb hR hnn
  go_enter Try.func12, Try.ntmps12
  go_wp2_with (first | ((first | (apply K.alloc; rfl; rfl; (first | with_reducible exact big_zero | with_reducible exact frac_zero)) | (apply K.box; rfl; rfl; rfl)); clear K r; (first | ((fail_if_success revert b0); intro W b0 K) | ((fail_if_success revert b1); intro W b1 K) | ((fail_if_success revert b2); intro W b2 K) | ((fail_if_success revert b3); intro W b3 K) | ((fail_if_success revert b4); intro W b4 K) | ((fail_if_success revert b5); intro W b5 K) | ((fail_if_success revert b6); intro W b6 K) | ((fail_if_success revert b7); intro W b7 K)); have r := K.rawS) | (apply K.storeA; rfl; rfl; rfl; rfl; rfl; (repeat (first | with_reducible exact Upd.head _ | with_reducible apply Upd.tail)); (first | with_reducible exact big_size | with_reducible exact frac_size); rfl; rfl; rfl; clear K r; intro W K; have r := K.rawS))
  go_loopg [5] n (fun gk i wr => ∃ k : Nat, k ≤ n ∧ gk = n - k ∧ i = .int .i64 k ∧ Hid (∀ j : Nat, j < k → a[j]? = b[j]?) ∧ Below w.heap.size w wr)
  case atStart => exact ⟨0, Nat.zero_le _, rfl, rfl, Lib.hid (fun j hj => absurd hj (by omega)), K.1⟩
  case round =>
    clear K r
    obtain ⟨k, hk, rfl, rfl, Hall, hbel⟩ := hrel
    by_cases hlt : k < n
    · have K := (St.start w).keep hbel
      obtain ⟨eb1, off1, A1, n1, c1, B1, m1, d1, x, hA1, hbB1, hx1, ⟨z0, z1, z2, z3⟩, r1, q1⟩ := HA.out.atF hlt
      subst hA1
      have Ex1 := Lib.hid (fun W (h : Below w.heap.size w W) => (⟨(h.cell (p := ⟨eb1, off1 + k * 4, none⟩) hbB1).trans z0, (h.cell (p := ⟨eb1, off1 + k * 4 + 1, none⟩) hbB1).trans z1, (h.cell (p := ⟨eb1, off1 + k * 4 + 2, none⟩) hbB1).trans z2, (h.cell (p := ⟨eb1, off1 + k * 4 + 3, none⟩) hbB1).trans z3⟩ : W.cell? ⟨eb1, off1 + k * 4, none⟩ = some (.int .i64 (x).s) ∧ W.cell? ⟨eb1, off1 + k * 4 + 1, none⟩ = some (.slice A1 n1 c1) ∧ W.cell? ⟨eb1, off1 + k * 4 + 2, none⟩ = some (.int .i64 (x).t) ∧ W.cell? ⟨eb1, off1 + k * 4 + 3, none⟩ = some (.slice B1 m1 d1)))
      have hki : (k : Int) < (n : Int) := by omega
      have hk0 : (0 : Int) ≤ (k : Int) := by omega
      have hcap1 := r1.caps
      have hcbp1 := q1.caps
      replace K := (K.oldRd r1).oldRd q1
      have Hx1 := Lib.hid hx1
      clear hx1 z0 z1 z2 z3 r1 q1
      obtain ⟨eb2, off2, A2, n2, c2, B2, m2, d2, y, hA2, hbB2, hx2, ⟨z0, z1, z2, z3⟩, r2, q2⟩ := HB.out.atF hlt
      subst hA2
      have Ex2 := Lib.hid (fun W (h : Below w.heap.size w W) => (⟨(h.cell (p := ⟨eb2, off2 + k * 4, none⟩) hbB2).trans z0, (h.cell (p := ⟨eb2, off2 + k * 4 + 1, none⟩) hbB2).trans z1, (h.cell (p := ⟨eb2, off2 + k * 4 + 2, none⟩) hbB2).trans z2, (h.cell (p := ⟨eb2, off2 + k * 4 + 3, none⟩) hbB2).trans z3⟩ : W.cell? ⟨eb2, off2 + k * 4, none⟩ = some (.int .i64 (y).s) ∧ W.cell? ⟨eb2, off2 + k * 4 + 1, none⟩ = some (.slice A2 n2 c2) ∧ W.cell? ⟨eb2, off2 + k * 4 + 2, none⟩ = some (.int .i64 (y).t) ∧ W.cell? ⟨eb2, off2 + k * 4 + 3, none⟩ = some (.slice B2 m2 d2)))
      have hki : (k : Int) < (n : Int) := by omega
      have hk0 : (0 : Int) ≤ (k : Int) := by omega
      have hcap2 := r2.caps
      have hcbp2 := q2.caps
      replace K := (K.oldRd r2).oldRd q2
      have Hx2 := Lib.hid hx2
      clear hx2 z0 z1 z2 z3 r2 q2
      obtain ⟨ι, f, hne, hfw, hfk, hfc⟩ := cls_st2 (fun W => St w [] [⟨rdP B2 m2 d2 y.m, oldS w⟩, ⟨rdP A2 n2 c2 y.l, oldS w⟩, ⟨rdP B1 m1 d1 x.m, oldS w⟩, ⟨rdP A1 n1 c1 x.l, oldS w⟩] W) wr K (fun W h => h.drew)
      have QC := Lib.hid (fun q => (gsame_any x.s x.t y.s y.t A1 B1 A2 B2 n1 c1 m1 d1 n2 c2 m2 d2 x.l x.m y.l y.m (f q) ((hfk q).rd (by repeat (first | with_reducible exact List.mem_cons_self | with_reducible apply List.mem_cons_of_mem))) ((hfk q).rd (by repeat (first | with_reducible exact List.mem_cons_self | with_reducible apply List.mem_cons_of_mem))) ((hfk q).rd (by repeat (first | with_reducible exact List.mem_cons_self | with_reducible apply List.mem_cons_of_mem))) ((hfk q).rd (by repeat (first | with_reducible exact List.mem_cons_self | with_reducible apply List.mem_cons_of_mem)))).mono fun e w'' ⟨he, hb⟩ => (⟨by rw [← fv_same]; exact he, hfc _ ((hfk q).keep hb)⟩ : e = Ending.returned (.bool (decide (x = y))) ∧ ∃ s, w'' = f s))
      have e1 := fun q => (Ex1.out (f q) (hfk q).1).1
      have e2 := fun q => (Ex1.out (f q) (hfk q).1).2.1
      have e3 := fun q => (Ex1.out (f q) (hfk q).1).2.2.1
      have e4 := fun q => (Ex1.out (f q) (hfk q).1).2.2.2
      have g1 := fun q => (Ex2.out (f q) (hfk q).1).1
      have g2 := fun q => (Ex2.out (f q) (hfk q).1).2.1
      have g3 := fun q => (Ex2.out (f q) (hfk q).1).2.2.1
      have g4 := fun q => (Ex2.out (f q) (hfk q).1).2.2.2
      have Hfw := Lib.hid hfw
      have Hfk := Lib.hid (fun q => (hfk q).1)
      clear hfw hfk hfc K hbel
      by_cases hxy : x = y
      · rw [decide_eq_true hxy] at QC
        have Hn := Lib.hid (show ∀ j : Nat, j < k + 1 → a[j]? = b[j]? from fun j hj => by
          by_cases e : j = k
          · subst e; rw [Hx1.out, Hx2.out, hxy]
          · exact Hall.out j (by omega))
        clear hxy Hall
        go_upto_region 6 with fail
        refine wp_region_cls2 (C := fun w' => ∃ n, w' = f n) (by kernel_rfl) (by kernel_rfl) Hfw.out ?_
        repeat (first
          | go_big_quiet_skip
          | (go_big_quiet_want; go_big_quiet_op; first | go_big_quiet_on | go_big_quiet_call ((go_at_call 17; with_reducible exact QC.out _))))
        refine wpQuiet_nil ?_
        rintro _ ⟨nq, rfl⟩
        have hB := Hfk.out nq
        clear QC e1 e2 e3 e4 g1 g2 g3 g4
        go_wp2
        go_roundg (n - (k + 1))
        case rel => exact ⟨k + 1, by omega, rfl, by go_num, Hn, hB⟩
        case measure => omega
      · rw [decide_eq_false hxy] at QC
        have Hf := Lib.hid (HNe.out k x y Hx1.out Hx2.out hxy)
        clear hxy Hall
        go_upto_region 6 with fail
        refine wp_region_cls2 (C := fun w' => ∃ n, w' = f n) (by kernel_rfl) (by kernel_rfl) Hfw.out ?_
        repeat (first
          | go_big_quiet_skip
          | (go_big_quiet_want; go_big_quiet_op; first | go_big_quiet_on | go_big_quiet_call ((go_at_call 17; with_reducible exact QC.out _))))
        refine wpQuiet_nil ?_
        rintro _ ⟨nq, rfl⟩
        have hB := Hfk.out nq
        clear QC e1 e2 e3 e4 g1 g2 g3 g4
        go_wp2
        go_ret
        exact ⟨by rw [Hf.out]; first | done | rfl, hB⟩
    · have ee : k = n := by omega
      subst ee
      have hd0 : decide (k < k) = false := by simp
      have Hf := Lib.hid (HEq.out Hall.out)
      clear hlt Hall
      go_wp2
      go_ret
      exact ⟨by rw [Hf.out]; first | done | rfl, hbel⟩
/-- at most 12 fractions with at most 4 digits in each part -/
def fewL (l : List Fv) : Bool := decide (l.length ≤ 12 ∧ ∀ x ∈ l, x.l.length ≤ 4 ∧ x.m.length ≤ 4)
set_option maxRecDepth 100000 in
set_option maxHeartbeats 1000000 in
theorem rfew_any (A : Option Addr) (n cap : Nat) (l : List Fv) (w : World) (hl : RdF w w.heap.size A n cap l) :
    Calls Try.prog 8 #[.slice A n cap] w fun e w' => e = .returned (.bool (fewL l)) ∧ Below w.heap.size w w' := by
  have hcaps := hl.caps
  have hlen := hl.len
  have HL := Lib.hid hl
  have K := St.start w
  have r := K.raw
  obtain ⟨R, hR⟩ : ∃ R, R = fewL l := ⟨_, rfl⟩
  rw [← hR]
  have HNo := Lib.hid (show ∀ x ∈ l, ¬ (x.l.length ≤ 4 ∧ x.m.length ≤ 4) → R = false from fun x hx h => by
    rw [hR]
    exact decide_eq_false fun h1 => h (h1.2 x hx))
  have HLong := Lib.hid (show 12 < n → R = false from fun h => by
    rw [hR]
    exact decide_eq_false fun h1 => by have := h1.1; omega)
  have HYes := Lib.hid (show n ≤ 12 → (∀ (i : Nat) x, i < n → l[i]? = some x → x.l.length ≤ 4 ∧ x.m.length ≤ 4) → R = true from fun h h1 => by
    rw [hR]
    refine decide_eq_true ⟨by omega, fun x hx => ?_⟩
    obtain ⟨i, hi, rfl⟩ := List.mem_iff_getElem.1 hx
    exact h1 i _ (by omega) (List.getElem?_eq_getElem hi))
  clear hl hR hlen
  go_enter Try.func8, Try.ntmps8
  go_wp2_with (first | ((first | (apply K.alloc; rfl; rfl; (first | with_reducible exact big_zero | with_reducible exact frac_zero)) | (apply K.box; rfl; rfl; rfl)); clear K r; (first | ((fail_if_success revert b0); intro W b0 K) | ((fail_if_success revert b1); intro W b1 K) | ((fail_if_success revert b2); intro W b2 K) | ((fail_if_success revert b3); intro W b3 K) | ((fail_if_success revert b4); intro W b4 K) | ((fail_if_success revert b5); intro W b5 K) | ((fail_if_success revert b6); intro W b6 K) | ((fail_if_success revert b7); intro W b7 K)); have r := K.rawS) | (apply K.storeA; rfl; rfl; rfl; rfl; rfl; (repeat (first | with_reducible exact Upd.head _ | with_reducible apply Upd.tail)); (first | with_reducible exact big_size | with_reducible exact frac_size); rfl; rfl; rfl; clear K r; intro W K; have r := K.rawS))
  go_loopg [3] n (fun gk s3 wr => ∃ k : Nat, k ≤ n ∧ k ≤ 13 ∧ gk = n - k ∧ s3 = .int .i64 k ∧ Hid (∀ (i : Nat) x, i < k → l[i]? = some x → x.l.length ≤ 4 ∧ x.m.length ≤ 4) ∧ St w [] [] wr)
  case atStart => exact ⟨0, Nat.zero_le _, by omega, rfl, rfl, Lib.hid (fun j x h => absurd h (by omega)), K⟩
  case round =>
    clear K r
    obtain ⟨k, hk, hk13, rfl, rfl, HA, K⟩ := hrel
    by_cases hlt : k < n
    · by_cases h13 : k ≤ 12
      · have h13i : (k : Int) ≤ 12 := by omega
        have h13d : decide ((k : Int) ≤ 12) = true := decide_eq_true h13i
        have hltd : decide (k < n) = true := decide_eq_true hlt
        obtain ⟨eb1, off1, A1, n1, c1, B1, m1, d1, x, hA1, hbB1, hx1, ⟨z0, z1, z2, z3⟩, r1, q1⟩ := HL.out.atF hlt
        subst hA1
        have Ex1 := Lib.hid (fun W (h : Below w.heap.size w W) => (⟨(h.cell (p := ⟨eb1, off1 + k * 4, none⟩) hbB1).trans z0, (h.cell (p := ⟨eb1, off1 + k * 4 + 1, none⟩) hbB1).trans z1, (h.cell (p := ⟨eb1, off1 + k * 4 + 2, none⟩) hbB1).trans z2, (h.cell (p := ⟨eb1, off1 + k * 4 + 3, none⟩) hbB1).trans z3⟩ : W.cell? ⟨eb1, off1 + k * 4, none⟩ = some (.int .i64 (x).s) ∧ W.cell? ⟨eb1, off1 + k * 4 + 1, none⟩ = some (.slice A1 n1 c1) ∧ W.cell? ⟨eb1, off1 + k * 4 + 2, none⟩ = some (.int .i64 (x).t) ∧ W.cell? ⟨eb1, off1 + k * 4 + 3, none⟩ = some (.slice B1 m1 d1)))
        have hki : (k : Int) < (n : Int) := by omega
        have hk0 : (0 : Int) ≤ (k : Int) := by omega
        have hcap1 := r1.caps
        have hcbp1 := q1.caps
        replace K := (K.oldRd r1).oldRd q1
        have Hx1 := Lib.hid hx1
        clear hx1 z0 z1 z2 z3 r1 q1
        have e1 := Ex1.out _ K.1
        have hq1 : x.l.length = n1 := ((show RdI wr wr.heap.size A1 n1 c1 x.l from K.rd (by repeat (first | with_reducible exact List.mem_cons_self | with_reducible apply List.mem_cons_of_mem)))).len
        have hq2 : x.m.length = m1 := ((show RdI wr wr.heap.size B1 m1 d1 x.m from K.rd (by repeat (first | with_reducible exact List.mem_cons_self | with_reducible apply List.mem_cons_of_mem)))).len
        have HN := Lib.hid (show ¬ (n1 ≤ 4 ∧ m1 ≤ 4) → R = false from fun h => HNo.out x (List.mem_of_getElem? Hx1.out) (by rw [hq1, hq2]; exact h))
        have HY := Lib.hid (show n1 ≤ 4 ∧ m1 ≤ 4 → ∀ (i : Nat) x, i < k + 1 → l[i]? = some x → x.l.length ≤ 4 ∧ x.m.length ≤ 4 from fun h i y hi hy => by
          by_cases e : i = k
          · subst e; rw [Hx1.out] at hy; cases hy; rw [hq1, hq2]; exact h
          · exact HA.out i y (by omega) hy)
        clear HA hq1 hq2
        by_cases g1 : (4 : Int) < (n1 : Int)
        · have g1d : decide ((4 : Int) < (n1 : Int)) = true := decide_eq_true g1
          have HX := Lib.hid (HN.out (by omega))
          clear HN HY
          go_wp2_with fail
          go_ret
          exact ⟨by rw [HX.out]; first | done | rfl, K.1⟩
        · have g1d : decide ((4 : Int) < (n1 : Int)) = false := decide_eq_false g1
          by_cases g2 : (4 : Int) < (m1 : Int)
          · have g2d : decide ((4 : Int) < (m1 : Int)) = true := decide_eq_true g2
            have HX := Lib.hid (HN.out (by omega))
            clear HN HY
            go_wp2_with fail
            go_ret
            exact ⟨by rw [HX.out]; first | done | rfl, K.1⟩
          · have g2d : decide ((4 : Int) < (m1 : Int)) = false := decide_eq_false g2
            have HX := Lib.hid (HY.out (by omega))
            clear HN HY
            go_wp2_with fail
            go_roundg (n - (k + 1))
            case rel => exact ⟨k + 1, hlt, by omega, rfl, by go_num, HX, K.less (fun _ h => by cases h)⟩
            case measure => omega
      · have h13i : ¬ (k : Int) ≤ 12 := by omega
        have h13d : decide ((k : Int) ≤ 12) = false := decide_eq_false h13i
        have hltd : decide (k < n) = true := decide_eq_true hlt
        have HX := Lib.hid (HLong.out (by omega))
        have h12 : ¬ (n : Int) ≤ 12 := by omega
        have h12d : decide ((n : Int) ≤ 12) = false := decide_eq_false h12
        clear HA HNo HYes HLong
        go_wp2_with fail
        go_ret
        exact ⟨by rw [HX.out]; first | done | simp [h12d], K.1⟩
    · have e : n = k := by omega
      subst e
      have hltd : decide (n < n) = false := by simp
      by_cases h12 : (n : Int) ≤ 12
      · have h12d : decide ((n : Int) ≤ 12) = true := decide_eq_true h12
        have HX := Lib.hid (HYes.out (by omega) HA.out)
        clear HA HNo HYes HLong
        go_wp2_with fail
        go_ret
        exact ⟨by rw [HX.out]; first | done | simp [h12d], K.1⟩
      · have h12d : decide ((n : Int) ≤ 12) = false := decide_eq_false h12
        have HX := Lib.hid (HLong.out (by omega))
        clear HA HNo HYes HLong
        go_wp2_with fail
        go_ret
        exact ⟨by rw [HX.out]; first | done | simp [h12d], K.1⟩
end Go.Proofs.Ytinfcngkbdiddaa
