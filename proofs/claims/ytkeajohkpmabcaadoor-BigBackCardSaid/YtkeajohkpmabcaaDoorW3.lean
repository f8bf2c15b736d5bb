/- Walks over compare and signed of package big, Or of package cmp, and Clone of ints. Conditions stand in each theorem. -/
import Derived.Test.YtkeajohkpmabcaaDoorW2
import Derived.Lib.LazyBuf
namespace Go.Proofs.YtkeajohkpmabcaaDoor
open Go.RowKit
set_option linter.unusedVariables false

theorem cmpI_lt {x y : Int} (h : x < y) : cmpI x y = -1 := if_pos h
theorem cmpI_gt {x y : Int} (h : y < x) : cmpI x y = 1 := by unfold cmpI; rw [if_neg (by omega), if_pos h]
theorem cmpI_eq (x : Int) : cmpI x x = 0 := by unfold cmpI; rw [if_neg (by omega), if_neg (by omega)]
/-- the order of two lists of digits of one length is that of the greatest digit that differs -/
theorem cmp_at {a b : List Int} {n m : Nat} (ha : DgOk a) (hb : DgOk b) (la : a.length = n) (lb : b.length = n) (hm : m < n) (he : ∀ j, m < j → j < n → gi a j = gi b j) (hne : gi a m ≠ gi b m) : cmpI (val a) (val b) = cmpI (gi a m) (gi b m) := by
  rw [val_vF la, val_vF lb]
  have h1 := ha.at la
  have h2 := hb.at lb
  rcases Int.lt_or_gt_of_ne hne with h | h
  · rw [cmpI_lt h, cmpI_lt (vF_less n hm h1 h2 h he)]
  · rw [cmpI_gt h, cmpI_gt (vF_less n hm h2 h1 h (fun j h3 h4 => (he j h3 h4).symm))]
set_option maxRecDepth 100000 in
set_option maxHeartbeats 1000000 in
theorem bcmpq_any (A A2 : Option Addr) (n cap n2 cap2 : Nat) (a b : List Int) (w : World) (ha : RdI w w.heap.size A n cap a) (hb : RdI w w.heap.size A2 n2 cap2 b) (ca : Cn a) (cb : Cn b) :
    Calls Tryd.prog 43 #[.slice A n cap, .slice A2 n2 cap2] w fun e w' => e = .returned (.int .i64 (cmpI (val a) (val b))) ∧ ∃ q, w' = w.drewN q := by
  have hla := ha.len
  have hlb := hb.len
  have hcap := ha.caps
  have hcap2 := hb.caps
  by_cases hnn : n = n2
  case neg =>
    have hd : ((n : Int) != (n2 : Int)) = true := by simp; omega
    have hc : cmpI (val a) (val b) = cmpI (n : Int) (n2 : Int) := by
      by_cases h : n < n2
      · rw [cmpI_lt (show (n : Int) < n2 by omega), cmpI_lt (cn_longer ca.1 cb (by omega))]
      · rw [cmpI_gt (show (n2 : Int) < n by omega), cmpI_gt (cn_longer cb.1 ca (by omega))]
    rw [hc]
    clear hc hnn hla hlb
    go_enter Tryd.func43, Tryd.ntmps43
    go_wp2_with fail
    refine (ncmp_any _ _ _).mono ?_
    rintro e _ ⟨rfl, rfl⟩
    go_wp2
    go_ret
    exact ⟨rfl, dr_zero w⟩
  subst hnn
  have hd : ((n : Int) != (n : Int)) = false := by simp
  have Hat := Lib.hid (fun m (hm : m < n) (he : ∀ j, m < j → j < n → gi a j = gi b j) hne => cmp_at ca.1 cb.1 hla hlb hm he hne)
  have Heq := Lib.hid (show (∀ j, j < n → gi a j = gi b j) → cmpI (val a) (val b) = 0 from fun h => by
    rw [val_vF hla, val_vF hlb, vF_congr n h, cmpI_eq])
  generalize cmpI (val a) (val b) = C at *
  have hwn : IntKind.i64.wrap ((n : Int) - 1) = (n : Int) - 1 := IntWalk.i64_in _ (by omega)
  clear hla hlb
  go_enter Tryd.func43, Tryd.ntmps43
  go_wp2
  go_loopg [5] n (fun gk i wr => ∃ k : Nat, k ≤ n ∧ k = gk ∧ i = .int .i64 ((k : Int) - 1) ∧ (∀ j, k ≤ j → j < n → gi a j = gi b j) ∧ ∃ q, wr = w.drewN q)
  case atStart => exact ⟨n, Nat.le_refl _, rfl, rfl, (fun j h1 h2 => absurd h2 (by omega)), dr_zero w⟩
  case round =>
    obtain ⟨k, hk, rfl, rfl, he, hq⟩ := hrel
    have He := Lib.hid he; have Hq := Lib.hid hq
    clear he hq
    rcases Nat.eq_zero_or_pos k with hk0 | hk0
    · subst hk0
      have Hf := Lib.hid (Heq.out fun j hj => He.out j (by omega) hj)
      go_wp2
      go_ret
      exact ⟨by rw [Hf.out]; rfl, Hq.out⟩
    · obtain ⟨m, rfl⟩ : ∃ m, k = m + 1 := ⟨k - 1, by omega⟩
      obtain ⟨b1, o1, x, rfl, hb1, hx, c0⟩ := ha.atI (k := m) (by omega)
      obtain ⟨b2, o2, y, rfl, hb2, hy, d0⟩ := hb.atI (k := m) (by omega)
      have Hx := Lib.hid (gi_eq hx); have Hy := Lib.hid (gi_eq hy)
      have c0' := (dr_cell Hq.out ⟨b1, o1 + m, none⟩).trans c0
      have d0' := (dr_cell Hq.out ⟨b2, o2 + m, none⟩).trans d0
      have h1 : (m : Int) < (n : Int) := by omega
      have h2 : (0 : Int) ≤ (m : Int) := by omega
      clear hx hy
      by_cases hxy : x = y
      · have hdd : (x != y) = false := by simp [hxy]
        have Hn := Lib.hid (show ∀ j, m ≤ j → j < n → gi a j = gi b j from fun j h1 h2 => by
          by_cases e : j = m
          · subst e; rw [Hx.out, Hy.out]; exact hxy
          · exact He.out j (by omega) h2)
        clear hxy
        go_wp2_with fail
        go_quiet (fail)
        go_wp2
        go_roundg m
        case rel => exact ⟨m, by omega, rfl, by go_num, Hn.out, dr_more Hq.out _⟩
        case measure => omega
      · have hdd : (x != y) = true := by simp [hxy]
        have Hf := Lib.hid (Hat.out m (by omega) (fun j h1 h2 => He.out j (by omega) h2) (by rw [Hx.out, Hy.out]; exact hxy))
        clear hxy
        go_wp2_with fail
        go_quiet (fail)
        rename_i nq
        have hq2 := dr_more Hq.out nq
        have c1' := (dr_cell hq2 ⟨b1, o1 + m, none⟩).trans c0
        have d1' := (dr_cell hq2 ⟨b2, o2 + m, none⟩).trans d0
        have Hq2 := Lib.hid hq2
        clear hq2 c0 d0 c0' d0' Hq
        generalize wr.drewN nq = w5 at *
        have Hcmp := Lib.hid (fun q => (ncmp_any x y (w5.drewN q)).mono fun e w'' ⟨h1, h2⟩ => (⟨h1, q, h2.symm⟩ : e = Ending.returned (.int .i64 (cmpI x y)) ∧ ∃ s, w'' = w5.drewN s))
        have Hxy := Lib.hid (show cmpI x y = C by rw [Hf.out, Hx.out, Hy.out])
        generalize cmpI x y = C' at *
        go_wp2_with fail
        go_quiet ((go_at_call 44; exact Hcmp.out _))
        go_wp2
        go_ret
        exact ⟨by rw [← Hxy.out]; rfl, dr_more Hq2.out _⟩
theorem bcmp_any (A A2 : Option Addr) (n cap n2 cap2 : Nat) (a b : List Int) (w : World) (ha : RdI w w.heap.size A n cap a) (hb : RdI w w.heap.size A2 n2 cap2 b) (ca : Cn a) (cb : Cn b) :
    Calls Tryd.prog 43 #[.slice A n cap, .slice A2 n2 cap2] w fun e w' => e = .returned (.int .i64 (cmpI (val a) (val b))) ∧ Below w.heap.size w w' :=
  (bcmpq_any A A2 n cap n2 cap2 a b w ha hb ca cb).mono fun e w' ⟨h1, q, h2⟩ => ⟨h1, by rw [h2]; exact below_drewN (Below.refl _ _) q⟩
/-- what signed returns: a big integer, fresh or not, that stands for these digits -/
def BigIs (w : World) (v : Value) (s : Int) (l : List Int) : Prop := ∃ A n cap, v = .agg #[.int .i64 s, .slice A n cap] ∧ RdI w w.heap.size A n cap l
theorem BigIs.below {w w' : World} {v : Value} {s : Int} {l : List Int} (h : BigIs w v s l) (hb : Below w.heap.size w w') : BigIs w' v s l := by
  obtain ⟨A, n, cap, h1, h2⟩ := h
  exact ⟨A, n, cap, h1, h2.up (flat_lasts _) hb⟩
theorem BigIs.zero (w : World) : BigIs w (.agg #[.int .i64 0, .slice none 0 0]) 0 [] := ⟨none, 0, 0, rfl, Rd.nil⟩
def sgOf (s : Int) (l : List Int) : Int := if trimL l = [] then 0 else s
set_option maxRecDepth 100000 in
set_option maxHeartbeats 1000000 in
theorem signed_any (s : Int) (A : Option Addr) (n cap : Nat) (l : List Int) (w : World) (hl : RdI w w.heap.size A n cap l) :
    Calls Tryd.prog 29 #[.int .i64 s, .slice A n cap] w fun e w' => (∃ A' n' cap', e = .returned (.agg #[.int .i64 (sgOf s l), .slice A' n' cap']) ∧ RdI w' w'.heap.size A' n' cap' (trimL l) ∧ (A' = none ∨ A' = A)) ∧ Below w.heap.size w w' := by
  have hln := hl.len
  have hb0 := (Below.refl w.heap.size w).alloc (Nat.le_refl _) (.cells #[.int .i64 0, .slice none 0 0] 24)
  have hl0 := hl.up (flat_lasts _) hb0
  have Hl := Lib.hid hl
  have HB := Lib.hid (fun o => (Below.refl w.heap.size w).alloc (Nat.le_refl _) o)
  go_enter Tryd.func29, Tryd.ntmps29
  go_wp2_with fail
  refine (trim_any A n cap l _ hl0).mono ?_
  rintro e _ ⟨⟨k, hk, rfl, htr⟩, rfl⟩
  rcases Nat.eq_zero_or_pos k with hk0 | hk0
  · subst hk0
    have Ht := Lib.hid htr
    clear htr hl0
    go_wp2
    refine bodyPost_ret (v := .agg #[.int .i64 0, .slice none 0 0]) (by simp [results, Tryd.results29, go_sem]) rfl ⟨⟨none, 0, 0, ?_, ?_, Or.inl rfl⟩, HB.out _⟩
    · rw [sgOf, Ht.out, List.take_zero, if_pos rfl]
    · rw [Ht.out, List.take_zero]; exact Rd.nil
  · have hne : l.take k ≠ [] := fun e => by
      have h1 : (l.take k).length = 0 := by rw [e]; rfl
      rw [List.length_take] at h1
      omega
    have hd : ((k : Int) == 0) = false := by simp; omega
    have Ht := Lib.hid htr
    have Hne := Lib.hid hne
    clear htr hne hl0
    go_wp2
    refine bodyPost_ret (v := .agg #[.int .i64 s, .slice A k cap]) (by simp [results, Tryd.results29, go_sem]) rfl ⟨⟨A, k, cap, ?_, ?_, Or.inr rfl⟩, HB.out _⟩
    · rw [sgOf, Ht.out, if_neg Hne.out]
    · rw [Ht.out]; exact (Hl.out.up (flat_lasts _) (HB.out _)).take hk
end Go.Proofs.YtkeajohkpmabcaaDoor
