/- Walks: agree, Join, Fits of package share. Conditions stand in each theorem. -/
import Derived.Test.YtfidjhhpcjmioaaW2
import Derived.Deep.RegionHeld3
namespace Go.Proofs.Ytfidjhhpcjmioaa
open Go.RowKit
set_option linter.unusedVariables false

/-- whether the points at the places a, a + 1, .., a + m - 1 are on the polynomial through the first k ones -/
def agreeFrom (l : List (Int × Int)) (k : Nat) : Nat → Nat → Bool
  | _, 0 => true
  | a, m + 1 => (lagV (fx (l.take k)) (fy (l.take k)) k (fx l a) == fy l a) && agreeFrom l k (a + 1) m
/-- whether the points from the k-th on are on the polynomial through the first k ones -/
def agreeF (l : List (Int × Int)) (k : Nat) : Bool := agreeFrom l k k (l.length - k)

theorem agree_any (A : Option Addr) (n cap : Nat) (l : List (Int × Int)) (k : Nat) (w : World) (hl : RdP w w.heap.size A n cap l) (hk : 1 ≤ k) (hk' : k ≤ n)
   (hX : ∀ s ∈ l, ptOk s) : 
  Calls Try.prog 40 #[.slice A n cap, .int .i64 k] w fun e w' => e = .returned (.bool (agreeF l k)) ∧ Below w.heap.size w w' := by
  obtain ⟨hn1, hn2, hn3⟩ := hl.caps
  have hXt : ∀ s ∈ l.take k, ptOk s := fun s hs => hX s (List.mem_of_mem_take hs)
  go_enter Try.func40, Try.ntmps40
  go_wp2
  go_loopw [5] (fun i wr => ∃ j : Nat, k ≤ j ∧ j ≤ n ∧ i = .int .i64 j ∧ agreeF l k = agreeFrom l k j (n - j) ∧ Below w.heap.size w wr) (fun y _ => n - (intOf y).toNat)
  case atStart => exact ⟨k, by omega, by omega, rfl, by rw [agreeF, hl.len], Below.refl _ _⟩
  case round =>
    obtain ⟨j, hj1, hj2, rfl, hag, hb⟩ := hrel
    have Hag := Lib.hid hag; clear hag
    by_cases hlt : j < n
    · obtain ⟨b, off, x, y, rfl, hbB, hxy, c0, c1⟩ := (hl.below (flat_lasts _) hb (Nat.le_refl _) (Nat.le_refl _)).atP hlt
      obtain ⟨x1, x2, y1, y2⟩ := hX _ (List.mem_of_getElem? hxy)
      simp only at x1 x2 y1 y2
      have Hx := Lib.hid (fx_eq hxy)
      have Hy := Lib.hid (fy_eq hxy)
      clear hxy
      have hji : (j : Int) < (n : Int) := by omega
      have hj0 : (0 : Int) ≤ (j : Int) := by omega
      have hkn : (k : Int) ≤ (n : Int) := by omega
      have hkc : (k : Int) ≤ (cap : Int) := by omega
      have hk0 : (0 : Int) ≤ (k : Int) := by omega
      have hst : n - j = (n - (j + 1)) + 1 := by omega
      have Hst := Lib.hid (show agreeF l k = ((lagV (fx (l.take k)) (fy (l.take k)) k x == y) && agreeFrom l k (j + 1) (n - (j + 1))) by rw [Hag.out, hst, agreeFrom, Hx.out, Hy.out])
      clear hst
      cases hV : (lagV (fx (l.take k)) (fy (l.take k)) k x == y)
      · have hne : (lagV (fx (l.take k)) (fy (l.take k)) k x != y) = true := by simp [bne, hV]
        have HV := Lib.hid hV; clear hV
        go_wp2_with fail
        go_region_held3 (fun w' => w'.cell? ⟨b, off + j * 2, none⟩ = some (.int .i64 x) ∧ w'.cell? ⟨b, off + j * 2 + 1, none⟩ = some (.int .i64 y) ∧ Below w.heap.size w w')
          (first | exact ⟨c0, c1, hb.drew⟩ | (go_split_ands; exact ⟨(hb1.cell (by show b < _; have := hbx.size; omega)).trans (by assumption), (hb1.cell (by show b < _; have := hbx.size; omega)).trans (by assumption), hbx.trans (hb1.mono hbx.size)⟩))
          (first | (go_at_call 41; go_split_ands; have hbx := (by assumption : Below w.heap.size w _); refine (value_any _ k cap (l.take k) _ _ ((hl.up (flat_lasts _) hbx).take hk') (by omega) (by omega) hXt).mono ?_; rintro e w'' ⟨rfl, hb1⟩))
        go_wp2
        go_ret
        exact ⟨congrArg (fun z => Ending.returned (Value.bool z)) (by rw [Hst.out, HV.out]; rfl), hbx.trans (hb1.mono hbx.size)⟩
      · have hne : (lagV (fx (l.take k)) (fy (l.take k)) k x != y) = false := by simp [bne, hV]
        have HV := Lib.hid hV; clear hV
        go_wp2_with fail
        go_region_held3 (fun w' => w'.cell? ⟨b, off + j * 2, none⟩ = some (.int .i64 x) ∧ w'.cell? ⟨b, off + j * 2 + 1, none⟩ = some (.int .i64 y) ∧ Below w.heap.size w w')
          (first | exact ⟨c0, c1, hb.drew⟩ | (go_split_ands; exact ⟨(hb1.cell (by show b < _; have := hbx.size; omega)).trans (by assumption), (hb1.cell (by show b < _; have := hbx.size; omega)).trans (by assumption), hbx.trans (hb1.mono hbx.size)⟩))
          (first | (go_at_call 41; go_split_ands; have hbx := (by assumption : Below w.heap.size w _); refine (value_any _ k cap (l.take k) _ _ ((hl.up (flat_lasts _) hbx).take hk') (by omega) (by omega) hXt).mono ?_; rintro e w'' ⟨rfl, hb1⟩))
        go_wp2
        go_roundw
        case rel => exact ⟨j + 1, by omega, by omega, by go_num, by rw [Hst.out, HV.out]; rfl, hbx.trans (hb1.mono hbx.size)⟩
        case measure => simp [intOf]; omega
    · have hjn : j = n := by omega
      subst hjn
      go_wp2
      go_ret
      exact ⟨congrArg (fun z => Ending.returned (Value.bool z)) (by rw [Hag.out, Nat.sub_self]; rfl), hb⟩

theorem agree_few (A : Option Addr) (n cap : Nat) (l : List (Int × Int)) (k : Nat) (w : World) (hl : RdP w w.heap.size A n cap l) (hk : n ≤ k) (hk' : k ≤ 1000) : 
  Calls Try.prog 40 #[.slice A n cap, .int .i64 k] w fun e w' => e = .returned (.bool (agreeF l k)) ∧ Below w.heap.size w w' := by
  obtain ⟨hn1, hn2, hn3⟩ := hl.caps
  have H := Lib.hid (show agreeF l k = true by rw [agreeF, hl.len, Nat.sub_eq_zero_of_le hk]; rfl)
  have hlt : ¬ (k : Int) < (n : Int) := by omega
  go_enter Try.func40, Try.ntmps40
  go_wp2
  refine wp_loop_rounds 1 ?_; rw [rounds_succ]; go_wp2
  go_ret
  exact ⟨congrArg (fun z => Ending.returned (Value.bool z)) H.out.symm, Below.refl _ _⟩

/-- what Join returns -/
def joinF (l : List (Int × Int)) (k : Int) : Int × Int :=
  if validF l k = 0 then (if (l.length : Int) < k then (0, 21) else if agreeF l k.toNat then (lagV (fx (l.take k.toNat)) (fy (l.take k.toNat)) k.toNat 0, 0) else (0, 23)) else (0, validF l k)

theorem shOk_pt {s : Int × Int} (h : shOk s = true) : ptOk s := by
  simp [shOk, inF] at h
  simp only [ptOk]
  omega
theorem valid_zero {l : List (Int × Int)} {k : Int} (h : validF l k = 0) : 1 ≤ k ∧ k ≤ 20 ∧ (∀ s ∈ l, shOk s = true) ∧ twiceX l l.length = false := by
  unfold validF at h
  split at h
  · omega
  · unfold sharesF at h
    split at h
    · rename_i ha
      split at h
      · omega
      · rename_i hb
        exact ⟨by omega, by omega, fun s hs => List.all_eq_true.1 ha s hs, by simpa using hb⟩
    · omega

theorem join_any (A : Option Addr) (n cap : Nat) (l : List (Int × Int)) (k : Int) (w : World) (hl : RdP w w.heap.size A n cap l) : 
  Calls Try.prog 15 #[.slice A n cap, .int .i64 k] w fun e w' => e = .returned (.tuple #[.int .i64 (joinF l k).1, .int .i64 (joinF l k).2]) ∧ Below w.heap.size w w' := by
  obtain ⟨hn1, hn2, hn3⟩ := hl.caps
  by_cases hv : validF l k = 0
  · obtain ⟨k1, k2, hok, _⟩ := valid_zero hv
    have hpt : ∀ s ∈ l, ptOk s := fun s hs => shOk_pt (hok s hs)
    obtain ⟨k, rfl⟩ := Int.eq_ofNat_of_zero_le (show 0 ≤ k by omega)
    have hcv := fun w h => valid_any A n cap l k w h
    rw [hv] at hcv
    have Hv := Lib.hid hv; clear hv
    by_cases hlt : (n : Int) < (k : Int)
    · have HJ := Lib.hid (show joinF l k = (0, 21) by unfold joinF; rw [if_pos Hv.out, if_pos (by rw [hl.len]; exact hlt)])
      have Hcv := Lib.hid hcv; clear hcv
      go_enter Try.func15, Try.ntmps15
      go_wp2_with (go_at_call 39; refine (Hcv.out _ hl).mono ?_; rintro e w' ⟨rfl, hb1⟩)
      go_ret2
      exact ⟨by rw [HJ.out]; rfl, hb1⟩
    · have Hcv := Lib.hid hcv; clear hcv
      cases hag : agreeF l k
      · have HJ := Lib.hid (show joinF l k = (0, 23) by unfold joinF; rw [if_pos Hv.out, if_neg (by rw [hl.len]; exact hlt), Int.toNat_natCast, hag]; rfl)
        have Hag := Lib.hid hag; clear hag
        go_enter Try.func15, Try.ntmps15
        go_wp2_with (first
          | (go_at_call 39; refine (Hcv.out _ hl).mono ?_; rintro e w1 ⟨rfl, hb1⟩)
          | (go_at_call 40; have ha := agree_any A n cap l k w1 (hl.up (flat_lasts _) hb1) (by omega) (by omega) hpt; rw [Hag.out] at ha; refine ha.mono ?_; clear ha; rintro e w2 ⟨rfl, hb2⟩))
        go_ret2
        exact ⟨by rw [HJ.out]; rfl, hb1.trans (hb2.mono hb1.size)⟩
      · have HJ := Lib.hid (show joinF l k = (lagV (fx (l.take k)) (fy (l.take k)) k 0, 0) by unfold joinF; rw [if_pos Hv.out, if_neg (by rw [hl.len]; exact hlt), Int.toNat_natCast, hag]; rfl)
        have Hag := Lib.hid hag; clear hag
        have hkc : (k : Int) ≤ (cap : Int) := by omega
        go_enter Try.func15, Try.ntmps15
        go_wp2_with (first
          | (go_at_call 39; refine (Hcv.out _ hl).mono ?_; rintro e w1 ⟨rfl, hb1⟩)
          | (go_at_call 40; have ha := agree_any A n cap l k w1 (hl.up (flat_lasts _) hb1) (by omega) (by omega) hpt; rw [Hag.out] at ha; refine ha.mono ?_; clear ha; rintro e w2 ⟨rfl, hb2⟩)
          | (go_at_call 41; refine (value_any _ k cap (l.take k) _ _ ((hl.up (flat_lasts _) (hb1.trans (hb2.mono hb1.size))).take (by omega)) (by omega) (by omega) (fun s hs => hpt s (List.mem_of_mem_take hs))).mono ?_; rintro e w3 ⟨rfl, hb3⟩))
        go_ret2
        exact ⟨by rw [HJ.out]; rfl, (hb1.trans (hb2.mono hb1.size)).trans (hb3.mono (Nat.le_trans hb1.size hb2.size))⟩
  · have HJ := Lib.hid (show joinF l k = (0, validF l k) by unfold joinF; rw [if_neg hv])
    have hne : (validF l k != 0) = true := by simpa [bne] using hv
    clear hv
    go_enter Try.func15, Try.ntmps15
    go_wp2_with (go_at_call 39; refine (valid_any A n cap l k _ hl).mono ?_; rintro e w' ⟨rfl, hb1⟩)
    go_ret2
    exact ⟨by rw [HJ.out]; rfl, hb1⟩
end Go.Proofs.Ytfidjhhpcjmioaa
