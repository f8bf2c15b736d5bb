/- Walk over Check of package lags. Conditions stand in the theorem. -/
import Derived.Test.YthmnkmomgaamlaaR2
import Derived.Test.YthmnkmomgaamlaaLa
namespace Go.Proofs.Ythmnkmomgaamlaa
open Go.RowKit
set_option linter.unusedVariables false

theorem chk_no {ts : List Int} {f t a m : Int} {d : Int} (hd : ti ts t.toNat - ti ts f.toNat = d) (h : chk ts (f, t, a, m) = false) : decide (d < a) = true ∨ (decide (d < a) = false ∧ ((m != -1) = true ∧ decide (m < d) = true)) := by
  simp only [chk, hd, decide_eq_false_iff_not, decide_eq_true_eq, bne_iff_ne, ne_eq] at h ⊢
  omega
theorem chk_yes {ts : List Int} {f t a m : Int} {d : Int} (hd : ti ts t.toNat - ti ts f.toNat = d) (h : chk ts (f, t, a, m) = true) : decide (d < a) = false ∧ ((m != -1) = false ∨ ((m != -1) = true ∧ decide (m < d) = false)) := by
  simp only [chk, hd, decide_eq_false_iff_not, decide_eq_true_eq, bne_iff_ne, ne_eq, bne_eq_false_iff_eq] at h ⊢
  omega
set_option maxRecDepth 100000 in
set_option maxHeartbeats 1000000 in
theorem check_any (m : Int) (A A2 : Option Addr) (n cap k c2 : Nat) (l : List Lg) (ts : List Int) (w : World) (hl : RdL w w.heap.size A n cap l) (ht : RdI w w.heap.size A2 k c2 ts) (hw : ∀ t ∈ ts, -9223372036854775808 ≤ t ∧ t ≤ 9223372036854775807) :
  Calls Try.prog 18 #[.int .i64 m, .slice A n cap, .slice A2 k c2] w fun e w' => e = .returned (.bool (checkF m l ts)) ∧ Below w.heap.size w w' := by
  have Hright := Lib.hid (fun w h => right_any m A n cap l w h)
  have hcaps := hl.caps
  have hcaps2 := ht.caps
  have hlen := hl.len
  have hlent := ht.len
  cases hr : rightL m l
  · have hF : checkF m l ts = false := by rw [checkF, hr]; rfl
    rw [hF]
    have Hr := Lib.hid hr
    clear hF hr
    go_enter Try.func18, Try.ntmps18
    go_wp2_with (go_at_call 16; refine (Hright.out _ hl).mono ?_; rw [Hr.out]; rintro e w1 ⟨rfl, hb1⟩)
    go_ret
    exact ⟨rfl, hb1⟩
  obtain ⟨hm, hl2, hok⟩ := rightL_iff hr
  by_cases hkm : (k : Int) = m
  case neg =>
    have hF : checkF m l ts = false := by rw [checkF, hr, hlent, decide_eq_false (by omega)]; rfl
    rw [hF]
    have hne : ((k : Int) != m) = true := by simpa using hkm
    have Hr := Lib.hid hr
    clear hF hr hok
    go_enter Try.func18, Try.ntmps18
    go_wp2_with (go_at_call 16; refine (Hright.out _ hl).mono ?_; rw [Hr.out]; rintro e w1 ⟨rfl, hb1⟩)
    go_ret
    exact ⟨rfl, hb1⟩
  subst hkm
  obtain ⟨b0, o0, x0, hA0, hbB0, hx0, k0⟩ := ht.atI (k := 0) (by omega)
  have hkk : ((k : Int) != (k : Int)) = false := by simp
  by_cases hz : x0 = 0
  case neg =>
    have hF : checkF k l ts = false := by
      have := ti_eq hx0
      rw [checkF, hr, decide_eq_false (by omega)]; rfl
    rw [hF]
    have hne : (x0 != 0) = true := by simpa using hz
    have Hr := Lib.hid hr
    have h0 : (0 : Int) < (k : Int) := by omega
    subst hA0
    rw [Nat.add_zero] at k0
    clear hF hr hok hx0
    go_enter Try.func18, Try.ntmps18
    go_wp2_with (go_at_call 16; refine (Hright.out _ hl).mono ?_; rw [Hr.out]; rintro e w1 ⟨rfl, hb1⟩
                 have k1 := (hb1.cell (p := ⟨b0, o0, none⟩) hbB0).trans k0)
    go_ret
    exact ⟨rfl, hb1⟩
  subst hz
  have HN1 : RowKit.Hid (∀ (j : Nat) t, ts[j]? = some t → t < 0 → checkF k l ts = false) := Lib.hid fun j t hj h => by
    have : ts.all (fun t => decide (0 ≤ t)) = false := by
      rw [List.all_eq_false]; exact ⟨t, List.mem_of_getElem? hj, by simp; omega⟩
    rw [checkF, this, Bool.false_and, Bool.and_false, Bool.and_false]
  have HN2 : RowKit.Hid (∀ (j : Nat) x, l[j]? = some x → chk ts x = false → checkF k l ts = false) := Lib.hid fun j x hj h => by
    have : l.all (chk ts) = false := by
      rw [List.all_eq_false]; exact ⟨x, List.mem_of_getElem? hj, by simp [h]⟩
    rw [checkF, this, Bool.and_false, Bool.and_false, Bool.and_false]
  have HY : RowKit.Hid ((∀ j, j < k → 0 ≤ ti ts j) → (∀ j, j < n → chk ts (l.getD j (0, 0, 0, 0)) = true) → checkF k l ts = true) := Lib.hid fun h1 h2 => by
    have e0 := ti_eq hx0
    rw [checkF, hr, decide_eq_true (⟨by omega, e0⟩ : (ts.length : Int) = (k : Int) ∧ ti ts 0 = 0), Bool.true_and, Bool.true_and, Bool.and_eq_true, List.all_eq_true, List.all_eq_true]
    refine ⟨fun t ht => ?_, fun x hx => ?_⟩
    · obtain ⟨j, hj, rfl⟩ := List.mem_iff_getElem.1 ht
      have := h1 j (by omega)
      rw [ti_eq (List.getElem?_eq_getElem hj)] at this
      simpa using this
    · obtain ⟨j, hj, rfl⟩ := List.mem_iff_getElem.1 hx
      have := h2 j (by omega)
      rwa [List.getD, List.getElem?_eq_getElem hj] at this
  have Hti : RowKit.Hid (∀ j, j < k → ti ts j ≤ 9223372036854775807) := Lib.hid fun j hj => by
    have h1 := hw _ (List.getElem_mem (show j < ts.length by omega))
    rw [ti_eq (List.getElem?_eq_getElem (show j < ts.length by omega))]
    exact h1.2
  have Hw := Lib.hid hw; have Hok := Lib.hid hok
  have Hr := Lib.hid hr
  have h0 : (0 : Int) < (k : Int) := by omega
  have hA0' := hA0
  subst hA0
  rw [Nat.add_zero] at k0
  clear hw hr hok hx0 hlen hlent
  generalize checkF k l ts = RR at *
  go_enter Try.func18, Try.ntmps18
  go_wp2_with (go_at_call 16; refine (Hright.out _ hl).mono ?_; rw [Hr.out]; rintro e w1 ⟨rfl, hb1⟩
               have k1 := (hb1.cell (p := ⟨b0, o0, none⟩) hbB0).trans k0)
  have ht1 := ht.up (flat_lasts _) hb1
  have hl1 := hl.up (flat_lasts _) hb1
  clear k1 k0
  go_loopg [30] k (fun gk i wr => ∃ j : Nat, j ≤ k ∧ gk = k - j ∧ i = .int .i64 j ∧ (∀ i, i < j → 0 ≤ ti ts i) ∧ w1 = wr)
  case atStart => exact ⟨0, Nat.zero_le _, rfl, rfl, (fun i h => absurd h (by omega)), rfl⟩
  case round =>
    obtain ⟨j, hj, rfl, rfl, hall, rfl⟩ := hrel
    have Hall := Lib.hid hall
    clear hall
    by_cases hlt : j < k
    · obtain ⟨b, off, x, hA, hbB, hx, c0⟩ := ht1.atI hlt
      injection hA with hA; injection hA with hA1 hA2
      subst hA1 hA2
      have Hx := Lib.hid hx
      have hjk : (j : Int) < (k : Int) := by omega
      have hj0 : (0 : Int) ≤ (j : Int) := by omega
      clear hx
      by_cases hneg : x < 0
      · have hF := HN1.out j x Hx.out hneg
        have HF := Lib.hid hF
        clear hF
        go_wp2
        go_ret
        exact ⟨by rw [HF.out]; rfl, hb1⟩
      · have hd : decide (x < 0) = false := by simpa using hneg
        go_wp2
        go_roundg (k - (j + 1))
        case rel => exact ⟨j + 1, by omega, rfl, by go_num, (fun i hi => by
          by_cases e : i = j
          · subst e; rw [ti_eq Hx.out]; omega
          · exact Hall.out i (by omega)), rfl⟩
        case measure => omega
    · have e : j = k := by omega
      subst e
      go_wp2
      go_loopg [39] n (fun gk i wr => ∃ i' : Nat, i' ≤ n ∧ gk = n - i' ∧ i = .int .i64 i' ∧ (∀ q, q < i' → chk ts (l.getD q (0, 0, 0, 0)) = true) ∧ Below w1.heap.size w1 wr)
      case atStart => exact ⟨0, Nat.zero_le _, rfl, rfl, (fun q h => absurd h (by omega)), Below.refl _ _⟩
      case round =>
        obtain ⟨i, hi, rfl, rfl, hq, hb⟩ := hrel
        have Hq := Lib.hid hq
        clear hq
        by_cases hlt : i < n
        · obtain ⟨b, off, x, y, z, u, rfl, hbB, hx, c0, c1, c2, c3⟩ := (hl1.below (flat_lasts _) hb (Nat.le_refl _) (Nat.le_refl _)).atL hlt
          have hin : (i : Int) < (n : Int) := by omega
          have hi0 : (0 : Int) ≤ (i : Int) := by omega
          obtain ⟨⟨x1, x2⟩, ⟨y1, y2⟩, -⟩ := okL_iff (Hok.out i _ hx)
          simp only at x1 x2 y1 y2
          obtain ⟨f, rfl⟩ := Int.eq_ofNat_of_zero_le x1
          obtain ⟨t, rfl⟩ := Int.eq_ofNat_of_zero_le y1
          have hsz := hb.size
          obtain ⟨bf, of, vf, hA, hbf, hvf, ef⟩ := (ht1.up (flat_lasts _) (hb.alloc hsz (.cells #[.int .i64 f, .int .i64 t, .int .i64 z, .int .i64 u] 47))).atI (k := f) (by omega)
          injection hA with hA; injection hA with hA1 hA2
          subst hA1 hA2
          obtain ⟨bt, ot, vt, hA, hbt, hvt, et⟩ := (ht1.up (flat_lasts _) (hb.alloc hsz (.cells #[.int .i64 f, .int .i64 t, .int .i64 z, .int .i64 u] 47))).atI (k := t) (by omega)
          injection hA with hA; injection hA with hA1 hA2
          subst hA1 hA2
          have hb2 := hb.alloc hsz (.cells #[.int .i64 f, .int .i64 t, .int .i64 z, .int .i64 u] 47)
          have d0 : (wr.alloc (.cells #[.int .i64 f, .int .i64 t, .int .i64 z, .int .i64 u] 47)).cell? ⟨wr.heap.size, 0, none⟩ = some (.int .i64 f) := new_cell rfl rfl
          have d1 : (wr.alloc (.cells #[.int .i64 f, .int .i64 t, .int .i64 z, .int .i64 u] 47)).cell? ⟨wr.heap.size, 1, none⟩ = some (.int .i64 t) := new_cell rfl rfl
          have d2 : (wr.alloc (.cells #[.int .i64 f, .int .i64 t, .int .i64 z, .int .i64 u] 47)).cell? ⟨wr.heap.size, 2, none⟩ = some (.int .i64 z) := new_cell rfl rfl
          have d3 : (wr.alloc (.cells #[.int .i64 f, .int .i64 t, .int .i64 z, .int .i64 u] 47)).cell? ⟨wr.heap.size, 3, none⟩ = some (.int .i64 u) := new_cell rfl rfl
          have nf := Hall.out f (by omega)
          have nt := Hall.out t (by omega)
          have mf := Hti.out f (by omega)
          have mt := Hti.out t (by omega)
          have hd : ti ts ((t : Int)).toNat - ti ts ((f : Int)).toNat = vt - vf := by rw [Int.toNat_natCast, Int.toNat_natCast, ti_eq hvt, ti_eq hvf]
          rw [ti_eq hvf] at nf mf
          rw [ti_eq hvt] at nt mt
          have hwd : IntKind.i64.wrap (vt - vf) = vt - vf := IntWalk.i64_in _ (by omega)
          have Hx := Lib.hid hx
          have Hd := Lib.hid hd
          have hf0 : (0 : Int) ≤ (f : Int) := by omega
          have ht0 : (0 : Int) ≤ (t : Int) := by omega
          clear hx hvf hvt hd
          cases hc : chk ts ((f : Int), (t : Int), z, u)
          · have hF := HN2.out i _ Hx.out hc
            have HF := Lib.hid hF
            have hcase := chk_no Hd.out hc
            clear hF hc
            rcases hcase with g1 | ⟨g1, g2, g3⟩
            all_goals
              go_wp2
              go_quiet (fail)
              go_wp2
              go_ret
              exact ⟨by rw [HF.out]; rfl, hb1.trans ((below_drewN hb2 _).mono hb1.size)⟩
          · have hcase := chk_yes Hd.out hc
            have Hc := Lib.hid hc
            clear hc
            obtain ⟨g1, hcase⟩ := hcase
            rcases hcase with g2 | ⟨g2, g3⟩
            all_goals
              go_wp2
              go_quiet (fail)
              go_wp2
              go_roundg (n - (i + 1))
              case rel => exact ⟨i + 1, by omega, rfl, by go_num, (fun q hq => by
                by_cases e : q = i
                · subst e; rw [List.getD, Hx.out]; exact Hc.out
                · exact Hq.out q (by omega)), below_drewN hb2 _⟩
              case measure => omega
        · have e : i = n := by omega
          subst e
          have hF := HY.out Hall.out Hq.out
          have HF := Lib.hid hF
          clear hF
          go_wp2
          go_ret
          exact ⟨by rw [HF.out]; rfl, hb1.trans (hb.mono hb1.size)⟩
end Go.Proofs.Ythmnkmomgaamlaa
