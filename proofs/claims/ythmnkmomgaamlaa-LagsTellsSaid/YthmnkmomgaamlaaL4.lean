/- Walk over the statement LagsEither. Conditions stand in the theorem. -/
import Derived.Test.YthmnkmomgaamlaaL3
namespace Go.Proofs.Ythmnkmomgaamlaa
open Go.RowKit
set_option linter.unusedVariables false

theorem boundF_iff {m : Int} {l : List Lg} (h : boundF m l = true) : (1 ≤ m ∧ m ≤ 30) ∧ l.length ≤ 60 ∧ rightL m l = true := by
  rw [boundF, Bool.and_eq_true, decide_eq_true_eq] at h
  exact ⟨h.1.1, h.1.2, h.2⟩
theorem least_bd {M : Nat} {l : List Lg} {T : Nat → Int} (hM : M ≤ 30) (hl : l.length ≤ 60) (h : Least M (stepsF M l) T) (hb : ∀ v, v < M → T v ≤ (((M + 1) * (stepsF M l).length : Nat) : Int) * 1048576) : ∀ t ∈ ofF M T, -9223372036854775808 ≤ t ∧ t ≤ 9223372036854775807 := fun t ht => by
  obtain ⟨i, hi, rfl⟩ := ofF_mem ht
  have h1 := h.2.2.1 i hi
  have h2 := hb i hi
  have h3 := steps_len (n := M) (l := l)
  have h4 : (M + 1) * (stepsF M l).length ≤ 31 * 150 := Nat.mul_le_mul (by omega) (by omega)
  omega
set_option maxRecDepth 100000 in
set_option maxHeartbeats 4000000 in
theorem lagsEither_walk (m : Int) (A : Option Addr) (n cap : Nat) (l : List Lg) (A1 : Option Addr) (n1 cap1 : Nat) (a : List Int) (A2 : Option Addr) (n2 cap2 : Nat) (C : List St) (w : World) (h1 : -9223372036854775808 ≤ m ∧ m ≤ 9223372036854775807) (rl : RdL w w.heap.size A n cap l)
    (ra : RdI w w.heap.size A1 n1 cap1 a) (wa : ∀ y ∈ a, -9223372036854775808 ≤ y ∧ y ≤ 9223372036854775807) (rc : RdT w w.heap.size A2 n2 cap2 C) :
    Calls Try.prog 4 #[.int .i64 m, .slice A n cap, .slice A1 n1 cap1, .slice A2 n2 cap2] w fun e w' => e = .returned (.bool true) ∧ Below w.heap.size w w' := by
  obtain ⟨i0, hi0, hz0, hz1, hz2⟩ := info_parts step_info
  have Hbd := Lib.hid (fun w h => bounded_any m A n cap l w h)
  have hla := ra.len
  have hlc := rc.len
  have hll := rl.len
  cases hbo : boundF m l
  · rw [hbo] at Hbd
    clear hbo
    go_enter Try.func4, Try.ntmps4
    go_wp2_with fail
    refine (small_any _).mono ?_
    rintro e w1 ⟨rfl, hb1⟩
    go_wp2_with fail
    refine (Hbd.out _ (rl.up (flat_lasts _) hb1)).mono ?_
    rintro e w2 ⟨rfl, hb2⟩
    go_wp2
    go_ret
    exact ⟨rfl, hb1.trans (hb2.mono hb1.size)⟩
  rw [hbo] at Hbd
  by_cases hsz : n1 ≤ 40 ∧ n2 ≤ 40
  case neg =>
    have hd : decide ((40 : Int) < (n1 : Int)) = true ∨ (decide ((40 : Int) < (n1 : Int)) = false ∧ decide ((40 : Int) < (n2 : Int)) = true) := by
      simp only [decide_eq_true_eq, decide_eq_false_iff_not]; omega
    clear hbo hsz
    rcases hd with hd | ⟨hd1, hd2⟩
    all_goals
      go_enter Try.func4, Try.ntmps4
      go_wp2_with fail
      refine (small_any _).mono ?_
      rintro e w1 ⟨rfl, hb1⟩
      go_wp2_with fail
      refine (Hbd.out _ (rl.up (flat_lasts _) hb1)).mono ?_
      rintro e w2 ⟨rfl, hb2⟩
      go_wp2
      go_ret
      exact ⟨rfl, hb1.trans (hb2.mono hb1.size)⟩
  obtain ⟨hn40, hc40⟩ := hsz
  obtain ⟨hm30, hl60, hr⟩ := boundF_iff hbo
  obtain ⟨m, rfl⟩ := Int.eq_ofNat_of_zero_le (show 0 ≤ m by omega)
  have hd1 : decide ((40 : Int) < (n1 : Int)) = false := by simp; omega
  have hd2 : decide ((40 : Int) < (n2 : Int)) = false := by simp; omega
  have Hca := Lib.hid (fun w h h2 => check_any m A A1 n cap n1 cap1 l a w h h2 wa)
  have Hsolve := Lib.hid (fun w h => solve_any m A n cap l w h)
  have Hka : RowKit.Hid (checkF m l a = true → a.length = m ∧ ti a 0 = 0 ∧ Feas (stepsF m l) (ti a)) := Lib.hid (fun h => (check_iff hr).1 h)
  have Hr := Lib.hid hr
  obtain ⟨kb, hkb⟩ : ∃ kb, checkF m l a = kb := ⟨_, rfl⟩
  rw [hkb] at Hca Hka
  have hm1 : 1 ≤ m ∧ m ≤ 30 := by omega
  obtain ⟨m1, m2⟩ := hm1
  clear hr hkb hbo
  go_enter Try.func4, Try.ntmps4
  go_wp2_with fail
  refine (small_any _).mono ?_
  rintro e w1 ⟨rfl, hb1⟩
  go_wp2_with fail
  refine (Hbd.out _ (rl.up (flat_lasts _) hb1)).mono ?_
  rintro e w2 ⟨rfl, hb2⟩
  have hb02 := hb1.trans (hb2.mono hb1.size)
  go_wp2_with fail
  refine (Hsolve.out _ (rl.up (flat_lasts _) hb02)).mono ?_
  rintro e w3 ⟨v1, v2, er, rfl, hb3, hcase⟩
  have hb03 := hb02.trans (hb3.mono hb02.size)
  rw [Int.toNat_natCast] at hcase
  rcases hcase with ⟨h, _⟩ | ⟨_, hcase⟩
  · rw [Hr.out] at h; cases h
  rcases hcase with ⟨rfl, rfl, T, g, rfl, rT, hT, hTb⟩ | ⟨rfl, rfl, CC, AC, k, c, rfl, hk1, hk2, rC, href, B, v, hbad⟩
  · have hTw := least_bd m2 hl60 hT hTb
    have Hct := Lib.hid (fun w h h2 => check_any m A (some ⟨g, 0, none⟩) n cap m m l (ofF m T) w h h2 hTw)
    rw [check_of Hr.out hT.1 hT.2.1] at Hct
    have hrf : refF m l C = false := by
      cases h : refF m l C
      · rfl
      · exact (ref_feas h hT.1).elim
    have Href := Lib.hid (fun A' c' w h h2 => refute_any m A A' n cap n2 c' l C w h h2)
    rw [hrf] at Href
    have Hle : RowKit.Hid (kb = true → n1 = m ∧ ∀ i, i < m → T i ≤ ti a i) := Lib.hid fun h => by
      obtain ⟨k1, k2, k3⟩ := Hka.out h
      exact ⟨by omega, hT.2.2.2 _ k3 (feas_pos k3 k2)⟩
    clear hT hTb hTw hrf hb1 hb2 hb3 hb02
    go_wp2_with fail
    refine (Hca.out _ (rl.up (flat_lasts _) hb03) (ra.up (flat_lasts _) hb03)).mono ?_
    rintro e w4 ⟨rfl, hb4⟩
    have hb04 := hb03.trans (hb4.mono hb03.size)
    have rl4 := rl.up (flat_lasts _) hb04
    have ra4 := ra.up (flat_lasts _) hb04
    have rc4 := rc.up (flat_lasts _) hb04
    have rT4 := rT.up (flat_lasts _) hb4
    clear hb4 hb03 rT
    go_wp2
    go_loopg [14, 15] n2 (fun gk v i wr => ∃ j : Nat, j ≤ n2 ∧ gk = n2 - j ∧ i = .int .i64 j ∧ Own 3 tEnc wr w4.heap.size 35 v (C.take j) ∧ Below w4.heap.size w4 wr)
    case atStart => exact ⟨0, Nat.zero_le _, rfl, rfl, by simpa using Own.nil, Below.refl _ _⟩
    case round =>
      obtain ⟨j, hj, rfl, rfl, ho, hb⟩ := hrel
      by_cases hlt : j < n2
      · obtain ⟨b, off, x, y, z, rfl, hbB, hx, c0, c1, c2⟩ := (rc4.up (flat_lasts _) hb).atT hlt
        have hcb : b < w4.heap.size := by
          obtain ⟨b', o', _, _, _, h', hl', _⟩ := rc4.atT hlt
          injection h' with h'; injection h' with h1 h2; omega
        have hji : (j : Int) < (n2 : Int) := by omega
        have hj0 : (0 : Int) ≤ (j : Int) := by omega
        have hmore : C.take j ++ [(x, y, z)] = C.take (j + 1) := by rw [List.take_add_one, hx]; rfl
        have hlen : (C.take j).length = j := by rw [List.length_take]; omega
        obtain ⟨Cj, hCj⟩ : ∃ q, C.take j = q := ⟨_, rfl⟩
        rw [hCj] at ho hmore hlen
        have Hmore := Lib.hid hmore
        have hsz := hb.size
        clear hx hmore hCj
        go_wp2
        go_region_held3 (fun w' => w'.cell? ⟨b, off + j * 3, none⟩ = some (.int .i64 x) ∧ w'.cell? ⟨b, off + j * 3 + 1, none⟩ = some (.int .i64 y) ∧ w'.cell? ⟨b, off + j * 3 + 2, none⟩ = some (.int .i64 z))
          (first | exact ⟨c0, c1, c2⟩ | exact ⟨(World.cell?_alloc_lt _ _ _ hbB).trans c0, (World.cell?_alloc_lt _ _ _ hbB).trans c1, (World.cell?_alloc_lt _ _ _ hbB).trans c2⟩ | exact ⟨d0, d1, d2⟩ | go_keep)
          (first
            | (refine step_app1 tSized (by rfl) _ _ 26 (by rfl) w4.heap.size 35 i0 _ 24 Try.underlying26 hi0 hz0 hz1 hz2 rfl _ Cj (by rfl) ho.drew (x, y, z) _ rfl wr.heap.size rfl (by rfl) (by rw [hlen]; omega) (by omega) hsz ?_
               intro v5 w5 ho5 hk5 hn5 hB5
               have hb5 := hB5 _ _ (Nat.le_refl _) hb.drew
               have d0 := ((hb5.cell (p := ⟨b, off + j * 3, none⟩) hcb).trans (hb.cell hcb).symm).trans c0
               have d1 := ((hb5.cell (p := ⟨b, off + j * 3 + 1, none⟩) hcb).trans (hb.cell hcb).symm).trans c1
               have d2 := ((hb5.cell (p := ⟨b, off + j * 3 + 2, none⟩) hcb).trans (hb.cell hcb).symm).trans c2
               rw [Hmore.out] at ho5))
        go_wp2
        go_roundg (n2 - (j + 1))
        case rel => exact ⟨j + 1, by omega, rfl, by go_num, ho5, hb5⟩
        case measure => omega
      · have e : j = n2 := by omega
        subst e
        have ht : C.take j = C := List.take_of_length_le (by omega)
        rw [ht] at ho
        obtain ⟨A9, c9, rfl, r9⟩ := ho.rd tSized (by omega)
        rw [hlc] at r9 ⊢
        have rl5 := rl4.up (flat_lasts _) hb
        have rT5 := rT4.up (flat_lasts _) hb
        clear ht ho
        go_wp2_with fail
        refine (Hct.out _ rl5 rT5).mono ?_
        rintro e w6 ⟨rfl, hb6⟩
        go_wp2_with fail
        refine (Href.out _ _ _ (rl5.up (flat_lasts _) hb6) (r9.up (flat_lasts _) hb6)).mono ?_
        rintro e w7 ⟨rfl, hb7⟩
        have hb57 := hb6.trans (hb7.mono hb6.size)
        have hb47 := hb.trans (hb57.mono hb.size)
        have ra7 := ra4.up (flat_lasts _) hb47
        have rT7 := rT5.up (flat_lasts _) hb57
        have hb07 := hb04.trans (hb47.mono hb04.size)
        clear hb57 hb47 hb6 hb7 hb hb04 rl4 rl5 rT4 rT5 ra4 rc4 r9
        go_wp2
        go_loopg [16] m (fun gk i wr => ∃ i' : Nat, i' ≤ m ∧ gk = m - i' ∧ i = .int .i64 i' ∧ ∃ q, wr = w7.drewN q)
        case atStart => exact ⟨0, Nat.zero_le _, rfl, rfl, dr_zero w7⟩
        case round =>
          obtain ⟨i, hi, rfl, rfl, hq⟩ := hrel
          have Hq := Lib.hid hq
          clear hq
          cases kb
          · go_wp2
            go_ret
            obtain ⟨q, rfl⟩ := Hq.out
            exact ⟨rfl, below_drewN hb07 q⟩
          · obtain ⟨e1, hle⟩ := Hle.out rfl
            subst e1
            by_cases hlt : i < n1
            · obtain ⟨ba, oa, x, rfl, hba, hx, c0⟩ := ra7.atI hlt
              obtain ⟨bt, ot, y, hA, hbt, hy, d0⟩ := rT7.atI hlt
              injection hA with hA; injection hA with hA1 hA2
              subst hA1 hA2
              obtain ⟨-, ey⟩ := ofF_get_some hy
              have hxy := hle i hlt
              rw [ti_eq hx, ← ey] at hxy
              have hii : (i : Int) < (n1 : Int) := by omega
              have hi0' : (0 : Int) ≤ (i : Int) := by omega
              have hge : decide ((n1 : Int) ≤ (i : Int)) = false := by simp; omega
              have hge2 : decide (n1 ≤ i) = false := by simp; omega
              have hdx : decide (x < y) = false := by simp; omega
              have c0' := (dr_cell Hq.out ⟨ba, oa + i, none⟩).trans c0
              have d0' := (dr_cell Hq.out ⟨g, 0 + i, none⟩).trans d0
              rw [Nat.zero_add] at d0'
              clear hx hy ey hle
              go_wp2
              go_quiet (fail)
              go_wp2
              go_roundg (n1 - (i + 1))
              case rel => exact ⟨i + 1, by omega, rfl, by go_num, dr_more Hq.out _⟩
              case measure => omega
            · have e : i = n1 := by omega
              subst e
              have hdi : decide (i < i) = false := by simp
              go_wp2
              go_ret
              obtain ⟨q, rfl⟩ := Hq.out
              exact ⟨rfl, below_drewN hb07 q⟩
  · have hkf : kb = false := by
      cases kb
      · rfl
      · exact (bad_feas hbad (Hka.out rfl).2.2).elim
    subst hkf
    have Href := Lib.hid (fun w h h2 => refute_any m A AC n cap k c l CC w h h2)
    rw [href] at Href
    clear href hbad
    go_wp2_with fail
    refine (Hca.out _ (rl.up (flat_lasts _) hb03) (ra.up (flat_lasts _) hb03)).mono ?_
    rintro e w4 ⟨rfl, hb4⟩
    have hb04 := hb03.trans (hb4.mono hb03.size)
    go_wp2_with fail
    refine (Href.out _ (rl.up (flat_lasts _) hb04) (rC.up (flat_lasts _) hb4)).mono ?_
    rintro e w5 ⟨rfl, hb5⟩
    go_wp2
    go_ret
    exact ⟨rfl, hb04.trans (hb5.mono hb04.size)⟩
end Go.Proofs.Ythmnkmomgaamlaa
