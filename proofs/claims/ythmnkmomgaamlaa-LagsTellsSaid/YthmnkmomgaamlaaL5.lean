/- Walk over the statement LagsLatest. Conditions stand in the theorem. -/
import Derived.Test.YthmnkmomgaamlaaL4
namespace Go.Proofs.Ythmnkmomgaamlaa
open Go.RowKit
set_option linter.unusedVariables false

theorem least_unique {n : Nat} {all : List St} {T T' : Nat → Int} (h : Least n all T) (h' : Least n all T') : ∀ v, v < n → T v = T' v := fun v hv => by
  have h1 := h.2.2.2 T' h'.1 h'.2.2.1 v hv
  have h2 := h'.2.2.2 T h.1 h.2.2.1 v hv
  omega
/-- what Latest says where it is known that no times keep the lags -/
theorem lat_bad {w w' : World} {m : Nat} {l : List Lg} {en : Int} {e : Ending} (hr : rightL m l = true) (he : 0 ≤ en ∧ en ≤ 1048576) {B : Nat → Nat} {v : Nat} (hb : BadAt m (stepsF m l) B v) (h : LatPost w m l en e w') : e = .returned (.tuple #[.slice none 0 0, .int .i64 22]) ∧ Below w.heap.size w w' := by
  obtain ⟨v, er, rfl, hb', hc⟩ := h
  rw [Int.toNat_natCast] at hc
  rcases hc with ⟨h1, _⟩ | ⟨_, _, ⟨rfl, rfl, _⟩ | ⟨_, _, T, hT, _⟩ | ⟨_, L, T, A, q, _, _, hG, hT, _⟩⟩
  · rw [hr] at h1; rcases h1 with h1 | h1 | h1
    · cases h1
    · omega
    · omega
  · exact ⟨rfl, hb'⟩
  · exact (bad_feas hb hT.1).elim
  · exact (bad_feas hb hT.1).elim
/-- what Latest says where the least times are known -/
def LatYes (w w' : World) (m : Nat) (l : List Lg) (en : Int) (T : Nat → Int) (e : Ending) : Prop :=
  (e = .returned (.tuple #[.slice none 0 0, .int .i64 20]) ∧ (∃ i, i < m ∧ en < T i) ∧ Below w.heap.size w w') ∨
  (∃ (L : Nat → Int) (A : Option Addr) (c : Nat), e = .returned (.tuple #[.slice A m c, .int .i64 0]) ∧ RdI w' w'.heap.size A m c (ofF m L) ∧ Greatest m (stepsF m l) en L ∧ (∀ i, i < m → T i ≤ en ∧ T i ≤ L i) ∧ Below w.heap.size w w')
theorem lat_yes {w w' : World} {m : Nat} {l : List Lg} {en : Int} {e : Ending} (hr : rightL m l = true) (he : 0 ≤ en ∧ en ≤ 1048576) {T : Nat → Int} (hT : Least m (stepsF m l) T) (h : LatPost w m l en e w') : LatYes w w' m l en T e := by
  obtain ⟨v, er, rfl, hb', hc⟩ := h
  rw [Int.toNat_natCast] at hc
  rcases hc with ⟨h1, _⟩ | ⟨_, _, ⟨rfl, rfl, B, v, hbad⟩ | ⟨rfl, rfl, T', hT', i, hi, hlt⟩ | ⟨rfl, L, T', A, q, rfl, hr', hG, hT', h9⟩⟩
  · rw [hr] at h1; rcases h1 with h1 | h1 | h1
    · cases h1
    · omega
    · omega
  · exact (bad_feas hbad hT.1).elim
  · exact Or.inl ⟨rfl, ⟨i, hi, by rw [least_unique hT hT' i hi]; exact hlt⟩, hb'⟩
  · exact Or.inr ⟨L, A, q, rfl, hr', hG, (fun i hi => by rw [least_unique hT hT' i hi]; exact h9 i hi), hb'⟩
set_option maxRecDepth 100000 in
set_option maxHeartbeats 4000000 in
theorem lagsLatest_walk (m : Int) (A : Option Addr) (n cap : Nat) (l : List Lg) (en : Int) (A1 : Option Addr) (n1 cap1 : Nat) (a : List Int) (w : World) (h1 : -9223372036854775808 ≤ m ∧ m ≤ 9223372036854775807) (rl : RdL w w.heap.size A n cap l)
    (h2 : -9223372036854775808 ≤ en ∧ en ≤ 9223372036854775807) (ra : RdI w w.heap.size A1 n1 cap1 a) (wa : ∀ y ∈ a, -9223372036854775808 ≤ y ∧ y ≤ 9223372036854775807) :
    Calls Try.prog 5 #[.int .i64 m, .slice A n cap, .int .i64 en, .slice A1 n1 cap1] w fun e w' => e = .returned (.bool true) ∧ Below w.heap.size w w' := by
  have Hbd := Lib.hid (fun w h => bounded_any m A n cap l w h)
  have hla := ra.len
  have hll := rl.len
  cases hbo : boundF m l
  · rw [hbo] at Hbd
    clear hbo
    go_enter Try.func5, Try.ntmps5
    go_wp2_with fail
    refine (small_any _).mono ?_
    rintro e w1 ⟨rfl, hb1⟩
    go_wp2_with fail
    refine (Hbd.out _ (rl.up (flat_lasts _) hb1)).mono ?_
    rintro e w2 ⟨rfl, hb2⟩
    go_wp2
    go_ret
    exact ⟨rfl, hb1.trans (hb2.mono hb1.size)⟩
  rw [hbo] at Hbd
  by_cases hsz : n1 ≤ 40 ∧ 0 ≤ en ∧ en ≤ 1048576
  case neg =>
    have hd : decide ((40 : Int) < (n1 : Int)) = true ∨ (decide ((40 : Int) < (n1 : Int)) = false ∧ (decide (en < 0) = true ∨ (decide (en < 0) = false ∧ decide (1048576 < en) = true))) := by
      simp only [decide_eq_true_eq, decide_eq_false_iff_not]; omega
    clear hbo hsz
    rcases hd with hd | ⟨hd1, hd2 | ⟨hd2, hd3⟩⟩
    all_goals
      go_enter Try.func5, Try.ntmps5
      go_wp2_with fail
      refine (small_any _).mono ?_
      rintro e w1 ⟨rfl, hb1⟩
      go_wp2_with fail
      refine (Hbd.out _ (rl.up (flat_lasts _) hb1)).mono ?_
      rintro e w2 ⟨rfl, hb2⟩
      go_wp2
      go_ret
      exact ⟨rfl, hb1.trans (hb2.mono hb1.size)⟩
  obtain ⟨hn40, he⟩ := hsz
  obtain ⟨hm30, hl60, hr⟩ := boundF_iff hbo
  obtain ⟨m, rfl⟩ := Int.eq_ofNat_of_zero_le (show 0 ≤ m by omega)
  have hd1 : decide ((40 : Int) < (n1 : Int)) = false := by simp; omega
  have hd2 : decide (en < 0) = false := by simp; omega
  have hd3 : decide (1048576 < en) = false := by simp; omega
  have Hca := Lib.hid (fun w h h2 => check_any m A A1 n cap n1 cap1 l a w h h2 wa)
  have Hsolve := Lib.hid (fun w h => solve_any m A n cap l w h)
  have Hlat := Lib.hid (fun w h => latest_any m A n cap l en w h)
  have Hka : RowKit.Hid (checkF m l a = true → a.length = m ∧ ti a 0 = 0 ∧ Feas (stepsF m l) (ti a)) := Lib.hid (fun h => (check_iff hr).1 h)
  have Hr := Lib.hid hr; have He := Lib.hid he
  obtain ⟨kb, hkb⟩ : ∃ kb, checkF m l a = kb := ⟨_, rfl⟩
  rw [hkb] at Hca Hka
  have hm1 : 1 ≤ m ∧ m ≤ 30 := by omega
  obtain ⟨m1, m2⟩ := hm1
  have hmm : ((m : Int) != (m : Int)) = false := by simp
  clear hr hkb hbo he
  go_enter Try.func5, Try.ntmps5
  go_wp2_with fail
  refine (small_any _).mono ?_
  rintro e w1 ⟨rfl, hb1⟩
  go_wp2_with fail
  refine (Hbd.out _ (rl.up (flat_lasts _) hb1)).mono ?_
  rintro e w2 ⟨rfl, hb2⟩
  have hb02 := hb1.trans (hb2.mono hb1.size)
  go_wp2_with fail
  refine (Hsolve.out _ (rl.up (flat_lasts _) hb02)).mono ?_
  rintro e w3 ⟨v1, v2, er, rfl, hb3, hcase⟩
  have hb03 := hb02.trans (hb3.mono hb02.size)
  rw [Int.toNat_natCast] at hcase
  rcases hcase with ⟨h, _⟩ | ⟨_, hcase⟩
  · rw [Hr.out] at h; cases h
  rcases hcase with ⟨rfl, rfl, T, g, rfl, rT, hT, hTb⟩ | ⟨rfl, rfl, CC, AC, k, c, rfl, hk1, hk2, rC, href, B, v, hbad⟩
  case inr =>
    have Hlb := Lib.hid (fun w e w' h => lat_bad (w := w) (w' := w') (e := e) Hr.out He.out hbad h)
    clear href hbad
    go_wp2_with fail
    refine (Hlat.out _ (rl.up (flat_lasts _) hb03)).mono ?_
    intro e w4 h
    obtain ⟨rfl, hb4⟩ := Hlb.out _ _ _ h
    clear h
    go_wp2
    go_ret
    exact ⟨rfl, hb03.trans (hb4.mono hb03.size)⟩
  have Hly := Lib.hid (fun w e w' h => lat_yes (w := w) (w' := w') (e := e) Hr.out He.out hT h)
  have HT := Lib.hid hT
  clear hT hTb
  go_wp2_with fail
  refine (Hlat.out _ (rl.up (flat_lasts _) hb03)).mono ?_
  intro e w4 hlp
  have hly := Hly.out _ _ _ hlp
  clear hlp Hlat Hly
  rcases hly with ⟨rfl, hex, hb4⟩ | ⟨L, AL, cL, rfl, rL, hG, hTL, hb4⟩
  · have hb04 := hb03.trans (hb4.mono hb03.size)
    have rT4 := rT.up (flat_lasts _) hb4
    have Hex := Lib.hid hex
    clear hex hb4 hb3 rT
    go_wp2
    go_loopg [15, 16] m (fun gk f i wr => ∃ (j : Nat) (fb : Bool), j ≤ m ∧ gk = m - j ∧ i = .int .i64 j ∧ f = .bool fb ∧ (fb = true → ∀ v, v < j → T v ≤ en) ∧ w4 = wr)
    case atStart => exact ⟨0, true, Nat.zero_le _, rfl, rfl, rfl, (fun _ v h => absurd h (by omega)), rfl⟩
    case round =>
      obtain ⟨j, fb, hj, rfl, rfl, rfl, hfb, rfl⟩ := hrel
      have Hfb := Lib.hid hfb
      clear hfb
      by_cases hlt : j < m
      · obtain ⟨b, o, x, hA, hbB, hx, c0⟩ := rT4.atI hlt
        injection hA with hA; injection hA with hA1 hA2
        subst hA1 hA2
        obtain ⟨-, ex⟩ := ofF_get_some hx
        rw [Nat.zero_add] at c0
        have Ex := Lib.hid ex
        have hji : (j : Int) < (m : Int) := by omega
        have hj0 : (0 : Int) ≤ (j : Int) := by omega
        have hlast : ∀ (hxe : x ≤ en), (fb = true → ∀ v, v < j + 1 → T v ≤ en) := fun hxe h v hv => by
          by_cases e : v = j
          · subst e; rw [← Ex.out]; exact hxe
          · exact Hfb.out h v (by omega)
        have Hlast := Lib.hid hlast
        clear hx ex hlast
        cases fb
        · go_wp2
          go_roundg (m - (j + 1))
          case rel => exact ⟨j + 1, false, by omega, rfl, by go_num, rfl, (fun h => by cases h), rfl⟩
          case measure => omega
        · by_cases hle : x ≤ en
          · have hdx : decide (x ≤ en) = true := by simpa using hle
            go_wp2
            go_roundg (m - (j + 1))
            case rel => exact ⟨j + 1, true, by omega, rfl, by go_num, rfl, (fun _ => Hlast.out hle (by trivial)), rfl⟩
            case measure => omega
          · have hdx : decide (x ≤ en) = false := by simpa using hle
            go_wp2
            go_roundg (m - (j + 1))
            case rel => exact ⟨j + 1, false, by omega, rfl, by go_num, rfl, (fun h => by cases h), rfl⟩
            case measure => omega
      · have e : j = m := by omega
        subst e
        cases fb
        · go_wp2
          go_ret
          exact ⟨rfl, hb04⟩
        · exfalso
          obtain ⟨i, hi, h⟩ := Hex.out
          have := Hfb.out (by trivial) i hi
          omega
  · have hb04 := hb03.trans (hb4.mono hb03.size)
    have rT4 := rT.up (flat_lasts _) hb4
    have hLw : ∀ t ∈ ofF m L, -9223372036854775808 ≤ t ∧ t ≤ 9223372036854775807 := fun t ht => by
      obtain ⟨i, hi, rfl⟩ := ofF_mem ht
      have h3 := hG.2.2.1 i hi
      have h4 := (hTL i hi).2
      have h5 := HT.out.2.2.1 i hi
      have h6 := He.out
      omega
    have Hcl := Lib.hid (fun w h h2 => check_any m A AL n cap m cL l (ofF m L) w h h2 hLw)
    rw [check_of Hr.out hG.1 hG.2.1] at Hcl
    have Htop : RowKit.Hid (kb = true → n1 = m ∧ ((∀ v, v < m → ti a v ≤ en) → ∀ i, i < m → ti a i ≤ L i)) := Lib.hid fun h => by
      obtain ⟨k1, k2, k3⟩ := Hka.out h
      exact ⟨by omega, fun h2 => hG.2.2.2 _ k3 k2 h2⟩
    have HLe := Lib.hid hG.2.2.1
    have HTL := Lib.hid hTL
    clear hLw hG hTL hb4 hb3 rT
    go_wp2
    go_loopg [15, 16] m (fun gk f i wr => ∃ (j : Nat), j ≤ m ∧ gk = m - j ∧ i = .int .i64 j ∧ f = .bool true ∧ w4 = wr)
    case atStart => exact ⟨0, Nat.zero_le _, rfl, rfl, rfl, rfl⟩
    case round =>
      obtain ⟨j, hj, rfl, rfl, rfl, rfl⟩ := hrel
      by_cases hlt : j < m
      · obtain ⟨b, o, x, hA, hbB, hx, c0⟩ := rT4.atI hlt
        injection hA with hA; injection hA with hA1 hA2
        subst hA1 hA2
        obtain ⟨-, ex⟩ := ofF_get_some hx
        rw [Nat.zero_add] at c0
        have hle := (HTL.out j hlt).1
        rw [← ex] at hle
        have hji : (j : Int) < (m : Int) := by omega
        have hj0 : (0 : Int) ≤ (j : Int) := by omega
        have hdx : decide (x ≤ en) = true := by simpa using hle
        clear hx ex
        go_wp2
        go_roundg (m - (j + 1))
        case rel => exact ⟨j + 1, by omega, rfl, by go_num, rfl, rfl⟩
        case measure => omega
      · have e : j = m := by omega
        subst e
        have rl4 := rl.up (flat_lasts _) hb04
        have ra4 := ra.up (flat_lasts _) hb04
        go_wp2_with fail
        refine (Hcl.out _ rl4 rL).mono ?_
        rintro e w5 ⟨rfl, hb5⟩
        go_wp2_with fail
        refine (Hca.out _ (rl4.up (flat_lasts _) hb5) (ra4.up (flat_lasts _) hb5)).mono ?_
        rintro e w6 ⟨rfl, hb6⟩
        have hb46 := hb5.trans (hb6.mono hb5.size)
        have ra6 := ra4.up (flat_lasts _) hb46
        have rT6 := rT4.up (flat_lasts _) hb46
        have rL6 := rL.up (flat_lasts _) hb46
        have hb06 := hb04.trans (hb46.mono hb04.size)
        clear hb5 hb6 hb46 ra4 rl4 rT4 rL hb04 Hcl Hca
        go_wp2
        go_loopg [17, 18] n1 (fun gk f i wr => ∃ (q : Nat) (wb : Bool), q ≤ n1 ∧ gk = n1 - q ∧ i = .int .i64 q ∧ f = .bool wb ∧ (wb = true → kb = true ∧ ∀ v, v < q → ti a v ≤ en) ∧ w6 = wr)
        case atStart => exact ⟨0, kb, Nat.zero_le _, rfl, rfl, rfl, (fun h => ⟨h, fun v hv => absurd hv (by omega)⟩), rfl⟩
        case round =>
          obtain ⟨q, wb, hq, rfl, rfl, rfl, hwb, rfl⟩ := hrel
          have Hwb := Lib.hid hwb
          clear hwb
          by_cases hgo : wb = true ∧ q < n1
          · obtain ⟨rfl, hqn⟩ := hgo
            obtain ⟨b, o, x, rfl, hbB, hx, c0⟩ := ra6.atI hqn
            have Hx := Lib.hid (ti_eq hx)
            have hqi : (q : Int) < (n1 : Int) := by omega
            have hq0 : (0 : Int) ≤ (q : Int) := by omega
            have hdq : decide (q < n1) = true := by simpa using hqn
            clear hx
            by_cases hle : x ≤ en
            · have hdx : decide (x ≤ en) = true := by simpa using hle
              go_wp2
              go_roundg (n1 - (q + 1))
              case rel => exact ⟨q + 1, true, by omega, rfl, by go_num, rfl, (fun _ => ⟨(Hwb.out (by trivial)).1, fun v hv => by
                by_cases e : v = q
                · subst e; rw [Hx.out]; exact hle
                · exact (Hwb.out (by trivial)).2 v (by omega)⟩), rfl⟩
              case measure => omega
            · have hdx : decide (x ≤ en) = false := by simpa using hle
              go_wp2
              go_roundg (n1 - (q + 1))
              case rel => exact ⟨q + 1, false, by omega, rfl, by go_num, rfl, (fun h => by cases h), rfl⟩
              case measure => omega
          · have hall : RowKit.Hid (wb = true → n1 = j ∧ ∀ i, i < j → ti a i ≤ L i) := Lib.hid fun h => by
              obtain ⟨k1, k2⟩ := Hwb.out h
              obtain ⟨t1, t2⟩ := Htop.out k1
              have : ¬ q < n1 := fun h2 => hgo ⟨h, h2⟩
              exact ⟨t1, t2 fun v hv => k2 v (by omega)⟩
            have hex : (wb = false) ∨ (wb = true ∧ decide (q < n1) = false) := by
              cases wb
              · exact Or.inl rfl
              · right; refine ⟨rfl, ?_⟩
                simp only [decide_eq_false_iff_not]
                exact fun h => hgo ⟨rfl, h⟩
            clear hgo
            rcases hex with rfl | ⟨rfl, hdq⟩
            all_goals
              go_wp2
              go_loopg [19] j (fun gk i wr => ∃ i' : Nat, i' ≤ j ∧ gk = j - i' ∧ i = .int .i64 i' ∧ ∃ q, wr = w6.drewN q)
              case atStart => exact ⟨0, Nat.zero_le _, rfl, rfl, dr_zero w6⟩
              case round =>
                obtain ⟨i, hi, rfl, rfl, hdr⟩ := hrel
                have Hq := Lib.hid hdr
                clear hdr
                by_cases hlt : i < j
                · obtain ⟨bl, ol, y, rfl, hbl, hy, c0⟩ := rL6.atI hlt
                  obtain ⟨bt, ot, x, hA, hbt, hx, d0⟩ := rT6.atI hlt
                  injection hA with hA; injection hA with hA1 hA2
                  subst hA1 hA2
                  obtain ⟨-, ey⟩ := ofF_get_some hy
                  obtain ⟨-, ex⟩ := ofF_get_some hx
                  have k1 := HLe.out i hlt
                  have k2 := (HTL.out i hlt).2
                  rw [← ey] at k1 k2
                  rw [← ex] at k2
                  have hii : (i : Int) < (j : Int) := by omega
                  have hi0' : (0 : Int) ≤ (i : Int) := by omega
                  have hd4 : decide (en < y) = false := by simp; omega
                  have hd5 : decide (y < x) = false := by simp; omega
                  have c0' := (dr_cell Hq.out ⟨bl, ol + i, none⟩).trans c0
                  have d0' := (dr_cell Hq.out ⟨g, 0 + i, none⟩).trans d0
                  rw [Nat.zero_add] at d0'
                  have Ey := Lib.hid ey
                  clear hx hy ey ex
                  first
                    | (have hcon : (false : Bool) = true → False := fun h => by cases h
                       go_wp2
                       go_quiet (fail)
                       go_wp2
                       go_quiet (fail)
                       go_wp2
                       go_roundg (j - (i + 1))
                       case rel => exact ⟨i + 1, by omega, rfl, by go_num, (by first | exact dr_more Hq.out _ | exact dr_more (dr_more Hq.out _) _)⟩
                       case measure => omega)
                    | (obtain ⟨e1, hle⟩ := hall.out (by trivial)
                       obtain ⟨ba, oa, z, rfl, hba, hz, f0⟩ := ra6.atI (show i < n1 by omega)
                       have k3 := hle i hlt
                       rw [ti_eq hz, ← Ey.out] at k3
                       have f0' := (dr_cell Hq.out ⟨ba, oa + i, none⟩).trans f0
                       have hin : (i : Int) < (n1 : Int) := by omega
                       have hd6 : decide ((n1 : Int) ≤ (i : Int)) = false := by simp; omega
                       have hd7 : decide (n1 ≤ i) = false := by simp; omega
                       have hd8 : decide (y < z) = false := by simp; omega
                       clear hz hle e1
                       go_wp2
                       go_quiet (fail)
                       rename_i nq
                       have f1 : (wr.drewN nq).cell? ⟨ba, oa + i, none⟩ = some (.int .i64 z) := f0'
                       have c1 : (wr.drewN nq).cell? ⟨bl, ol + i, none⟩ = some (.int .i64 y) := c0'
                       go_wp2
                       go_quiet (fail)
                       go_wp2
                       go_roundg (j - (i + 1))
                       case rel => exact ⟨i + 1, by omega, rfl, by go_num, (by first | exact dr_more Hq.out _ | exact dr_more (dr_more Hq.out _) _)⟩
                       case measure => omega)
                · have e : i = j := by omega
                  subst e
                  go_wp2
                  go_ret
                  obtain ⟨q, rfl⟩ := Hq.out
                  exact ⟨rfl, below_drewN hb06 q⟩
end Go.Proofs.Ythmnkmomgaamlaa
