/- Walk over Latest of the reference of layer 15. Conditions stand in the theorem. -/
import Derived.Test.YthmnkmomgaamlaaF4
namespace Go.Proofs.Ythmnkmomgaamlaa
open Go.RowKit
set_option linter.unusedVariables false

def LatK (D : Nat → Nat → Int) (en : Int) (i k : Nat) (T : Int) : Prop :=
  T ≤ en ∧ (∀ k', 0 < k' → k' < k → -1000000000000 < D i k' → T ≤ en - D i k') ∧ (T = en ∨ ∃ k', 0 < k' ∧ k' < k ∧ -1000000000000 < D i k' ∧ T = en - D i k')
theorem LatK.start (D : Nat → Nat → Int) (en : Int) (i : Nat) : LatK D en i 0 en := ⟨Int.le_refl _, fun k _ h => absurd h (by omega), Or.inl rfl⟩
theorem LatK.skip {D : Nat → Nat → Int} {en : Int} {i k : Nat} {T : Int} (h : LatK D en i k T) (hn : ¬ (-1000000000000 < D i k ∧ 0 < k)) : LatK D en i (k + 1) T := by
  obtain ⟨h1, h2, h3⟩ := h
  refine ⟨h1, fun k' q1 q2 q3 => ?_, ?_⟩
  · by_cases e : k' = k
    · subst e; exact absurd ⟨q3, q1⟩ hn
    · exact h2 k' q1 (by omega) q3
  · rcases h3 with h3 | ⟨k', q1, q2, q3⟩
    · exact Or.inl h3
    · exact Or.inr ⟨k', q1, by omega, q3⟩
theorem LatK.step {D : Nat → Nat → Int} {en : Int} {i k : Nat} {T : Int} (h : LatK D en i k T) (hk : -1000000000000 < D i k) (h0 : 0 < k) : LatK D en i (k + 1) (min T (en - D i k)) := by
  obtain ⟨h1, h2, h3⟩ := h
  refine ⟨by omega, fun k' q1 q2 q3 => ?_, ?_⟩
  · by_cases e : k' = k
    · subst e; omega
    · have := h2 k' q1 (by omega) q3; omega
  · by_cases hle : T ≤ en - D i k
    · rw [Int.min_eq_left hle]
      rcases h3 with h3 | ⟨k', q1, q2, q3⟩
      · exact Or.inl h3
      · exact Or.inr ⟨k', q1, by omega, q3⟩
    · rw [Int.min_eq_right (by omega)]
      exact Or.inr ⟨k, h0, by omega, hk, rfl⟩
theorem LatK.fin0 {n : Nat} {D : Nat → Nat → Int} {en : Int} {i : Nat} {T : Int} (h : LatK D en i n T) (hn : ¬ -1000000000000 < D i 0) : LatR n D en i T := by
  obtain ⟨h1, h2, h3⟩ := h
  refine ⟨h1, h2, fun h => absurd h hn, ?_⟩
  rcases h3 with h3 | h3
  · exact Or.inl h3
  · exact Or.inr (Or.inl h3)
theorem LatK.fin1 {n : Nat} {D : Nat → Nat → Int} {en : Int} {i : Nat} {T : Int} (h : LatK D en i n T) (hn : -1000000000000 < D i 0) : LatR n D en i (min T (-D i 0)) := by
  obtain ⟨h1, h2, h3⟩ := h
  refine ⟨by omega, fun k q1 q2 q3 => by have := h2 k q1 q2 q3; omega, fun _ => by omega, ?_⟩
  by_cases hle : T ≤ -D i 0
  · rw [Int.min_eq_left hle]
    rcases h3 with h3 | h3
    · exact Or.inl h3
    · exact Or.inr (Or.inl h3)
  · rw [Int.min_eq_right (by omega)]
    exact Or.inr (Or.inr ⟨hn, rfl⟩)
def RLatPost (w : World) (m : Int) (l : List Lg) (en : Int) (e : Ending) (w' : World) : Prop := ∃ v er, e = .returned (.tuple #[v, .int .i64 er]) ∧ Below w.heap.size w w' ∧
  (((rightL m l && decide (0 ≤ en ∧ en ≤ 1048576)) = false ∧ v = .slice none 0 0 ∧ er = 1) ∨ (rightL m l = true ∧ (0 ≤ en ∧ en ≤ 1048576) ∧ ((er = 22 ∧ v = .slice none 0 0 ∧ ∀ F, Feas (stepsF m.toNat l) F → False) ∨
    (∃ D : Nat → Nat → Int, Fw m.toNat (stepsF m.toNat l) m.toNat D ∧ (∀ x, x < m.toNat → D x x ≤ 0) ∧ ((er = 20 ∧ v = .slice none 0 0 ∧ ∃ i, i < m.toNat ∧ en < D 0 i) ∨
      (er = 0 ∧ (∀ i, i < m.toNat → D 0 i ≤ en) ∧ ∃ (A : Option Addr) (c : Nat) (R : Nat → Int), v = .slice A m.toNat c ∧ RdI w' w'.heap.size A m.toNat c (ofF m.toNat R) ∧ ∀ i, i < m.toNat → LatR m.toNat D en i (R i)))))))
set_option maxRecDepth 100000 in
set_option maxHeartbeats 2000000 in
theorem rlatest_any (m : Int) (A : Option Addr) (n cap : Nat) (l : List Lg) (en : Int) (w : World) (hl : RdL w w.heap.size A n cap l) (hm : rightL m l = true → m ≤ 14) :
  Calls Try.prog 12 #[.int .i64 m, .slice A n cap, .int .i64 en] w (RLatPost w m l en) := by
  have Hright := Lib.hid (fun w h => rright_any m A n cap l w h)
  cases hr : rightL m l
  · have Hpost : RowKit.Hid (∀ w', Below w.heap.size w w' → RLatPost w m l en (.returned (.tuple #[.slice none 0 0, .int .i64 1])) w') := Lib.hid fun w' hb => ⟨_, _, rfl, hb, Or.inl ⟨by rw [hr]; rfl, rfl, rfl⟩⟩
    have Hr := Lib.hid hr
    clear hr hm
    go_enter Try.func12, Try.ntmps12
    go_wp2_with (go_at_call 17; refine (Hright.out _ hl).mono ?_; rw [Hr.out]; rintro e w1 ⟨rfl, hb1⟩)
    go_ret2
    exact Hpost.out _ hb1
  by_cases hen : 0 ≤ en ∧ en ≤ 1048576
  case neg =>
    have Hpost : RowKit.Hid (∀ w', Below w.heap.size w w' → RLatPost w m l en (.returned (.tuple #[.slice none 0 0, .int .i64 1])) w') := Lib.hid fun w' hb => ⟨_, _, rfl, hb, Or.inl ⟨by rw [decide_eq_false hen, Bool.and_false], rfl, rfl⟩⟩
    have hd : decide (en < 0) = true ∨ (decide (en < 0) = false ∧ decide (1048576 < en) = true) := by
      simp only [decide_eq_true_eq, decide_eq_false_iff_not]; omega
    have Hr := Lib.hid hr
    clear hr hm hen
    rcases hd with hd | ⟨hd1, hd2⟩
    all_goals
      go_enter Try.func12, Try.ntmps12
      go_wp2_with (go_at_call 17; refine (Hright.out _ hl).mono ?_; rw [Hr.out]; rintro e w1 ⟨rfl, hb1⟩)
      go_ret2
      exact Hpost.out _ hb1
  have hm14 := hm hr
  obtain ⟨hmr, _⟩ := rightL_iff hr
  obtain ⟨m, rfl⟩ := Int.eq_ofNat_of_zero_le (show 0 ≤ m by omega)
  have H22 : RowKit.Hid (∀ w', (∀ F, Feas (stepsF m l) F → False) → Below w.heap.size w w' → RLatPost w m l en (.returned (.tuple #[.slice none 0 0, .int .i64 22])) w') := Lib.hid fun w' h hb => ⟨_, _, rfl, hb, Or.inr ⟨hr, hen, Or.inl ⟨rfl, rfl, by rw [Int.toNat_natCast]; exact h⟩⟩⟩
  have H20 : RowKit.Hid (∀ w' D, Fw m (stepsF m l) m D → (∀ x, x < m → D x x ≤ 0) → (∃ i, i < m ∧ en < D 0 i) → Below w.heap.size w w' → RLatPost w m l en (.returned (.tuple #[.slice none 0 0, .int .i64 20])) w') := Lib.hid fun w' D h1 h2 h3 hb => ⟨_, _, rfl, hb, Or.inr ⟨hr, hen, Or.inr ⟨D, by rw [Int.toNat_natCast]; exact ⟨h1, h2, Or.inl ⟨rfl, rfl, h3⟩⟩⟩⟩⟩
  have H0 : RowKit.Hid (∀ w' A c D R, RdI w' w'.heap.size A m c (ofF m R) → (∀ i, i < m → LatR m D en i (R i)) → (∀ i, i < m → D 0 i ≤ en) → Fw m (stepsF m l) m D → (∀ x, x < m → D x x ≤ 0) → Below w.heap.size w w' → RLatPost w m l en (.returned (.tuple #[.slice A m c, .int .i64 0])) w') := Lib.hid fun w' A c D R h1 h2 h3 h4 h5 hb => ⟨_, _, rfl, hb, Or.inr ⟨hr, hen, Or.inr ⟨D, by rw [Int.toNat_natCast]; exact ⟨h4, h5, Or.inr ⟨rfl, h3, A, c, R, rfl, h1, h2⟩⟩⟩⟩⟩
  have Hfar := Lib.hid (fun w h => far_any m A n cap l w h hr (by omega))
  have Hr := Lib.hid hr
  have m1 : 1 ≤ m := by omega
  have hd1 : decide (en < 0) = false := by simp; omega
  have hd2 : decide (1048576 < en) = false := by simp; omega
  obtain ⟨en1, en2⟩ := hen
  have hm14' : m ≤ 14 := by omega
  obtain ⟨i0, hi0, hz0, hz1, hz2⟩ := info_parts int_info
  clear hr hm hmr hm14
  go_enter Try.func12, Try.ntmps12
  go_wp2_with (go_at_call 17; refine (Hright.out _ hl).mono ?_; rw [Hr.out]; rintro e w1 ⟨rfl, hb1⟩
               have hl1 := hl.up (flat_lasts _) hb1)
  refine (Hfar.out _ hl1).mono ?_
  rintro e w2 hp
  rcases hp with ⟨rfl, hno, hb2⟩ | ⟨h, rows, D, rfl, hg, hfw, hd, hb2⟩
  · have Hno := Lib.hid hno
    clear hno
    go_wp2
    go_ret2
    exact H22.out _ Hno.out (hb1.trans (hb2.mono hb1.size))
  have hb02 := hb1.trans (hb2.mono hb1.size)
  have Hlow := Lib.hid hfw.low
  have Hfw := Lib.hid hfw; have Hd := Lib.hid hd
  have hpw : (2 : Int) ^ m ≤ 16384 := by
    have : ∀ c : Nat, c ≤ 14 → (2 : Int) ^ c ≤ 16384 := by decide
    exact this m hm14'
  have hcb : ∀ x y, x < m → y < m → -1000000000000 ≤ D x y ∧ D x y ≤ 1000000000000 := fun x y hx hy => by
    have := Hlow.out x y hx hy
    generalize (2 : Int) ^ m = P at *
    omega
  have Hcb := Lib.hid hcb
  have hm0 : ((m : Int) == 0) = false := by simp; omega
  clear hfw hd hpw hcb hb1 hb2 hl1
  go_wp2
  go_loopg [9] m (fun gk i wr => ∃ i' : Nat, i' ≤ m ∧ gk = m - i' ∧ i = .int .i64 i' ∧ (∀ a, a < i' → D 0 a ≤ en) ∧ w2 = wr)
  case atStart => exact ⟨0, Nat.zero_le _, rfl, rfl, (fun a h => absurd h (by omega)), rfl⟩
  case round =>
    obtain ⟨i, hi, rfl, rfl, hall, rfl⟩ := hrel
    have Hall := Lib.hid hall
    clear hall
    by_cases hlt : i < m
    · have k0 := hg.head (show 0 < m by omega) (show 0 < m by omega)
      have hmi : (0 : Int) < (m : Int) := by omega
      have hii : (i : Int) < (m : Int) := by omega
      have hi0' : (0 : Int) ≤ (i : Int) := by omega
      obtain ⟨x0, -⟩ := hg.at_ (show 0 < m by omega) hlt
      obtain ⟨X, hX⟩ : ∃ X, D 0 i = X := ⟨_, rfl⟩
      rw [hX] at x0
      have HX := Lib.hid hX
      clear hX
      by_cases hgt : en < X
      · have hd : decide (en < X) = true := by simpa using hgt
        have Hgt : RowKit.Hid (∃ i, i < m ∧ en < D 0 i) := Lib.hid ⟨i, hlt, by rw [HX.out]; exact hgt⟩
        clear hgt
        go_wp2
        go_ret2
        exact H20.out _ D Hfw.out Hd.out Hgt.out hb02
      · have hd : decide (en < X) = false := by simpa using hgt
        go_wp2
        go_roundg (m - (i + 1))
        case rel => exact ⟨i + 1, by omega, rfl, by go_num, (fun a ha => by
          by_cases e : a = i
          · subst e; rw [HX.out]; omega
          · exact Hall.out a (by omega)), rfl⟩
        case measure => omega
    · have ee : i = m := by omega
      subst ee
      have Hle := Lib.hid Hall.out
      clear Hall
      go_wp2
      go_loopg [10, 11] i (fun gk v q wr => ∃ (j : Nat) (R : Nat → Int), j ≤ i ∧ gk = i - j ∧ q = .int .i64 j ∧ Own 1 iEnc wr w2.heap.size 3 v (ofF j R) ∧ (∀ a, a < j → LatR i D en a (R a)) ∧ Below w2.heap.size w2 wr)
      case atStart => exact ⟨0, fun _ => 0, Nat.zero_le _, rfl, rfl, Own.nil, (fun a h => absurd h (by omega)), Below.refl _ _⟩
      case round =>
        obtain ⟨j, R, hj, rfl, rfl, ho, hlat, hb⟩ := hrel
        have Hlat := Lib.hid hlat
        clear hlat
        by_cases hlt : j < i
        · have hgw := hg.below hb
          have a0 := hgw.head hlt hlt
          have hji : (j : Int) < (i : Int) := by omega
          have hj0 : (0 : Int) ≤ (j : Int) := by omega
          have hmi : (0 : Int) < (i : Int) := by omega
          have hsz := hb.size
          go_wp2
          go_loopg [12, 13] i (fun gk t v wr2 => ∃ (k : Nat) (T : Int), k ≤ i ∧ gk = i - k ∧ v = .int .i64 k ∧ t = .int .i64 T ∧ LatK D en j k T ∧ wr = wr2)
          case atStart => exact ⟨0, en, Nat.zero_le _, rfl, rfl, rfl, LatK.start D en j, rfl⟩
          case round =>
            obtain ⟨k, T, hk, rfl, rfl, rfl, hK, rfl⟩ := hrel
            have HK := Lib.hid hK
            clear hK
            by_cases hlt2 : k < i
            · have hki : (k : Int) < (i : Int) := by omega
              have hk0 : (0 : Int) ≤ (k : Int) := by omega
              obtain ⟨x0, -⟩ := hgw.at_ hlt hlt2
              have hcb := Hcb.out j k hlt hlt2
              have hskip := HK.out.skip
              have hstep := HK.out.step
              obtain ⟨X, hX⟩ : ∃ X, D j k = X := ⟨_, rfl⟩
              rw [hX] at x0 hcb hskip hstep
              clear hX
              by_cases hgo : -1000000000000 < X ∧ 0 < k
              · have hd1' : decide (-1000000000000 < X) = true := by simp; omega
                have hd2' : decide ((0 : Int) < (k : Int)) = true := by simp; omega
                have hwS : IntKind.i64.wrap (en - X) = en - X := IntWalk.i64_in _ (by omega)
                have hst := hstep hgo.1 hgo.2
                obtain ⟨S, hS⟩ : ∃ S, en - X = S := ⟨_, rfl⟩
                rw [hS] at hwS hst
                obtain ⟨Z, hZ⟩ : ∃ Z, min T S = Z := ⟨_, rfl⟩
                rw [hZ] at hst
                have Hst := Lib.hid hst
                have hk00 : (0 : Int) < (k : Int) := by omega
                clear hst hstep hskip hgo hcb
                go_wp2
                go_roundg (i - (k + 1))
                case rel => exact ⟨k + 1, Z, by omega, rfl, by go_num, by first | rfl | (simp [hS, hZ]), Hst.out, rfl⟩
                case measure => omega
              · have Hsk := Lib.hid (hskip hgo)
                have hd : decide (-1000000000000 < X) = false ∨ (decide (-1000000000000 < X) = true ∧ k = 0) := by
                  simp only [decide_eq_true_eq, decide_eq_false_iff_not]; omega
                clear hskip hstep hgo hcb
                rcases hd with hd | ⟨hd1', rfl⟩
                all_goals
                  go_wp2
                  first
                    | go_roundg (i - (k + 1))
                    | go_roundg (i - (0 + 1))
                  case rel =>
                    first
                      | exact ⟨k + 1, T, by omega, rfl, by go_num, rfl, Hsk.out, rfl⟩
                      | exact ⟨0 + 1, T, by omega, rfl, by go_num, rfl, Hsk.out, rfl⟩
                  case measure => omega
            · have ee : k = i := by omega
              subst ee
              obtain ⟨x0, -⟩ := hgw.at_ hlt (show 0 < k by omega)
              have hcb := Hcb.out j 0 hlt (by omega)
              have hf0 := HK.out.fin0
              have hf1 := HK.out.fin1
              obtain ⟨X, hX⟩ : ∃ X, D j 0 = X := ⟨_, rfl⟩
              rw [hX] at x0 hcb hf0 hf1
              clear hX
              have Hmore : RowKit.Hid (∀ Z, LatR k D en j Z → ofF j R ++ [Z] = ofF (j + 1) (fun a => if a = j then Z else R a) ∧ ∀ a, a < j + 1 → LatR k D en a (if a = j then Z else R a)) := Lib.hid fun Z hZ => by
                refine ⟨?_, fun a ha => ?_⟩
                · rw [ofF_succ, if_pos rfl, ofF_congr (g := fun a => if a = j then Z else R a) (fun a ha => by rw [if_neg (by omega)])]
                · by_cases e : a = j
                  · subst e; rw [if_pos rfl]; exact hZ
                  · rw [if_neg e]; exact Hlat.out a (by omega)
              by_cases hgo : -1000000000000 < X
              · have hd1' : decide (-1000000000000 < X) = true := by simpa using hgo
                have hwS : IntKind.i64.wrap (-X) = -X := IntWalk.i64_in _ (by omega)
                have hst := hf1 hgo
                obtain ⟨S, hS⟩ : ∃ S, -X = S := ⟨_, rfl⟩
                rw [hS] at hwS hst
                obtain ⟨Z, hZ⟩ : ∃ Z, min T S = Z := ⟨_, rfl⟩
                rw [hZ] at hst
                obtain ⟨m1', m2'⟩ := Hmore.out Z hst
                have M1 := Lib.hid m1'; have M2 := Lib.hid m2'
                clear hst hf0 hf1 hgo hcb m1' m2'
                go_wp2_with (at_builtin
                             refine wpList_app1 iSized rfl _ _ 23 rfl w2.heap.size 3 i0 _ 8 Try.underlying23 hi0 hz0 hz1 hz2 rfl _ _ rfl ho Z _ rfl wr.heap.size rfl rfl (by rw [ofF_len]; omega) (by omega) hsz ?_
                             intro v4 w4 ho4 hk4 hn4 hB4
                             have hb4 := hB4 _ _ (Nat.le_refl _) hb
                             rw [M1.out] at ho4)
                go_roundg (k - (j + 1))
                case rel => exact ⟨j + 1, _, by omega, rfl, by go_num, ho4, M2.out, hb4⟩
                case measure => omega
              · have hd1' : decide (-1000000000000 < X) = false := by simpa using hgo
                obtain ⟨m1', m2'⟩ := Hmore.out T (hf0 hgo)
                have M1 := Lib.hid m1'; have M2 := Lib.hid m2'
                clear hf0 hf1 hgo hcb m1' m2'
                go_wp2_with (at_builtin
                             refine wpList_app1 iSized rfl _ _ 23 rfl w2.heap.size 3 i0 _ 8 Try.underlying23 hi0 hz0 hz1 hz2 rfl _ _ rfl ho T _ rfl wr.heap.size rfl rfl (by rw [ofF_len]; omega) (by omega) hsz ?_
                             intro v4 w4 ho4 hk4 hn4 hB4
                             have hb4 := hB4 _ _ (Nat.le_refl _) hb
                             rw [M1.out] at ho4)
                go_roundg (k - (j + 1))
                case rel => exact ⟨j + 1, _, by omega, rfl, by go_num, ho4, M2.out, hb4⟩
                case measure => omega
        · have ee : j = i := by omega
          subst ee
          obtain ⟨A3, c3, hv3, r3⟩ := ho.rd iSized (by rw [ofF_len]; omega)
          rw [ofF_len] at hv3 r3
          subst hv3
          clear ho
          go_wp2
          go_ret2
          exact H0.out _ _ _ D R r3 Hlat.out Hle.out Hfw.out Hd.out (hb02.trans (hb.mono hb02.size))
end Go.Proofs.Ythmnkmomgaamlaa
