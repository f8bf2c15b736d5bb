/- Walk: Split of package share. Conditions stand in each theorem. -/
import Derived.Test.YtfidjhhpcjmioaaW4
import Derived.Deep.LoopGhost
namespace Go.Proofs.Ytfidjhhpcjmioaa
open Go.RowKit
set_option linter.unusedVariables false

theorem split_bad (secret k n seed : Int) (w : World) (hbad : splitBad secret k n = true) :
  Calls Try.prog 13 #[.int .i64 secret, .int .i64 k, .int .i64 n, .int .i64 seed] w fun e w' => e = .returned (.tuple #[.slice none 0 0, .int .i64 1]) ∧ w = w' := by
  cases hF : inF secret
  · have HF := Lib.hid hF; clear hF hbad
    go_enter Try.func13, Try.ntmps13
    go_wp2_with (go_at_call 38; refine (right_no _ _ HF.out).mono ?_; rintro e w2 ⟨rfl, rfl⟩)
    go_ret2
    exact ⟨rfl, rfl⟩
  · have hb : n < 1 ∨ 20 < n ∨ k < 1 ∨ n < k := by
      simp [splitBad, hF] at hbad; omega
    have HF := Lib.hid hF; clear hF hbad
    by_cases h1 : n < 1
    · have e1 : decide (n < 1) = true := by simpa using h1
      go_enter Try.func13, Try.ntmps13
      go_wp2_with (go_at_call 38; refine (right_yes _ _ HF.out).mono ?_; rintro e w2 ⟨rfl, rfl⟩)
      go_ret2
      exact ⟨rfl, rfl⟩
    have e1 : decide (n < 1) = false := by simpa using h1
    by_cases h2 : 20 < n
    · have e2 : decide (20 < n) = true := by simpa using h2
      go_enter Try.func13, Try.ntmps13
      go_wp2_with (go_at_call 38; refine (right_yes _ _ HF.out).mono ?_; rintro e w2 ⟨rfl, rfl⟩)
      go_ret2
      exact ⟨rfl, rfl⟩
    have e2 : decide (20 < n) = false := by simpa using h2
    by_cases h3 : k < 1
    · have e3 : decide (k < 1) = true := by simpa using h3
      go_enter Try.func13, Try.ntmps13
      go_wp2_with (go_at_call 38; refine (right_yes _ _ HF.out).mono ?_; rintro e w2 ⟨rfl, rfl⟩)
      go_ret2
      exact ⟨rfl, rfl⟩
    have e3 : decide (k < 1) = false := by simpa using h3
    have h4 : n < k := by omega
    have e4 : decide (n < k) = true := by simpa using h4
    go_enter Try.func13, Try.ntmps13
    go_wp2_with (go_at_call 38; refine (right_yes _ _ HF.out).mono ?_; rintro e w2 ⟨rfl, rfl⟩)
    go_ret2
    exact ⟨rfl, rfl⟩

/-- the factors as a list -/
def facs (secret s : Int) (m : Nat) : List Int := (List.range m).map (coef secret s)
theorem facs_len (secret s : Int) (m : Nat) : (facs secret s m).length = m := by simp [facs]
theorem facs_snoc (secret s : Int) (m : Nat) : facs secret s (m + 1) = facs secret s m ++ [coef secret s m] := by simp [facs, List.range_succ]
theorem facs_get {secret s : Int} {m i : Nat} {x : Int} (h : (facs secret s m)[i]? = some x) : x = coef secret s i := by
  unfold facs at h
  rw [List.getElem?_map] at h
  by_cases hi : i < m
  · rw [List.getElem?_range hi] at h
    simpa using h.symm
  · rw [List.getElem?_eq_none (by simpa using hi)] at h
    cases h
theorem splitL_len (secret k s : Int) (n : Nat) : (splitL secret k s n).length = n := by simp [splitL]
theorem splitL_snoc (secret k s : Int) (n : Nat) : splitL secret k s (n + 1) = splitL secret k s n ++ [((n : Int) + 1, hor (coef secret s) ((n : Int) + 1) k.toNat k.toNat)] := by simp [splitL, List.range_succ]

theorem split_ok (secret seed : Int) (k n : Nat) (w : World) (hF : inF secret = true) (hn1 : 1 ≤ n) (hn2 : n ≤ 20) (hk1 : 1 ≤ k) (hk2 : k ≤ n) (hs1 : -9223372036854775808 ≤ seed) (hs2 : seed ≤ 9223372036854775807) :
  Calls Try.prog 13 #[.int .i64 secret, .int .i64 k, .int .i64 n, .int .i64 seed] w fun e w' => ∃ v, e = .returned (.tuple #[v, .int .i64 0]) ∧ Own 2 pEnc w' w.heap.size 39 v (splitL secret k seed n) ∧ Below w.heap.size w w' := by
  have hsec : 0 ≤ secret ∧ secret < 2147483647 := by simpa [inF] using hF
  have HF := Lib.hid hF; clear hF
  obtain ⟨i0, hi0, hz0, hz1, hz2⟩ := info_parts share_info
  obtain ⟨j0, hj0, hy0, hy1, hy2⟩ := info_parts int_info
  have b1 : -2147483648 < seed.tmod 2147483648 := Int.lt_tmod_of_pos seed (by omega)
  have b2 : seed.tmod 2147483648 < 2147483648 := Int.tmod_lt_of_pos seed (by omega)
  have e1 : decide ((n : Int) < 1) = false := by simp; omega
  have e2 : decide ((20 : Int) < n) = false := by simp; omega
  have e3 : decide ((k : Int) < 1) = false := by simp; omega
  have e4 : decide (n < k) = false := by simp; omega
  go_enter Try.func13, Try.ntmps13
  go_wp2_with (go_at_call 38; refine (right_yes _ _ HF.out).mono ?_; rintro e w2 ⟨rfl, rfl⟩)
  clear e1 e2 e3 e4
  generalize hx0 : (seed.tmod 2147483648 + 2147483648) % 2147483648 = x0
  have Hx0 := Lib.hid (show x0 = seed % 2147483648 by rw [← hx0]; exact tmod31' seed)
  have hx01 : 0 ≤ x0 := by omega
  have hx02 : x0 < 2147483648 := by omega
  clear hx0
  go_loopg [10, 11, 44] (k - 1) (fun gk x v i wr => ∃ m : Nat, ∃ x' : Int, m + 1 ≤ k ∧ gk = k - 1 - m ∧ i = .int .i64 m ∧ x = .int .i64 x' ∧ 0 ≤ x' ∧ x' < 2147483648 ∧ x' = rnd seed m ∧ Own 1 iEnc wr w.heap.size 3 v (facs secret seed (m + 1)) ∧ Below w.heap.size w wr)
  case atStart =>
    refine ⟨0, _, by omega, rfl, rfl, rfl, ?_, ?_, ?_, Own.lit (n := 1) iSized (Nat.le_refl _) _ _ rfl rfl (by omega), (Below.refl _ _).alloc (Nat.le_refl _) _⟩
    · exact hx01
    · exact hx02
    · exact Hx0.out
  case round =>
    obtain ⟨m, x, hm, rfl, rfl, rfl, x1, x2, hx, hown, hb⟩ := hrel
    have Hx := Lib.hid hx; clear hx
    by_cases hlt : m + 1 < k
    · have hc := mod_bd ((1103515245 * x + 12345) % 2147483648)
      have hl3 := Rd.new1 iSized wr ((1103515245 * x + 12345) % 2147483648 % 2147483647) #[.int .i64 ((1103515245 * x + 12345) % 2147483648 % 2147483647)] rfl 3
      go_wp2_with (at_builtin; refine wpList_app _ iSized rfl _ _ 65 rfl w.heap.size 3 j0 _ 8 Try.underlying65 hj0 hy0 hy1 hy2 rfl _ (facs secret seed (m + 1)) rfl (hown.alloc _) _ _ 1 1 _ rfl hl3 (by rw [facs_len]; simp only [maxLen]; omega) (by rw [facs_len]; omega) (by have := hb.size; simp; omega) ?_
                   intro v3 w3 hown3 hg3 _
                   have hb3 : Below w.heap.size w w3 := Own.grow (hown.alloc _) (Nat.le_refl _) (hb.alloc hb.size _) (by have := hb.size; simp; omega) hg3)
      go_roundg (k - 1 - (m + 1))
      case rel =>
        refine ⟨m + 1, _, by omega, rfl, by go_num, rfl, by omega, by omega, ?_, ?_, hb3⟩
        · rw [rnd, ← Hx.out]
        · rw [facs_snoc, coef, if_neg (by omega), rnd, ← Hx.out]; exact hown3
      case measure => omega
    · have hmk : m + 1 = k := by omega
      rw [hmk] at hown
      obtain ⟨A, cf, rfl, hrd⟩ := hown.rd iSized (by rw [facs_len]; omega)
      rw [facs_len] at hrd ⊢
      obtain ⟨w1, rfl⟩ : ∃ w1 : World, w1 = wr := ⟨_, rfl⟩
      clear hmk hown
      go_wp2
      go_loopg [12, 13] n (fun gk v i wr => ∃ a : Nat, a ≤ n ∧ gk = n - a ∧ i = .int .i64 ((a : Int) + 1) ∧ Own 2 pEnc wr w1.heap.size 39 v (splitL secret k seed a) ∧ Below w1.heap.size w1 wr)
      case atStart => exact ⟨0, by omega, rfl, rfl, Own.nil, Below.refl _ _⟩
      case round =>
        obtain ⟨a, ha, rfl, rfl, hown, hbo⟩ := hrel
        by_cases hla : a < n
        · obtain ⟨w2, rfl⟩ : ∃ w2 : World, w2 = wr := ⟨_, rfl⟩
          go_wp2
          go_loopg [14, 15] k (fun gk y i wr => ∃ i' : Int, -1 ≤ i' ∧ gk = (i' + 1).toNat ∧ i' ≤ (k : Int) - 1 ∧ i = .int .i64 i' ∧ ∃ y' : Int, y = .int .i64 y' ∧ 0 ≤ y' ∧ y' < 2147483647 ∧ y' = hor (coef secret seed) ((a : Int) + 1) k ((k : Int) - 1 - i').toNat ∧ w2 = wr)
          case atStart => exact ⟨(k : Int) - 1, by omega, by omega, by omega, rfl, 0, rfl, by omega, by omega, by rw [Int.sub_self]; rfl, rfl⟩
          case round =>
            obtain ⟨i, i1, hgk, i2, rfl, y, rfl, y1, y2, hy, rfl⟩ := hrel
            have Hgk := Lib.hid hgk; clear hgk
            have Hy := Lib.hid hy; clear hy
            by_cases hip : 0 ≤ i
            · obtain ⟨j, rfl⟩ := Int.eq_ofNat_of_zero_le hip
              obtain ⟨b, off, x, rfl, hbB, hx, c0⟩ := (hrd.up (flat_lasts _) hbo).atI (k := j) (by omega)
              have hx' := facs_get hx
              have xb := coef_bd secret seed j hsec
              rw [← hx'] at xb
              obtain ⟨xb1, xb2⟩ := xb
              have Hx := Lib.hid hx'; clear hx hx'
              obtain ⟨p1, p2⟩ := mul_bd y1 y2 (show 0 ≤ (a : Int) + 1 by omega) (by omega)
              go_wp2
              go_roundg j
              case rel =>
                refine ⟨(j : Int) - 1, by omega, by omega, by omega, rfl, _, rfl, (mod_bd _).1, (mod_bd _).2, ?_, rfl⟩
                have e1 : ((k : Int) - 1 - ((j : Int) - 1)).toNat = ((k : Int) - 1 - j).toNat + 1 := by omega
                rw [e1, hor, ← Hy.out, Hx.out]
                have e2 : k - 1 - ((k : Int) - 1 - j).toNat = j := by omega
                rw [e2]
              case measure => rw [Hgk.out]; omega
            · have e : i = -1 := by omega
              subst e
              have e1 : ((k : Int) - 1 - -1).toNat = k := by omega
              have Hy2 := Lib.hid (show y = hor (coef secret seed) ((a : Int) + 1) k k by rw [Hy.out, e1])
              clear e1
              have hl3 := Rd.new1 pSized w2 ((a : Int) + 1, y) #[.int .i64 ((a : Int) + 1), .int .i64 y] rfl 39
              go_wp2_with (at_builtin; refine wpList_app _ pSized rfl _ _ 22 rfl w1.heap.size 39 i0 _ 16 Try.underlying22 hi0 hz0 hz1 hz2 rfl _ (splitL secret k seed a) rfl (hown.alloc _) _ _ 1 1 _ rfl hl3 (by rw [splitL_len]; simp only [maxLen]; omega) (by rw [splitL_len]; omega) (by have := hbo.size; simp; omega) ?_
                           intro v3 w3 hown3 hg3 _
                           have hb3 : Below w1.heap.size w1 w3 := Own.grow (hown.alloc _) (Nat.le_refl _) (hbo.alloc hbo.size _) (by have := hbo.size; simp; omega) hg3)
              go_roundg (n - (a + 1))
              case rel =>
                refine ⟨a + 1, by omega, rfl, by go_num, ?_, hb3⟩
                rw [splitL_snoc, Int.toNat_natCast, ← Hy2.out]; exact hown3
              case measure => omega
        · have e : a = n := by omega
          subst e
          go_wp2
          go_ret2
          exact ⟨_, rfl, hown.mono hb.size, hb.trans (hbo.mono hb.size)⟩
end Go.Proofs.Ytfidjhhpcjmioaa
