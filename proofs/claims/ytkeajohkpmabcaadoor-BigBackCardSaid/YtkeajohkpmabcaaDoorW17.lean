/- Walk over Int of package big. Conditions stand in the theorem. -/
import Derived.Test.YtkeajohkpmabcaaDoorW16
namespace Go.Proofs.YtkeajohkpmabcaaDoor
open Go.RowKit
set_option linter.unusedVariables false

/-- is it an int, and which -/
def intC (s : Int) (l : List Int) : Bool := rightB s l && decide (-9223372036854775808 ≤ bval s l ∧ bval s l ≤ 9223372036854775807)
def intV (s : Int) (l : List Int) : Int := if intC s l = true then bval s l else 0
theorem intC_false {s : Int} {l : List Int} (h : intC s l = false) : intV s l = 0 := by unfold intV; rw [h]; rfl
theorem wraps_u64 (n : Int) (h₀ : 0 ≤ n) (h₁ : n < 2 ^ 64) : IntKind.u64.wrap n = n := by rw [IntKind.wrap_u64]; omega
theorem or_comm_u (x y : Int) : bits .or .u64 x y = bits .or .u64 y x := by
  show IntKind.u64.wrap ((BitVec.ofInt 64 x ||| BitVec.ofInt 64 y).toNat : Nat) = IntKind.u64.wrap ((BitVec.ofInt 64 y ||| BitVec.ofInt 64 x).toNat : Nat)
  rw [BitVec.or_comm]
/-- the digits that are read so far, as one number -/
theorem or_join_u (u a : Int) (k : Nat) (hk : k ≤ 60) (h1 : 0 ≤ u) (h2 : u < 2 ^ k) (h3 : 0 ≤ a) (h4 : a * 2 ^ k < 2 ^ 64) : bits .or .u64 u (a * 2 ^ k) = u + a * 2 ^ k := by
  have hp : (2 : Int) ^ k ≤ 2 ^ 60 := by
    have := Nat.pow_le_pow_right (show 0 < 2 by omega) hk
    exact_mod_cast this
  rw [or_comm_u, bits_join .u64 64 (by decide) wraps_u64 k (a * 2 ^ k) u (Int.mul_nonneg h3 (Int.le_of_lt (Int.pow_pos (show (0 : Int) < 2 by omega)))) (Int.mul_emod_left _ _) h4 h1 h2 (by omega)]
  omega
theorem pw_two (k : Nat) : pw k = 2 ^ (20 * k) := by
  induction k with
  | zero => rfl
  | succ k ih => rw [pw, ih, show 20 * (k + 1) = 20 * k + 20 by omega, Int.pow_add]; omega
/-- one digit more -/
theorem int_step {f : Nat → Int} {n k : Nat} {x : Int} (hd : Dg f n) (hk : k < n) (hn : n ≤ 4) (hx : f k = x) (h8 : k = 3 → x ≤ 8) : bits .or .u64 (vF f k) (IntKind.u64.wrap (x * 2 ^ (20 * k))) = vF f (k + 1) := by
  have h1 := hd k hk
  rw [hx] at h1
  have h2 := vF_nonneg (n := k) (fun i hi => hd i (by omega))
  have h3 := vF_lt (n := k) (fun i hi => hd i (by omega))
  have h4 : x * 2 ^ (20 * k) < 2 ^ 64 := by
    have hk4 : k = 0 ∨ k = 1 ∨ k = 2 ∨ k = 3 := by omega
    rcases hk4 with rfl | rfl | rfl | rfl
    · simp; omega
    · simp; omega
    · simp; omega
    · have := h8 rfl
      simp; omega
  have h5 : 0 ≤ x * 2 ^ (20 * k) := Int.mul_nonneg h1.1 (Int.le_of_lt (Int.pow_pos (by omega)))
  rw [wraps_u64 _ h5 h4, or_join_u _ _ _ (by omega) h2 (by rw [← pw_two]; exact h3) h1.1 h4, vF, hx, pw_two, Int.mul_comm]
set_option maxRecDepth 100000 in
set_option maxHeartbeats 2000000 in
theorem bInt_any (s : Int) (A : Option Addr) (n cap : Nat) (l : List Int) (w : World) (hl : RdI w w.heap.size A n cap l) :
    Calls Tryd.prog 24 #[.agg #[.int .i64 s, .slice A n cap]] w fun e w' => e = .returned (.tuple #[.int .i64 (intV s l), .bool (intC s l)]) ∧ Below w.heap.size w w' := by
  have hln := hl.len
  have hcap := hl.caps
  have hb0 := (Below.refl w.heap.size w).alloc (Nat.le_refl _) (.cells #[.int .i64 s, .slice A n cap] 24)
  have c0 : (w.alloc (.cells #[.int .i64 s, .slice A n cap] 24)).cell? ⟨w.heap.size, 0, none⟩ = some (.int .i64 s) := new_cell rfl rfl
  have c1 : (w.alloc (.cells #[.int .i64 s, .slice A n cap] 24)).cell? ⟨w.heap.size, 1, none⟩ = some (.slice A n cap) := new_cell rfl rfl
  have HR := Lib.hid (fun W (h : Below w.heap.size w W) => bright_any s A n cap l W (hl.up (flat_lasts _) h))
  obtain ⟨w0, hw0⟩ : ∃ w0, w0 = w.alloc (.cells #[.int .i64 s, .slice A n cap] 24) := ⟨_, rfl⟩
  rw [← hw0] at hb0 c0 c1
  obtain ⟨g, hg⟩ : ∃ g, g = w.heap.size := ⟨_, rfl⟩
  rw [← hg] at c0 c1
  have HW := Lib.hid hw0; have HG := Lib.hid hg
  clear hw0 hg
  cases h1 : rightB s l
  · have hI : intC s l = false := by unfold intC; rw [h1, Bool.false_and]
    rw [intC_false hI, hI]
    rw [h1] at HR
    clear hI h1
    go_enter Tryd.func24, Tryd.ntmps24
    go_wp2_with fail
    rw [← HW.out, ← HG.out]
    refine (HR.out _ hb0).mono ?_
    rintro e w1 ⟨rfl, hb1⟩
    have hb2 := hb0.trans (hb1.mono hb0.size)
    clear hb1
    go_wp2
    go_returns
    exact ⟨rfl, hb2⟩
  obtain ⟨hcn, hl60, hsg⟩ := rightB_cn h1
  rw [h1] at HR
  by_cases hn4 : 4 < n
  · have hI : intC s l = false := by
      unfold intC
      rw [h1, Bool.true_and, decide_eq_false]
      have hne : l ≠ [] := fun e => by rw [e] at hln; simp at hln; omega
      have h2 := hcn.ge hne
      have h3 := pw_le (show 4 ≤ l.length - 1 by omega)
      have h4 : pw 4 = 1208925819614629174706176 := by simp [pw]
      rcases hsg with ⟨h, -⟩ | ⟨-, rfl | rfl⟩
      · exact absurd h hne
      · unfold bval; omega
      · unfold bval; omega
    have hd : decide (4 < n) = true := decide_eq_true hn4
    rw [intC_false hI, hI]
    clear hI h1 hcn hl60 hsg hln
    go_enter Tryd.func24, Tryd.ntmps24
    go_wp2_with fail
    rw [← HW.out, ← HG.out]
    refine (HR.out _ hb0).mono ?_
    rintro e w1 ⟨rfl, hb1⟩
    have hb2 := hb0.trans (hb1.mono hb0.size)
    have d0 := keep_cell hb1 c0
    have d1 := keep_cell hb1 c1
    clear hb1
    go_wp2
    go_returns
    exact ⟨rfl, hb2⟩
  have hd : decide (4 < n) = false := decide_eq_false hn4
  have hdg := hcn.1.at hln
  have HV := Lib.hid (val_vF hln)
  clear hl60
  go_enter Tryd.func24, Tryd.ntmps24
  go_wp2_with fail
  rw [← HW.out, ← HG.out]
  refine (HR.out _ hb0).mono ?_
  rintro e w1 ⟨rfl, hb1⟩
  have hb2 := hb0.trans (hb1.mono hb0.size)
  have d0 := keep_cell hb1 c0
  have d1 := keep_cell hb1 c1
  have hl1 := hl.up (flat_lasts _) hb2
  clear hb1 c0 c1
  go_wp2_with fail
  go_loopg [4, 19] n (fun gk uv iv wr => ∃ (k : Nat) (u : Int), iv = .int .i64 k ∧ uv = .int .u64 u ∧ u = vF (gi l) k ∧ k ≤ n ∧ gk = n - k ∧ (∀ j, j < k → j = 3 → gi l j ≤ 8) ∧ w1 = wr)
  case atStart => exact ⟨0, 0, rfl, rfl, rfl, Nat.zero_le _, rfl, (fun j h => absurd h (by omega)), rfl⟩
  case round =>
    obtain ⟨k, u, rfl, rfl, hu, hk, rfl, h8, rfl⟩ := hrel
    have Hu := Lib.hid hu; have H8 := Lib.hid h8
    clear hu h8
    by_cases hlt : k < n
    · obtain ⟨b, off, x, rfl, hb, hx, d2⟩ := hl1.atI hlt
      have hki : (k : Int) < (n : Int) := by omega
      have hk0 : (0 : Int) ≤ (k : Int) := by omega
      have hxd := hdg k hlt
      rw [gi_eq hx] at hxd
      have Hx := Lib.hid (gi_eq hx)
      clear hx
      have hwk : IntKind.i64.wrap (20 * (k : Int)) = 20 * (k : Int) := IntWalk.i64_in _ (by omega)
      have hk0' : (0 : Int) ≤ 20 * (k : Int) := by omega
      have hwx : IntKind.u64.wrap x = x := wraps_u64 _ (by omega) (by omega)
      by_cases h8 : k = 3 ∧ 8 < x
      · have hd3 : ((k : Int) == 3) = true := by rw [h8.1]; rfl
        have hd4 : decide (8 < x) = true := decide_eq_true h8.2
        have hI : intC s l = false := by
          unfold intC
          rw [h1, Bool.true_and, decide_eq_false]
          have hn4' : n = 4 := by omega
          have h5 := Hx.out
          rw [h8.1] at h5
          have h2 := HV.out
          rw [hn4', vF, h5] at h2
          have h3 := vF_nonneg (f := gi l) (n := 3) (fun i hi => hdg i (by omega))
          have h4 : pw 3 = 1152921504606846976 := by simp [pw]
          have h6 : pw 3 * 9 ≤ pw 3 * x := Int.mul_le_mul_of_nonneg_left (by omega) (by omega)
          have hne : l ≠ [] := fun e => by rw [e] at hln; simp at hln; omega
          rcases hsg with ⟨h, -⟩ | ⟨-, rfl | rfl⟩
          · exact absurd h hne
          · unfold bval; omega
          · unfold bval; omega
        have HIc := Lib.hid hI; have HIv := Lib.hid (intC_false hI)
        have HB := Lib.hid hb2
        clear h8 hI hsg hcn hb2 hln hdg h1
        go_wp2
        go_returns
        exact ⟨by rw [HIc.out, HIv.out]; rfl, HB.out⟩
      · have hst := int_step hdg hlt (by omega) Hx.out (fun e => by omega)
        rw [← Hu.out] at hst
        have Hst := Lib.hid hst
        have H8' := Lib.hid (show ∀ j, j < k + 1 → j = 3 → gi l j ≤ 8 from fun j hj e => by
          by_cases e2 : j = k
          · subst e2; rw [Hx.out]; omega
          · exact H8.out j (by omega) e)
        clear hst
        have hbr : ((k : Int) == 3) = false ∨ (((k : Int) == 3) = true ∧ decide (8 < x) = false) := by
          by_cases e : k = 3
          · exact Or.inr ⟨by rw [e]; rfl, decide_eq_false (by omega)⟩
          · exact Or.inl (by simp; omega)
        clear h8
        rcases hbr with hd3 | ⟨hd3, hd4⟩
        · go_wp2
          go_roundg (n - (k + 1))
          case rel => exact ⟨k + 1, _, by go_num, rfl, Hst.out, by omega, rfl, H8'.out, rfl⟩
          case measure => omega
        · go_wp2
          go_roundg (n - (k + 1))
          case rel => exact ⟨k + 1, _, by go_num, rfl, Hst.out, by omega, rfl, H8'.out, rfl⟩
          case measure => omega
    · have ee : k = n := by omega
      subst ee
      have hv := Hu.out.trans HV.out.symm
      have h0 := val_nonneg hcn.1
      have hbd : u < 18446744073709551616 := by
        have h3 := vF_lt hdg
        by_cases e : k = 4
        · have h4 := HV.out
          have h8 := H8.out 3 (by omega) rfl
          rw [e, vF] at h4
          have h5 := vF_lt (f := gi l) (n := 3) (fun i hi => hdg i (by omega))
          have h6 : pw 3 = 1152921504606846976 := by simp [pw]
          have h7 : pw 3 * gi l 3 ≤ pw 3 * 8 := Int.mul_le_mul_of_nonneg_left h8 (by omega)
          omega
        · have h4 := pw_le (show k ≤ 3 by omega)
          have h6 : pw 3 = 1152921504606846976 := by simp [pw]
          have := HV.out
          omega
      rw [← hv] at h0
      have hbv : bval s l = s * u := by unfold bval; rw [hv]
      have hI : intC s l = decide (-9223372036854775808 ≤ s * u ∧ s * u ≤ 9223372036854775807) := by unfold intC; rw [h1, Bool.true_and, hbv]
      have hV : intV s l = if intC s l = true then s * u else 0 := by unfold intV; rw [hbv]
      have HB := Lib.hid hb2
      have hs3 : s = 0 ∨ s = 1 ∨ s = -1 := right_sg h1
      have hu0 : s = 0 → u = 0 := fun e => by
        rcases hsg with ⟨h, -⟩ | ⟨-, h⟩
        · rw [hv, h]; rfl
        · omega
      clear hbv hv hb2 hsg hcn hln hdg h1 HV H8 Hu
      by_cases hneg : s < 0
      · have hs : s = -1 := by omega
        subst hs
        have hd5 : decide ((-1 : Int) < 0) = true := rfl
        by_cases hle : u ≤ 9223372036854775808
        · have hd6 : decide (u ≤ 9223372036854775808) = true := decide_eq_true hle
          have hw6 : IntKind.i64.wrap (IntKind.u64.wrap (-u)) = -u := by rw [IntKind.wrap_u64, IntKind.wrap_i64]; omega
          rw [decide_eq_true (by omega)] at hI
          rw [hI, if_pos rfl, show (-1 : Int) * u = -u by omega] at hV
          have HIc := Lib.hid hI; have HIv := Lib.hid hV
          clear hV hI hle hneg hu0 hs3
          go_wp2
          go_returns
          exact ⟨by rw [HIc.out, HIv.out]; rfl, HB.out⟩
        · have hd6 : decide (u ≤ 9223372036854775808) = false := decide_eq_false hle
          rw [decide_eq_false (by omega)] at hI
          rw [hI, if_neg (by simp)] at hV
          have HIc := Lib.hid hI; have HIv := Lib.hid hV
          clear hV hI hle hneg hu0 hs3
          go_wp2
          go_returns
          exact ⟨by rw [HIc.out, HIv.out]; rfl, HB.out⟩
      · have hd5 : decide (s < 0) = false := decide_eq_false hneg
        have hd7 : decide (0 ≤ s) = true := decide_eq_true (by omega)
        by_cases hle : u < 9223372036854775808
        · have hd6 : decide (u < 9223372036854775808) = true := decide_eq_true hle
          have hw6 : IntKind.i64.wrap u = u := IntWalk.i64_in _ (by omega)
          have hsu : s * u = u := by rcases hs3 with h | h | h; (rw [h, hu0 h]; rfl); (rw [h]; omega); omega
          rw [hsu, decide_eq_true (by omega)] at hI
          rw [hI, if_pos rfl, hsu] at hV
          have HIc := Lib.hid hI; have HIv := Lib.hid hV
          clear hV hsu hI hle hneg hu0 hs3
          go_wp2
          go_returns
          exact ⟨by rw [HIc.out, HIv.out]; rfl, HB.out⟩
        · have hd6 : decide (u < 9223372036854775808) = false := decide_eq_false hle
          have hsu : s * u = u := by rcases hs3 with h | h | h; (have := hu0 h; omega); (rw [h]; omega); omega
          rw [hsu, decide_eq_false (by omega)] at hI
          rw [hI, if_neg (by simp)] at hV
          have HIc := Lib.hid hI; have HIv := Lib.hid hV
          clear hV hsu hI hle hneg hu0 hs3
          go_wp2
          go_returns
          exact ⟨by rw [HIc.out, HIv.out]; rfl, HB.out⟩
end Go.Proofs.YtkeajohkpmabcaaDoor
