/- Walk over the reference of layer 7: Split. Conditions stand in each theorem. -/
import Derived.Test.YtfidjhhpcjmioaaR4
namespace Go.Proofs.Ytfidjhhpcjmioaa
open Go.RowKit
set_option linter.unusedVariables false

theorem rsplit_bad (secret k n seed : Int) (w : World) (hbad : splitBad secret k n = true) :
  Calls Try.prog 14 #[.int .i64 secret, .int .i64 k, .int .i64 n, .int .i64 seed] w fun e w' => e = .returned (.tuple #[.slice none 0 0, .int .i64 1]) ∧ w = w' := by
  have hb : secret < 0 ∨ 2147483647 ≤ secret ∨ n < 1 ∨ 20 < n ∨ k < 1 ∨ n < k := by
    simp [splitBad, inF] at hbad; omega
  clear hbad
  have d : ∀ p : Prop, [Decidable p] → p → decide p = true := fun p _ h => decide_eq_true h
  have d' : ∀ p : Prop, [Decidable p] → ¬ p → decide p = false := fun p _ h => decide_eq_false h
  by_cases h1 : secret < 0
  · have e1 := d _ h1
    clear d d'
    go_enter Try.func14, Try.ntmps14
    go_wp2
    go_ret2
    exact ⟨rfl, rfl⟩
  have e1 := d' _ h1
  by_cases h2 : 2147483647 ≤ secret
  · have e2 := d _ h2
    clear d d'
    go_enter Try.func14, Try.ntmps14
    go_wp2
    go_ret2
    exact ⟨rfl, rfl⟩
  have e2 := d' _ h2
  by_cases h3 : n < 1
  · have e3 := d _ h3
    clear d d'
    go_enter Try.func14, Try.ntmps14
    go_wp2
    go_ret2
    exact ⟨rfl, rfl⟩
  have e3 := d' _ h3
  by_cases h4 : 20 < n
  · have e4 := d _ h4
    clear d d'
    go_enter Try.func14, Try.ntmps14
    go_wp2
    go_ret2
    exact ⟨rfl, rfl⟩
  have e4 := d' _ h4
  by_cases h5 : k < 1
  · have e5 := d _ h5
    clear d d'
    go_enter Try.func14, Try.ntmps14
    go_wp2
    go_ret2
    exact ⟨rfl, rfl⟩
  have e5 := d' _ h5
  have h6 : n < k := by omega
  have e6 := d _ h6
  clear d d'
  go_enter Try.func14, Try.ntmps14
  go_wp2
  go_ret2
  exact ⟨rfl, rfl⟩

theorem grown_set (w : World) (g j : Nat) (u : Value) : w.grownBy (w.setCell ⟨g, j, none⟩ u) (some g) :=
  ⟨rfl, rfl, rfl, by simp [World.setCell], fun i _ hne => Below.heap_setCell w ⟨g, j, none⟩ u i (fun e => hne (by rw [e]))⟩
/-- the reference's shares -/
def rsplitL (secret s : Int) (k n : Nat) : List (Int × Int) := ofF n fun i => ((i : Int) + 1, rY secret s i (k - 1))

theorem rsplit_ok (secret seed : Int) (k n : Nat) (w : World) (hF : inF secret = true) (hn1 : 1 ≤ n) (hn2 : n ≤ 20) (hk1 : 1 ≤ k) (hk2 : k ≤ n) (hs1 : -9223372036854775808 ≤ seed) (hs2 : seed ≤ 9223372036854775807) :
  Calls Try.prog 14 #[.int .i64 secret, .int .i64 k, .int .i64 n, .int .i64 seed] w fun e w' => ∃ v, e = .returned (.tuple #[v, .int .i64 0]) ∧ Own 2 pEnc w' w.heap.size 39 v (rsplitL secret seed k n) ∧ Below w.heap.size w w' := by
  have hsec : 0 ≤ secret ∧ secret < 2147483647 := by simpa [inF] using hF
  clear hF
  obtain ⟨sec1, sec2⟩ := hsec
  obtain ⟨i0, hi0, hz0, hz1, hz2⟩ := info_parts share_info
  obtain ⟨j0, hj0, hy0, hy1, hy2⟩ := info_parts int_info
  have b1 : -2147483648 < seed.tmod 2147483648 := Int.lt_tmod_of_pos seed (by omega)
  have b2 : seed.tmod 2147483648 < 2147483648 := Int.tmod_lt_of_pos seed (by omega)
  have e1 : decide (secret < 0) = false := by simp; omega
  have e2 : decide (2147483647 ≤ secret) = false := by simp; omega
  have e3 : decide ((n : Int) < 1) = false := by simp; omega
  have e4 : decide ((20 : Int) < n) = false := by simp; omega
  have e5 : decide ((k : Int) < 1) = false := by simp; omega
  have e6 : decide (n < k) = false := by simp; omega
  go_enter Try.func14, Try.ntmps14
  go_wp2_with (at_make; refine wpList_mk _ pSized (0, 0) rfl _ _ 22 rfl w.heap.size 39 i0 (.agg #[.int .i64 0, .int .i64 0]) Try.underlying22 hi0 hz0 hz1 rfl _ _ _ _ n rfl rfl rfl rfl (by rw [hz2]; omega) (by unfold maxLen; omega) (Nat.le_refl _) ?_
               intro w1 hown1 hg1)
  rw [ofF_rep] at hown1
  have hb1 : Below w.heap.size w w1 := (Below.refl _ _).grown hg1 (Nat.le_refl _) (by simp)
  clear e1 e2 e3 e4 e5 e6 hg1
  generalize hx0 : seed.tmod 2147483648 % 2147483648 = x0
  have Hx0 := Lib.hid (show x0 = seed % 2147483648 by rw [← hx0]; exact tmod31 seed)
  have hx01 : 0 ≤ x0 := by omega
  have hx02 : x0 < 2147483648 := by omega
  clear hx0
  go_loopg [12] n (fun gk i wr => ∃ a : Nat, a ≤ n ∧ gk = n - a ∧ i = .int .i64 a ∧ Own 2 pEnc wr w.heap.size 39 (.slice (some ⟨w.heap.size, 0, none⟩) n n) (ofF n fun i => if i < a then ((i : Int) + 1, secret) else (0, 0)) ∧ Below w.heap.size w wr)
  case atStart => exact ⟨0, by omega, rfl, rfl, by simpa using hown1, hb1⟩
  case round =>
    obtain ⟨a, ha, rfl, rfl, hown, hb⟩ := hrel
    by_cases hla : a < n
    · obtain ⟨c0, c1, f0, f1⟩ := hown.cellP hla
      rw [if_neg (by omega)] at c0 c1
      have hai : (a : Int) < (n : Int) := by omega
      go_wp2
      go_roundg (n - (a + 1))
      case rel =>
        refine ⟨a + 1, by omega, rfl, by go_num, ?_, (hb.setCell (Nat.le_refl _) _).setCell (Nat.le_refl _) _⟩
        have h3 := (hown.setX hla ((a : Int) + 1)).setY hla secret
        rw [ofF_congr (g := fun i => if i < a + 1 then ((i : Int) + 1, secret) else (0, 0))] at h3
        · exact h3
        · intro j hj
          by_cases e : j = a
          · subst e; simp
          · simp only [e, if_false]
            by_cases e2 : j < a
            · rw [if_pos e2, if_pos (by omega)]
            · rw [if_neg e2, if_neg (by omega)]
      case measure => omega
    · have e : a = n := by omega
      subst e
      rw [ofF_congr (g := fun (i : Nat) => ((i : Int) + 1, rY secret seed i 0)) (fun i hi => by rw [if_pos hi]; rfl)] at hown
      obtain ⟨w2, rfl⟩ : ∃ w2 : World, w2 = wr := ⟨_, rfl⟩
      clear hown1 hb1
      go_wp2_with (at_make; refine wpList_mk _ iSized 0 rfl _ _ 65 rfl w2.heap.size 3 j0 (.int .i64 0) Try.underlying65 hj0 hy0 hy1 rfl _ _ _ _ a rfl rfl rfl rfl (by rw [hy2]; omega) (by unfold maxLen; omega) (Nat.le_refl _) ?_
                   intro w3 hown3 hg3)
      rw [ofF_rep] at hown3
      have hownA := hown.kept hg3 (.inr (by simp [Value.ownBlock]))
      have hbA : Below w.heap.size w w3 := hb.grown hg3 hb.size (by simp)
      have hltG : w.heap.size < w2.heap.size := (hown.lt _ rfl).2
      clear hg3
      go_loopg [14] a (fun gk i wr => ∃ b : Nat, b ≤ a ∧ gk = a - b ∧ i = .int .i64 b ∧ Own 2 pEnc wr w.heap.size 39 (.slice (some ⟨w.heap.size, 0, none⟩) a a) (ofF a fun i => ((i : Int) + 1, rY secret seed i 0)) ∧ Own 1 iEnc wr w2.heap.size 3 (.slice (some ⟨w2.heap.size, 0, none⟩) a a) (ofF a fun i => if i < b then 1 else 0) ∧ Below w.heap.size w wr)
      case atStart => exact ⟨0, by omega, rfl, rfl, hownA, by simpa using hown3, hbA⟩
      case round =>
        obtain ⟨b, hb', rfl, rfl, hA, hP, hb⟩ := hrel
        by_cases hlb : b < a
        · obtain ⟨c0, f0⟩ := hP.cellI hlb
          rw [if_neg (by omega)] at c0
          have hai : (b : Int) < (a : Int) := by omega
          go_wp2
          go_roundg (a - (b + 1))
          case rel =>
            refine ⟨b + 1, by omega, rfl, by go_num, ?_, ?_, hb.setCell (by show w.heap.size ≤ w2.heap.size; omega) _⟩
            · exact hA.kept (grown_set _ _ _ _) (.inr (by simp [Value.ownBlock]; omega))
            · have h3 := hP.setI hlb 1
              rw [ofF_congr (g := fun i => if i < b + 1 then 1 else 0)] at h3
              · exact h3
              · intro j hj
                by_cases e : j = b
                · subst e; simp
                · simp only [e, if_false]
                  by_cases e2 : j < b
                  · rw [if_pos e2, if_pos (by omega)]
                  · rw [if_neg e2, if_neg (by omega)]
          case measure => omega
        · have e : b = a := by omega
          subst e
          rw [ofF_congr (g := fun i => rpw i 0) (fun i hi => by rw [if_pos hi]; rfl)] at hP
          clear hown3 hownA hbA hown
          go_wp2
          go_loopg [10, 15] (k - 1) (fun gk x i wr => ∃ c : Nat, ∃ x' : Int, c + 1 ≤ k ∧ gk = k - 1 - c ∧ i = .int .i64 ((c : Int) + 1) ∧ x = .int .i64 x' ∧ 0 ≤ x' ∧ x' < 2147483648 ∧ x' = rnd seed c ∧ Own 2 pEnc wr w.heap.size 39 (.slice (some ⟨w.heap.size, 0, none⟩) b b) (ofF b fun i => ((i : Int) + 1, rY secret seed i c)) ∧ Own 1 iEnc wr w2.heap.size 3 (.slice (some ⟨w2.heap.size, 0, none⟩) b b) (ofF b fun i => rpw i c) ∧ Below w.heap.size w wr)
          case atStart => exact ⟨0, x0, by omega, rfl, rfl, rfl, hx01, hx02, Hx0.out, hA, hP, hb⟩
          case round =>
            obtain ⟨c, x, hc, rfl, rfl, rfl, x1, x2, hx, hA, hP, hb⟩ := hrel
            have Hx := Lib.hid hx; clear hx
            by_cases hlc : c + 1 < k
            · have hdt : decide ((c : Int) + 1 < (k : Int)) = true := by simp; omega
              go_wp2
              clear hdt
              go_loopg [16] b (fun gk i wr => ∃ a : Nat, a ≤ b ∧ gk = b - a ∧ i = .int .i64 a ∧ Own 2 pEnc wr w.heap.size 39 (.slice (some ⟨w.heap.size, 0, none⟩) b b) (ofF b fun i => if i < a then ((i : Int) + 1, rY secret seed i (c + 1)) else ((i : Int) + 1, rY secret seed i c)) ∧ Own 1 iEnc wr w2.heap.size 3 (.slice (some ⟨w2.heap.size, 0, none⟩) b b) (ofF b fun i => if i < a then rpw i (c + 1) else rpw i c) ∧ Below w.heap.size w wr)
              case atStart => exact ⟨0, by omega, rfl, rfl, by simpa using hA, by simpa using hP, hb⟩
              case round =>
                obtain ⟨a, ha', rfl, rfl, hA, hP, hb⟩ := hrel
                by_cases hla : a < b
                · obtain ⟨c0, c1, f0, f1⟩ := hA.cellP hla
                  obtain ⟨p0, q0⟩ := hP.cellI hla
                  rw [if_neg (by omega)] at c0 c1 p0
                  simp only at c0 c1
                  have rb := rpw_bd a c
                  have yb := rY_bd secret seed a c ⟨sec1, sec2⟩
                  obtain ⟨r, hr⟩ : ∃ r, r = rpw a c := ⟨_, rfl⟩
                  obtain ⟨y, hy⟩ : ∃ y, y = rY secret seed a c := ⟨_, rfl⟩
                  rw [← hr] at p0 rb
                  rw [← hy] at c1 yb
                  obtain ⟨rb1, rb2⟩ := rb
                  obtain ⟨yb1, yb2⟩ := yb
                  have Hr := Lib.hid hr; have Hy := Lib.hid hy; clear hr hy
                  have hai : (a : Int) < (b : Int) := by omega
                  have ha0 : (0 : Int) ≤ (a : Int) := by omega
                  obtain ⟨m1, m2⟩ := mul_bd rb1 rb2 (show 0 ≤ (a : Int) + 1 by omega) (by omega)
                  obtain ⟨s1, s2⟩ := mod_bd (r * ((a : Int) + 1))
                  obtain ⟨t1, t2⟩ := mod_bd ((1103515245 * x + 12345) % 2147483648)
                  obtain ⟨v1, v2⟩ := mul_bd t1 t2 s1 s2
                  have hgg : w.heap.size ≠ w2.heap.size := by omega
                  go_wp2
                  have hP2 := hP.setI hla (r * ((a : Int) + 1) % 2147483647)
                  have hA2 := hA.kept (grown_set wr w2.heap.size a (.int .i64 (r * ((a : Int) + 1) % 2147483647))) (.inr (by simp [Value.ownBlock]; omega))
                  have hb2 : Below w.heap.size w (wr.setCell ⟨w2.heap.size, a, none⟩ (.int .i64 (r * ((a : Int) + 1) % 2147483647))) := hb.setCell (by show w.heap.size ≤ w2.heap.size; omega) _
                  generalize wr.setCell ⟨w2.heap.size, a, none⟩ (.int .i64 (r * ((a : Int) + 1) % 2147483647)) = w4 at *
                  obtain ⟨d0, d1, g0, g1⟩ := hA2.cellP hla
                  rw [if_neg (by omega), ← Hy.out] at d1
                  obtain ⟨p1, q1⟩ := hP2.cellI hla
                  rw [if_pos rfl] at p1
                  clear d0 g0 c0 c1 f0 f1 p0 q0
                  have w1 : IntKind.i64.wrap ((1103515245 * x + 12345) % 2147483648 % 2147483647 * (r * ((a : Int) + 1) % 2147483647)) = (1103515245 * x + 12345) % 2147483648 % 2147483647 * (r * ((a : Int) + 1) % 2147483647) := IntWalk.i64_in _ (by omega)
                  have w5 : IntKind.i64.wrap (y + (1103515245 * x + 12345) % 2147483648 % 2147483647 * (r * ((a : Int) + 1) % 2147483647)) = y + (1103515245 * x + 12345) % 2147483648 % 2147483647 * (r * ((a : Int) + 1) % 2147483647) := IntWalk.i64_in _ (by omega)
                  have w6 : (y + (1103515245 * x + 12345) % 2147483648 % 2147483647 * (r * ((a : Int) + 1) % 2147483647)).tmod 2147483647 = (y + (1103515245 * x + 12345) % 2147483648 % 2147483647 * (r * ((a : Int) + 1) % 2147483647)) % 2147483647 := Int.tmod_eq_emod_of_nonneg (by omega)
                  have w7 : ((1103515245 * x + 12345) % 2147483648).tmod 2147483647 = (1103515245 * x + 12345) % 2147483648 % 2147483647 := Int.tmod_eq_emod_of_nonneg (by omega)
                  go_still_tail 18, (by kernel_rfl)
                  change wpList _ _ _ _ _ w4.drew
                  go_wp2
                  go_roundg (b - (a + 1))
                  case rel =>
                    refine ⟨a + 1, by omega, rfl, by go_num, ?_, ?_, (hb2.setCell (Nat.le_refl _) _).drew⟩
                    · have h3 := hA2.setY hla ((y + (1103515245 * x + 12345) % 2147483648 % 2147483647 * (r * ((a : Int) + 1) % 2147483647)) % 2147483647)
                      rw [ofF_congr (g := fun i => if i < a + 1 then ((i : Int) + 1, rY secret seed i (c + 1)) else ((i : Int) + 1, rY secret seed i c))] at h3
                      · exact h3
                      · intro j hj
                        by_cases e : j = a
                        · subst e
                          simp only [if_true, Nat.lt_irrefl, if_false, Nat.lt_add_one]
                          rw [rY, rnd, rpw, ← Hx.out, ← Hy.out, ← Hr.out]
                        · simp only [e, if_false]
                          by_cases e2 : j < a
                          · rw [if_pos e2, if_pos (by omega)]
                          · rw [if_neg e2, if_neg (by omega)]
                    · have h3 := hP2.kept (grown_set w4 w.heap.size (a * 2 + 1) (.int .i64 ((y + (1103515245 * x + 12345) % 2147483648 % 2147483647 * (r * ((a : Int) + 1) % 2147483647)) % 2147483647))) (.inr (by simp [Value.ownBlock]; omega))
                      rw [ofF_congr (g := fun i => if i < a + 1 then rpw i (c + 1) else rpw i c)] at h3
                      · exact h3
                      · intro j hj
                        by_cases e : j = a
                        · subst e
                          simp only [if_true, Nat.lt_add_one]
                          rw [rpw, ← Hr.out]
                        · simp only [e, if_false]
                          by_cases e2 : j < a
                          · rw [if_pos e2, if_pos (by omega)]
                          · rw [if_neg e2, if_neg (by omega)]
                  case measure => omega
                · have e : a = b := by omega
                  subst e
                  rw [ofF_congr (g := fun (i : Nat) => ((i : Int) + 1, rY secret seed i (c + 1))) (fun i hi => by rw [if_pos hi])] at hA
                  rw [ofF_congr (g := fun i => rpw i (c + 1)) (fun i hi => by rw [if_pos hi])] at hP
                  go_wp2
                  go_roundg (k - 1 - (c + 1))
                  case rel => exact ⟨c + 1, _, by omega, rfl, by go_num, rfl, by omega, by omega, by rw [rnd, ← Hx.out], hA, hP, hb⟩
                  case measure => omega
            · have e : c = k - 1 := by omega
              have hdt : ¬ (c : Int) + 1 < (k : Int) := by omega
              have He := Lib.hid e; clear e
              go_wp2
              go_ret2
              exact ⟨_, rfl, by rw [rsplitL, ← He.out]; exact hA, hb⟩
end Go.Proofs.Ytfidjhhpcjmioaa
