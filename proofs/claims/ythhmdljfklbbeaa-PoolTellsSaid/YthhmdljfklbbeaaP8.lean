/- Walk over Worst of package pool. Conditions stand in the theorem. -/
import Derived.Test.YthhmdljfklbbeaaP6
import Derived.Lib.MinMax
namespace Go.Proofs.Ythhmdljfklbbeaa
open Go.RowKit
set_option linter.unusedVariables false

/-- the greatest sum of claims -/
def worstF (p : Pl) (n : Nat) : Int := sumN (gr (p.ms * p.co) p.to p.wi.toNat) n
theorem worst_eq {p : Pl} (hp : rightF p = true) (n : Nat) : ((n / p.wi.toNat : Nat) : Int) * min p.to (p.wi * min (p.ms * p.co) p.to) + min p.to (((n % p.wi.toNat : Nat) : Int) * min (p.ms * p.co) p.to) = worstF p n := by
  obtain ⟨_, _, h3, h4, h5, h6⟩ := rightF_iff hp
  have hm : 0 ≤ p.ms * p.co := Int.mul_nonneg (by omega) (by omega)
  unfold worstF
  rw [gr_div h3.1 (by omega), ← min_most h3.1 hm, ← min_most h3.1 hm, show ((p.wi.toNat : Nat) : Int) = p.wi by omega]
def argF (p : Pl) (n : Int) : Bool := rightF p && inB 0 1000 n

theorem mul_bd2 {a b A B : Int} (h1 : 0 ≤ a) (h2 : a ≤ A) (h3 : 0 ≤ b) (h4 : b ≤ B) : 0 ≤ a * b ∧ a * b ≤ A * B :=
  ⟨Int.mul_nonneg h1 h3, Int.mul_le_mul h2 h4 h3 (by omega)⟩

set_option maxRecDepth 100000 in
theorem worst_any (p : Pl) (n : Int) (w : World) (hn : -9223372036854775808 ≤ n ∧ n ≤ 9223372036854775807) :
  Calls Try.prog 10 #[plV p, .int .i64 n] w fun e w' => e = .returned (.tuple #[.int .i64 (if argF p n then worstF p n.toNat else 0), .int .i64 (if argF p n then 0 else 1)]) ∧ Below w.heap.size w w' := by
  have Hright := Lib.hid (fun w => right_any p w)
  have Hin := Lib.hid (fun A n cap l w hl => in_any 0 1000 A n cap l w hl)
  have hbx : Below w.heap.size w (w.alloc (.cells (plC p) 23)) := (Below.refl w.heap.size w).alloc (Nat.le_refl _) _
  have hcx : ∀ w1, Below (w.alloc (.cells (plC p) 23)).heap.size (w.alloc (.cells (plC p) 23)) w1 → (∀ (j : Nat) u, (plC p)[j]? = some u → w1.cell? ⟨w.heap.size, j, none⟩ = some u) ∧ Below w.heap.size w w1 ∧ w.heap.size < w1.heap.size := fun w1 hb => ⟨fun j u hu => (hb.cell (p := ⟨w.heap.size, j, none⟩) (by simp)).trans (new_cell rfl hu), hbx.trans (hb.mono (by simp)), by have := hb.size; simp at this; omega⟩
  have Hcx := Lib.hid hcx
  clear hcx hbx
  cases hr : rightF p
  · have hF : argF p n = false := by simp [argF, hr]
    rw [hF]
    have Hr := Lib.hid hr
    clear hF hr
    obtain ⟨mo, pr, ms, co, wi, to⟩ := p
    simp only [plV, plC] at *
    go_enter Try.func10, Try.ntmps10
    go_wp2_with (go_at_call 18; refine (Hright.out _).mono ?_; rw [Hr.out]; rintro e w1 ⟨rfl, hb1⟩)
    go_ret2
    exact ⟨rfl, (Hcx.out _ hb1).2.1⟩
  cases hi : inB 0 1000 n
  · have hF : argF p n = false := by simp [argF, hi]
    rw [hF]
    have Hr := Lib.hid hr
    have Hi := Lib.hid (show [n].all (inB 0 1000) = false by simp [hi])
    clear hF hr hi
    obtain ⟨mo, pr, ms, co, wi, to⟩ := p
    simp only [plV, plC] at *
    go_enter Try.func10, Try.ntmps10
    go_wp2_with (first
      | (go_at_call 18; refine (Hright.out _).mono ?_; rw [Hr.out]; rintro e w1 ⟨rfl, hb1⟩)
      | (go_at_call 25; refine (Hin.out _ 1 1 [n] _ (Rd.litI (w := w1) 3 [n] _ 1 rfl rfl (by omega))).mono ?_; rw [Hi.out]; rintro e w2 ⟨rfl, hb2⟩))
    go_ret2
    obtain ⟨-, h1, -⟩ := Hcx.out _ hb1
    exact ⟨rfl, (h1.alloc h1.size _).trans (hb2.mono (by have := h1.size; simp; omega))⟩
  have hF : argF p n = true := by simp [argF, hr, hi]
  rw [hF]
  have hnb : 0 ≤ n ∧ n ≤ 1000 := by simpa [inB] using hi
  obtain ⟨n, rfl⟩ := Int.eq_ofNat_of_zero_le hnb.1
  have hwe := worst_eq hr n
  have Hr := Lib.hid hr
  have Hi := Lib.hid (show [(n : Int)].all (inB 0 1000) = true by simp [hi])
  obtain ⟨⟨p11, p12⟩, ⟨p21, p22⟩, ⟨p31, p32⟩, ⟨p41, p42⟩, ⟨p51, p52⟩, ⟨p61, p62⟩⟩ := rightF_iff hr
  clear hF hr hi
  obtain ⟨mo, pr, ms, co, wi, to⟩ := p
  simp only [plV, plC] at *
  obtain ⟨W, rfl⟩ := Int.eq_ofNat_of_zero_le (show 0 ≤ wi by omega)
  simp only [Int.toNat_natCast, if_true] at *
  obtain ⟨m1, m2⟩ := mul_bd2 (a := ms) (b := co) (by omega) p42 (by omega) p52
  obtain ⟨M, hM⟩ : ∃ M, ms * co = M := ⟨_, rfl⟩
  rw [hM] at m1 m2 hwe
  have hMw : IntKind.i64.wrap M = M := IntWalk.i64_in _ (by omega)
  obtain ⟨K, hK⟩ : ∃ K, min M to = K := ⟨_, rfl⟩
  have hKb : 0 ≤ K ∧ K ≤ 1000000000000000 := by omega
  rw [hK] at hwe
  obtain ⟨k1, k2⟩ := hKb
  obtain ⟨x1, x2⟩ := mul_bd2 (a := (W : Int)) (b := K) (by omega) p62 k1 k2
  obtain ⟨X, hX⟩ : ∃ X, (W : Int) * K = X := ⟨_, rfl⟩
  rw [hX] at x1 x2 hwe
  have hXw : IntKind.i64.wrap X = X := IntWalk.i64_in _ (by omega)
  obtain ⟨Z, hZ⟩ : ∃ Z, min to X = Z := ⟨_, rfl⟩
  have hZb : 0 ≤ Z ∧ Z ≤ 1000000000000000 := by omega
  rw [hZ] at hwe
  obtain ⟨z1, z2⟩ := hZb
  have hq : (n : Int) / (W : Int) = ((n / W : Nat) : Int) := by simp
  have hrm : (n : Int) % (W : Int) = ((n % W : Nat) : Int) := by simp
  have hqb : n / W ≤ 1000 := Nat.le_trans (Nat.div_le_self n W) (by omega)
  have hrb : n % W < 1000 := Nat.lt_of_lt_of_le (Nat.mod_lt n (by omega)) (by omega)
  have hWp : (0 : Int) < (W : Int) := by omega
  have ht1 : (n : Int).tdiv (W : Int) = ((n / W : Nat) : Int) := by rw [Int.tdiv_eq_ediv_of_nonneg (by omega)]; exact hq
  have ht2 : (n : Int).tmod (W : Int) = ((n % W : Nat) : Int) := by rw [Int.tmod_eq_emod_of_nonneg (by omega)]; exact hrm
  have hW0 : ((W : Int) == 0) = false := by simp; omega
  have hqi : 0 ≤ ((n / W : Nat) : Int) ∧ ((n / W : Nat) : Int) ≤ 1000 := ⟨Int.natCast_nonneg _, Int.ofNat_le.2 hqb⟩
  have hri : 0 ≤ ((n % W : Nat) : Int) ∧ ((n % W : Nat) : Int) ≤ 1000 := ⟨Int.natCast_nonneg _, Int.ofNat_le.2 (Nat.le_of_lt hrb)⟩
  generalize ((n / W : Nat) : Int) = Q at *
  generalize ((n % W : Nat) : Int) = R at *
  obtain ⟨q1, q2⟩ := hqi
  obtain ⟨r1, r2⟩ := hri
  obtain ⟨a1, a2⟩ := mul_bd2 (a := Q) (b := Z) q1 q2 z1 z2
  obtain ⟨b1, b2⟩ := mul_bd2 (a := R) (b := K) r1 r2 k1 k2
  obtain ⟨QA, hQA⟩ : ∃ x, Q * Z = x := ⟨_, rfl⟩
  obtain ⟨RB, hRB⟩ : ∃ x, R * K = x := ⟨_, rfl⟩
  rw [hQA] at a1 a2 hwe
  rw [hRB] at b1 b2 hwe
  obtain ⟨V, hV⟩ : ∃ x, min to RB = x := ⟨_, rfl⟩
  have hVb : 0 ≤ V ∧ V ≤ 1000000000000000 := by omega
  rw [hV] at hwe
  obtain ⟨v1, v2⟩ := hVb
  have hw3 : IntKind.i64.wrap QA = QA := IntWalk.i64_in _ (by omega)
  have hw4 : IntKind.i64.wrap RB = RB := IntWalk.i64_in _ (by omega)
  have hw5 : IntKind.i64.wrap (QA + V) = QA + V := IntWalk.i64_in _ (by omega)
  have hw6 : IntKind.i64.wrap Q = Q := IntWalk.i64_in _ (by omega)
  have hw7 : IntKind.i64.wrap R = R := IntWalk.i64_in _ (by omega)
  have Hwe := Lib.hid hwe
  clear hwe hqb hrb hnb
  go_enter Try.func10, Try.ntmps10
  go_wp2_with (first
      | (go_at_call 18; refine (Hright.out _).mono ?_; rw [Hr.out]; rintro e w1 ⟨rfl, hb1⟩
         obtain ⟨hc1, hb01, hl1⟩ := Hcx.out _ hb1
         have c2 := hc1 2 _ rfl; have c3 := hc1 3 _ rfl; have c4 := hc1 4 _ rfl; have c5 := hc1 5 _ rfl
         clear hc1 hb1)
      | (go_at_call 25; refine (Hin.out _ 1 1 [(n : Int)] _ (Rd.litI (w := w1) 3 [(n : Int)] _ 1 rfl rfl (by omega))).mono ?_; rw [Hi.out]; rintro e w2 ⟨rfl, hb2⟩
         have hk2 : Below w1.heap.size w1 w2 := ((Below.refl w1.heap.size w1).alloc (Nat.le_refl _) _).trans (hb2.mono (by simp))
         have d2 := (hk2.cell (p := ⟨w.heap.size, 2, none⟩) hl1).trans c2
         have d3 := (hk2.cell (p := ⟨w.heap.size, 3, none⟩) hl1).trans c3
         have d4 := (hk2.cell (p := ⟨w.heap.size, 4, none⟩) hl1).trans c4
         have d5 := (hk2.cell (p := ⟨w.heap.size, 5, none⟩) hl1).trans c5
         have hb02 := hb01.trans (hk2.mono hb01.size)
         clear c2 c3 c4 c5 hb2))
  go_quiet (fail)
  go_wp2
  go_ret2
  exact ⟨by rw [Hwe.out]; rfl, below_drewN hb02 _⟩
end Go.Proofs.Ythhmdljfklbbeaa
