/- Walks over math/bits.Mul of one, and slices.Repeat of one number. Conditions stand in each theorem. -/
import Derived.Test.YtmcamadcoglodaaIa
import Derived.Test.YtmcamadcoglodaaCopy
import Derived.Laws.BitsAllLaws
import Derived.Laws.BitsLemmas
import Derived.Deep.RegionHeld3
namespace Go.Proofs.Ytmcamadcoglodaa
open Go.RowKit
set_option linter.unusedVariables false

theorem low32 (a : Nat) (h : a < 4294967296) : bits .and .u64 (a : Int) 4294967295 = (a : Int) := by
  have h1 := bits_and_u64_nat a 4294967295 (by omega) (by omega)
  rw [show a &&& 4294967295 = a % 4294967296 from Nat.and_two_pow_sub_one_eq_mod a 32, Nat.mod_eq_of_lt h] at h1
  exact h1
theorem wrap_u64s (a : Int) (h0 : 0 ≤ a) (h : a ≤ 1000000) : IntKind.u64.wrap a = a := by rw [IntKind.wrap_u64]; omega

theorem mul64_one (t : Nat) (ht : t ≤ 1000000) (w : World) : Calls Try.prog 47 #[.int .u64 1, .int .u64 t] w fun e w' => e = .returned (.tuple #[.int .u64 0, .int .u64 t]) ∧ w = w' := by
  have k1 : bits .and .u64 1 4294967295 = 1 := low32 1 (by omega)
  have k0 : bits .and .u64 0 4294967295 = 0 := low32 0 (by omega)
  have kt := low32 t (by omega)
  have dt : (t : Int) / 4294967296 = 0 := by omega
  have wt := wrap_u64s t (by omega) (by omega)
  go_enter Try.func47, Try.ntmps47
  go_wp2
  go_ret2
  exact ⟨rfl, rfl⟩
theorem mul_one (t : Nat) (ht : t ≤ 1000000) (w : World) : Calls Try.prog 45 #[.int .u64 1, .int .u64 t] w fun e w' => e = .returned (.tuple #[.int .u64 0, .int .u64 t]) ∧ w = w' := by
  go_enter Try.func45, Try.ntmps45
  go_wp2_with (go_at_call 47; refine (mul64_one t ht _).mono ?_; rintro e w1 ⟨rfl, rfl⟩)
  go_ret2
  exact ⟨rfl, rfl⟩


/-- k times x, then z, t altogether -/
def fillL (x z : Int) (k t : Nat) : List (Int) := List.replicate k x ++ List.replicate (t - k) z
theorem fillL_len {x z : Int} {k t : Nat} (h : k ≤ t) : (fillL x z k t).length = t := by simp [fillL]; omega
theorem fillL_step {x z : Int} {k t m : Nat} (hk : k ≤ t) (hm : m = Nat.min k (t - k)) : (fillL x z k t).take k ++ ((fillL x z k t).take k).take m ++ (fillL x z k t).drop (k + m) = fillL x z (k + m) t := by
  have h1 : m ≤ k := by rw [hm]; exact Nat.min_le_left _ _
  have h2 : m ≤ t - k := by rw [hm]; exact Nat.min_le_right _ _
  have e1 : (fillL x z k t).take k = List.replicate k x := by
    rw [fillL, List.take_left' (by simp)]
  have e2 : (fillL x z k t).drop (k + m) = List.replicate (t - (k + m)) z := by
    rw [fillL, List.drop_append, List.drop_eq_nil_of_le (by simp), List.nil_append, List.length_replicate, List.drop_replicate]
    congr 1; omega
  rw [e1, e2, List.take_replicate, Nat.min_eq_left h1, List.replicate_append_replicate]
  rfl
theorem fillL_first {x z : Int} {t : Nat} (ht : 1 ≤ t) : (List.replicate t z).take 0 ++ [x].take 1 ++ (List.replicate t z).drop (0 + 1) = fillL x z 1 t := by
  simp [fillL, List.drop_replicate]
theorem fillL_all {x z : Int} {t : Nat} : fillL x z t t = List.replicate t x := by simp [fillL]

theorem repeat_any (x : Int) (A : Option Addr) (cap t : Nat) (w : World) (hl : RdI w w.heap.size A 1 cap [x]) (ht1 : 1 ≤ t) (ht : t ≤ 1000000) :
  Calls Try.prog 40 #[.slice A 1 cap, .int .i64 t] w fun e w' => e = .returned (.slice (some ⟨w.heap.size, 0, none⟩) t t) ∧ Own 1 iEnc w' w.heap.size 3 (.slice (some ⟨w.heap.size, 0, none⟩) t t) (List.replicate t x) ∧ Below w.heap.size w w' := by
  obtain ⟨i0, hi0, hz0, hz1, hz2⟩ := info_parts int_info
  have wt := wrap_u64s t (by omega) (by omega)
  have wi : IntKind.i64.wrap (t : Int) = (t : Int) := IntWalk.i64_in _ (by omega)
  have d1 : decide ((t : Int) < 0) = false := by simp
  have d2 : decide ((9223372036854775807 : Int) < (t : Int)) = false := by simp; omega
  go_enter Try.func40, Try.ntmps40
  go_wp2_with (first
    | (go_at_call 45; refine (mul_one t ht _).mono ?_; rintro e w1 ⟨rfl, rfl⟩)
    | (at_make; refine wpList_mk _ iSized 0 rfl _ _ 23 rfl w.heap.size 3 i0 (.int .i64 0) Try.underlying23 hi0 hz0 hz1 rfl _ _ _ _ t rfl rfl rfl rfl (by rw [hz2]; omega) (by unfold maxLen; omega) (Nat.le_refl _) ?_
       intro w2 ho2 hg2
       have hb2 : Below w.heap.size w w2 := (Below.refl _ _).grown hg2 (Nat.le_refl _) (by intro k hk; cases hk))
    | (refine wpList_cp _ iSized rfl _ _ 23 23 rfl Try.underlying23 hi0 hz1 ho2 (by simp) _ _ _ 0 1 rfl _ _ _ _ [x] rfl (hl.up (flat_lasts _) hb2) (by simp [Nat.min]; omega) (by omega) (Or.inl (by simp)) ?_
       intro w3 ho3 hg3
       have hb3 : Below w.heap.size w w3 := hb2.grown hg3 hb2.size (by intro k hk; cases hk; exact Nat.le_refl _)
       rw [fillL_first ht1] at ho3))
  clear ho2 hg2 hb2 hg3 hl
  go_loopg [8] (t - 1) (fun gk i wr => ∃ k : Nat, 1 ≤ k ∧ k ≤ t ∧ gk = t - k ∧ i = .int .i64 k ∧ Own 1 iEnc wr w.heap.size 3 (.slice (some ⟨w.heap.size, 0, none⟩) t t) (fillL x 0 k t) ∧ Below w.heap.size w wr)
  case atStart => exact ⟨1, Nat.le_refl _, ht1, rfl, rfl, ho3, hb3⟩
  case round =>
    obtain ⟨k, hk1, hk, rfl, rfl, ho, hb⟩ := hrel
    by_cases hlt : k < t
    · have hki : (k : Int) < (t : Int) := by omega
      have hki2 : (k : Int) ≤ (t : Int) := by omega
      have hk0 : (0 : Int) ≤ (k : Int) := by omega
      have hkn : ¬ k = 0 := by omega
      have hkt : ¬ t = k := by omega
      obtain ⟨m, hm⟩ : ∃ m, m = Nat.min k (t - k) := ⟨_, rfl⟩
      have hm1 : m ≤ t - k := by rw [hm]; exact Nat.min_le_right _ _
      have hm2 : 1 ≤ m := by rw [hm]; exact Nat.le_min.2 ⟨hk1, by omega⟩
      have hkw : IntKind.i64.wrap ((k : Int) + (m : Int)) = (k : Int) + (m : Int) := IntWalk.i64_in _ (by omega)
      have hln := fillL_len (x := x) (z := 0) hk
      obtain ⟨A', c', he, hr⟩ := (Own.drew ho).rd iSized (by rw [hln]; omega)
      rw [hln] at he hr
      injection he with e1 e2 e3
      subst e1 e3
      have hrt := hr.take hk
      have Hm := Lib.hid hm; clear hm hr
      go_wp2
      go_region_held3 (fun w' => Below w.heap.size w w')
        (first | exact hb.drew | assumption | go_keep)
        (first
          | (refine step_cp _ iSized (by rfl) _ _ 23 23 (by rfl) Try.underlying23 hi0 hz1 (Own.drew ho) hln _ _ _ k m (by rfl) _ _ _ _ ((fillL x 0 k t).take k) (by rfl) hrt Hm.out (by omega) (Or.inl (by simp)) ?_
             intro w5 ho5 hg5
             have hb5 : Below w.heap.size w w5 := hb.drew.grown hg5 hb.size (by intro q hq; cases hq; exact Nat.le_refl _)
             rw [fillL_step hk Hm.out] at ho5))
      go_wp2
      go_roundg (t - (k + m))
      case rel => exact ⟨k + m, by omega, by omega, rfl, by go_num, ho5, hb5⟩
      case measure => omega
    · have e : k = t := by omega
      subst e
      rw [fillL_all] at ho
      go_wp2
      go_ret
      exact ⟨rfl, ho, hb⟩

theorem repeat_zero (x : Int) (A : Option Addr) (cap : Nat) (w : World) (hl : RdI w w.heap.size A 1 cap [x]) :
  Calls Try.prog 40 #[.slice A 1 cap, .int .i64 0] w fun e w' => ∃ v, e = .returned v ∧ Own 1 iEnc w' w.heap.size 3 v ([] : List Int) ∧ Below w.heap.size w w' := by
  obtain ⟨i0, hi0, hz0, hz1, hz2⟩ := info_parts int_info
  have wt := wrap_u64s 0 (by omega) (by omega)
  have hcaps := hl.caps
  go_enter Try.func40, Try.ntmps40
  go_wp2_with (first
    | (go_at_call 45; refine (mul_one 0 (by omega) _).mono ?_; rintro e w1 ⟨rfl, rfl⟩)
    | (at_make; refine wpList_mk _ iSized 0 rfl _ _ 23 rfl w.heap.size 3 i0 (.int .i64 0) Try.underlying23 hi0 hz0 hz1 rfl _ _ _ _ 0 rfl rfl rfl rfl (by rw [hz2]; omega) (by unfold maxLen; omega) (Nat.le_refl _) ?_
       intro w2 ho2 hg2
       have hb2 : Below w.heap.size w w2 := (Below.refl _ _).grown hg2 (Nat.le_refl _) (by intro k hk; cases hk))
    | (refine wpList_cp _ iSized rfl _ _ 23 23 rfl Try.underlying23 hi0 hz1 ho2 (by simp) _ _ _ 0 0 rfl _ _ _ _ [x] rfl (hl.up (flat_lasts _) hb2) (by simp [Nat.min]) (by omega) (Or.inl (by simp)) ?_
       intro w3 ho3 hg3
       have hb3 : Below w.heap.size w w3 := hb2.grown hg3 hb2.size (by intro k hk; cases hk; exact Nat.le_refl _)
       simp only [List.replicate_zero, List.take_nil, List.take_zero, List.drop_nil, List.append_nil] at ho3))
  refine wp_loop_rounds 1 ?_; rw [rounds_succ]
  go_wp2
  all_goals
    go_ret
    exact ⟨_, rfl, ho3, hb3⟩
end Go.Proofs.Ytmcamadcoglodaa
