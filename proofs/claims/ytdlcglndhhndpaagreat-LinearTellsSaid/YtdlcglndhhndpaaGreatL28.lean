/- Laws and walks; conditions stand in each theorem. -/
import Derived.Laws.BitsAllLaws
import Derived.Laws.BitsLemmas
import Derived.Deep.RegionHeld3
import Derived.Test.YtdlcglndhhndpaaGreatL14
set_option linter.unusedSimpArgs false
set_option linter.unusedVariables false
set_option maxHeartbeats 2000000
set_option maxRecDepth 100000
namespace Go.Proofs.YtdlcglndhhndpaaGreat
open Go.RowKit
theorem low32 (a : Nat) (h : a < 4294967296) : bits .and .u64 (a : Int) 4294967295 = (a : Int) := by
 have h1 := bits_and_u64_nat a 4294967295 (by omega) (by omega)
 rw [show a &&& 4294967295 = a % 4294967296 from Nat.and_two_pow_sub_one_eq_mod a 32, Nat.mod_eq_of_lt h] at h1
 exact h1
theorem wrap_u64s (a : Int) (h0 : 0 ≤ a) (h : a ≤ 1000000) : IntKind.u64.wrap a = a := by rw [IntKind.wrap_u64]; omega
theorem mul64_one (t : Nat) (ht : t ≤ 1000000) (w : World) : Calls Tryz.prog 133 #[.int .u64 1, .int .u64 t] w fun e w' => e = .returned (.tuple #[.int .u64 0, .int .u64 t]) ∧ w = w' := by
 have k1 : bits .and .u64 1 4294967295 = 1 := low32 1 (by omega)
 have k0 : bits .and .u64 0 4294967295 = 0 := low32 0 (by omega)
 have kt := low32 t (by omega)
 have dt : (t : Int) / 4294967296 = 0 := by omega
 have wt := wrap_u64s t (by omega) (by omega)
 go_enter Tryz.func133, Tryz.ntmps133
 go_wp2
 go_ret2
 exact ⟨rfl, rfl⟩
theorem mul_one (t : Nat) (ht : t ≤ 1000000) (w : World) : Calls Tryz.prog 92 #[.int .u64 1, .int .u64 t] w fun e w' => e = .returned (.tuple #[.int .u64 0, .int .u64 t]) ∧ w = w' := by
 go_enter Tryz.func92, Tryz.ntmps92
 go_wp2_with (go_at_call 133; refine (mul64_one t ht _).mono ?_; rintro e w1 ⟨rfl, rfl⟩)
 go_ret2
 exact ⟨rfl, rfl⟩
def fillW (x z : Rw) (k t : Nat) : List Rw := List.replicate k x ++ List.replicate (t - k) z
theorem fillW_len {x z : Rw} {k t : Nat} (h : k ≤ t) : (fillW x z k t).length = t := by simp [fillW]; omega
theorem fillW_step {x z : Rw} {k t m : Nat} (hk : k ≤ t) (hm : m = Nat.min k (t - k)) : (fillW x z k t).take k ++ ((fillW x z k t).take k).take m ++ (fillW x z k t).drop (k + m) = fillW x z (k + m) t := by
 have h1 : m ≤ k := by rw [hm]; exact Nat.min_le_left _ _
 have h2 : m ≤ t - k := by rw [hm]; exact Nat.min_le_right _ _
 have e1 : (fillW x z k t).take k = List.replicate k x := by
  rw [fillW, List.take_left' (by simp)]
 have e2 : (fillW x z k t).drop (k + m) = List.replicate (t - (k + m)) z := by
  rw [fillW, List.drop_append, List.drop_eq_nil_of_le (by simp), List.nil_append, List.length_replicate, List.drop_replicate]
  congr 1; omega
 rw [e1, e2, List.take_replicate, Nat.min_eq_left h1, List.replicate_append_replicate]
 rfl
theorem fillW_first {x z : Rw} {t : Nat} (ht : 1 ≤ t) : (List.replicate t z).take 0 ++ [x].take 1 ++ (List.replicate t z).drop (0 + 1) = fillW x z 1 t := by
 simp [fillW, List.drop_replicate]
theorem fillW_all {x z : Rw} {t : Nat} : fillW x z t t = List.replicate t x := by simp [fillW]
theorem frac_partsZ : ∃ i z, Tryz.prog.info? 50 = some i ∧ i.zero = some z ∧ z.cells = (Rw.cs Rw.zero).toArray ∧ i.size = 4 ∧ i.bytes = 64 := by
 obtain ⟨i, h1, h2⟩ := Option.map_eq_some_iff.1 frac_made
 simp only [Prod.mk.injEq] at h2
 obtain ⟨h2, h3, h4⟩ := h2
 obtain ⟨z, h5, h6⟩ := Option.map_eq_some_iff.1 h2
 exact ⟨i, z, h1, h5, by rw [h6]; rfl, h3, h4⟩
theorem frepeat_own (x : Rw) (A : Option Addr) (cap t : Nat) (w : World) (hl : Rd 4 (flat Rw.cs) w w.heap.size A 1 cap [x]) (ht1 : 1 ≤ t) (ht : t ≤ 1000000) :
 Calls Tryz.prog 41 #[.slice A 1 cap, .int .i64 t] w fun e w' => ∃ v, e = .returned v ∧ Own 4 Rw.cs w' w.heap.size 50 v (List.replicate t x) ∧ Below w.heap.size w w' := by
 obtain ⟨i0, z0, hi0, hz0, hzz, hz1, hz2⟩ := frac_partsZ
 have wt := wrap_u64s t (by omega) (by omega)
 have wi : IntKind.i64.wrap (t : Int) = (t : Int) := IntWalk.i64_in _ (by omega)
 have d1 : decide ((t : Int) < 0) = false := by simp
 have d2 : decide ((9223372036854775807 : Int) < (t : Int)) = false := by simp; omega
 go_enter Tryz.func41, Tryz.ntmps41
 go_wp2_with (first
  | (go_at_call 92; refine (mul_one t ht _).mono ?_; rintro e w1 ⟨rfl, rfl⟩)
  | (at_make; refine wpList_mk _ rw_sized Rw.zero rfl _ _ 23 rfl w.heap.size 50 i0 z0 Tryz.underlying23 hi0 hz0 hz1 hzz _ _ _ _ t rfl rfl rfl rfl (by rw [hz2]; omega) (by unfold maxLen; omega) (Nat.le_refl _) ?_
     intro w2 ho2 hg2
     have hb2 : Below w.heap.size w w2 := (Below.refl _ _).grown hg2 (Nat.le_refl _) (by intro k hk; cases hk))
  | (refine wpList_cp _ rw_sized rfl _ _ 23 23 rfl Tryz.underlying23 hi0 hz1 ho2 (by simp) _ _ _ 0 1 rfl _ _ _ _ [x] rfl (hl.up (flat_lasts _) hb2) (by simp [Nat.min]; omega) (by omega) (Or.inl (by simp)) ?_
     intro w3 ho3 hg3
     have hb3 : Below w.heap.size w w3 := hb2.grown hg3 hb2.size (by intro k hk; cases hk; exact Nat.le_refl _)
     rw [fillW_first ht1] at ho3))
 clear ho2 hg2 hb2 hg3 hl
 go_loopg [8] (t - 1) (fun gk i wr => ∃ k : Nat, 1 ≤ k ∧ k ≤ t ∧ gk = t - k ∧ i = .int .i64 k ∧ Own 4 Rw.cs wr w.heap.size 50 (.slice (some ⟨w.heap.size, 0, none⟩) t t) (fillW x Rw.zero k t) ∧ Below w.heap.size w wr)
 case atStart => exact ⟨1, Nat.le_refl _, ht1, rfl, rfl, ho3, hb3⟩
 case round =>
  obtain ⟨k, hk1, hk, rfl, rfl, ho, hb⟩ := hrel
  by_cases hlt : k < t
  · have hki : (k : Int) < (t : Int) := by omega
    have hki2 : (k : Int) ≤ (t : Int) := by omega
    have hk0 : (0 : Int) ≤ (k : Int) := by omega
    have hkn : ¬ k = 0 := by omega
    have hkt : ¬ t = k := by omega
    obtain ⟨m, hm⟩ : ∃ m, m = Nat.min k (t - k) := ⟨_, rfl⟩
    have hm1 : m ≤ t - k := by rw [hm]; exact Nat.min_le_right _ _
    have hm2 : 1 ≤ m := by rw [hm]; exact Nat.le_min.2 ⟨hk1, by omega⟩
    have hkw : IntKind.i64.wrap ((k : Int) + (m : Int)) = (k : Int) + (m : Int) := IntWalk.i64_in _ (by omega)
    have hln := fillW_len (x := x) (z := Rw.zero) hk
    obtain ⟨A', c', he, hr⟩ := (Own.drew ho).rd rw_sized (by rw [hln]; omega)
    rw [hln] at he hr
    injection he with e1 e2 e3
    subst e1 e3
    have hrt := hr.take hk
    have Hm := Lib.hid hm; clear hm hr
    go_wp2
    go_region_held3 (fun w' => Below w.heap.size w w')
     (first | exact hb.drew | assumption | go_keep)
     (first
      | (refine step_cp _ rw_sized (by rfl) _ _ 23 23 (by rfl) Tryz.underlying23 hi0 hz1 (Own.drew ho) hln _ _ _ k m (by rfl) _ _ _ _ ((fillW x Rw.zero k t).take k) (by rfl) hrt Hm.out (by omega) (Or.inl (by simp)) ?_
         intro w5 ho5 hg5
         have hb5 : Below w.heap.size w w5 := hb.drew.grown hg5 hb.size (by intro q hq; cases hq; exact Nat.le_refl _)
         rw [fillW_step hk Hm.out] at ho5))
    go_wp2
    go_roundg (t - (k + m))
    case rel => exact ⟨k + m, by omega, by omega, rfl, by go_num, ho5, hb5⟩
    case measure => omega
  · have e : k = t := by omega
    subst e
    rw [fillW_all] at ho
    go_wp2
    go_ret
    exact ⟨_, rfl, ho, hb⟩
theorem rep_ofF (x : Rw) (t : Nat) : List.replicate t x = ofF t fun _ => x := by
 induction t with
 | zero => rfl
 | succ t ih => rw [ofF_succ, ← ih, List.replicate_succ']
theorem frepeat_st (x : Rw) (A : Option Addr) (cap t : Nat) (w0 w : World) (L : List Blk) (D : List Hl) (K : St w0 L D w) (hl : Rd 4 (flat Rw.cs) w w.heap.size A 1 cap [x]) (ht1 : 1 ≤ t) (ht : t ≤ 1000000) :
 Calls Tryz.prog 41 #[.slice A 1 cap, .int .i64 t] w fun e w' => ∃ val X, e = .returned val ∧ OwL 4 Rw.cs 50 val (ofF t fun _ => x) X ∧ St w0 (X ++ L) D w' := by
 refine (frepeat_own x A cap t w hl ht1 ht).mono ?_
 rintro e w' ⟨v, rfl, ho, hb⟩
 rw [rep_ofF] at ho
 have hk : Kept (fun b => (Value.slice none 0 0).ownBlock = some b) w w' := ⟨hb.os, hb.tape, hb.output, hb.size, fun i hi _ => hb.block i hi⟩
 obtain ⟨X', hX, hK'⟩ := OwL.of (X := []) rw_sized OwL.nil K (ho.mono K.1.size) hk (fun g hg => Or.inr (by
  rcases ho.2 with ⟨rfl, -⟩ | ⟨g', cap', cur, rfl, hg', -⟩
  · cases hg
  · have e : some g' = some g := hg
    injection e with e
    rw [← e]; exact hg'))
 exact ⟨_, X', rfl, hX, hK'⟩
end Go.Proofs.YtdlcglndhhndpaaGreat
