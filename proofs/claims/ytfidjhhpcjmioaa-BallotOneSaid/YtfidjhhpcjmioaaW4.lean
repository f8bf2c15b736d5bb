/- Walks: Fits and Split of package share. Conditions stand in each theorem. -/
import Derived.Test.YtfidjhhpcjmioaaW3
import Derived.Test.YtfidjhhpcjmioaaApp
namespace Go.Proofs.Ytfidjhhpcjmioaa
open Go.RowKit
set_option linter.unusedVariables false

theorem share_info : (Try.prog.info? 39).map (fun i => (i.zero, i.size, i.bytes)) = some (some (.agg #[.int .i64 0, .int .i64 0]), 2, 16) := by kernel_rfl
theorem int_info : (Try.prog.info? 3).map (fun i => (i.zero, i.size, i.bytes)) = some (some (.int .i64 0), 1, 8) := by kernel_rfl

/-- what Fits returns -/
def fitsF (l : List (Int × Int)) (k secret : Int) : Bool := if validF l k = 0 then inF secret && agreeF ((0, secret) :: l) k.toNat else false

theorem fits_any (A : Option Addr) (n cap : Nat) (l : List (Int × Int)) (k secret : Int) (w : World) (hl : RdP w w.heap.size A n cap l) (hn : n ≤ 1000000) :
  Calls Try.prog 18 #[.slice A n cap, .int .i64 k, .int .i64 secret] w fun e w' => e = .returned (.bool (fitsF l k secret)) ∧ Below w.heap.size w w' := by
  obtain ⟨hn1, hn2, hn3⟩ := hl.caps
  have hlen := hl.len
  by_cases hv : validF l k = 0
  · obtain ⟨k1, k2, hok, _⟩ := valid_zero hv
    have hpt : ∀ s ∈ l, ptOk s := fun s hs => shOk_pt (hok s hs)
    obtain ⟨k, rfl⟩ := Int.eq_ofNat_of_zero_le (show 0 ≤ k by omega)
    have hcv := fun w h => valid_any A n cap l k w h
    rw [hv] at hcv
    have Hv := Lib.hid hv; clear hv
    have Hcv := Lib.hid hcv; clear hcv
    have Hlen := Lib.hid hlen; clear hlen
    cases hF : inF secret
    · have HJ := Lib.hid (show fitsF l k secret = false by unfold fitsF; rw [if_pos Hv.out, hF]; rfl)
      have HF := Lib.hid hF; clear hF
      go_enter Try.func18, Try.ntmps18
      go_wp2_with (first
        | (go_at_call 39; refine (Hcv.out _ hl).mono ?_; rintro e w' ⟨rfl, hb1⟩)
        | (go_at_call 38; refine (right_no _ _ HF.out).mono ?_; rintro e w2 ⟨rfl, rfl⟩))
      go_ret
      exact ⟨congrArg (fun z => Ending.returned (Value.bool z)) HJ.out.symm, hb1⟩
    · have hpt2 : ∀ s ∈ [(0, secret)] ++ l, ptOk s := by
        intro s hs
        rcases List.mem_cons.1 hs with rfl | hs
        · simp [inF] at hF; simp only [ptOk]; omega
        · exact hpt s hs
      have HJ := Lib.hid (show fitsF l k secret = agreeF ([(0, secret)] ++ l) k by unfold fitsF; rw [if_pos Hv.out, hF]; rfl)
      have HF := Lib.hid hF; clear hF
      obtain ⟨i0, hi0, hz0, hz1, hz2⟩ := info_parts share_info
      have hag : ∀ (A1 : Option Addr) (cap1 : Nat) (W : World), RdP W W.heap.size A1 (1 + n) cap1 ([(0, secret)] ++ l) → Calls Try.prog 40 #[.slice A1 (1 + n) cap1, .int .i64 k] W fun e w' => e = .returned (.bool (agreeF ([(0, secret)] ++ l) k)) ∧ Below W.heap.size W w' := by
        intro A1 cap1 W hrd
        by_cases hkn : k ≤ 1 + n
        · exact agree_any A1 (1 + n) cap1 _ k W hrd (by omega) hkn hpt2
        · exact agree_few A1 (1 + n) cap1 _ k W hrd (by omega) (by omega)
      have Hag := Lib.hid hag; clear hag
      go_enter Try.func18, Try.ntmps18
      go_wp2_with (first
        | (go_at_call 39; refine (Hcv.out _ hl).mono ?_; rintro e w1 ⟨rfl, hb1⟩)
        | (go_at_call 38; refine (right_yes _ _ HF.out).mono ?_; rintro e w2 ⟨rfl, rfl⟩)
        | (at_builtin; have hl3 := Own.lit (w := w1) (n := 1) (e := 39) pSized hb1.size [(0, secret)] #[.int .i64 0, .int .i64 secret] rfl rfl (by omega); refine wpList_app _ pSized rfl _ _ 22 rfl w.heap.size 39 i0 _ 16 Try.underlying22 hi0 hz0 hz1 hz2 rfl _ [(0, secret)] rfl hl3 w.heap.size A n cap l rfl (hl.below (flat_lasts _) (hb1.alloc hb1.size _) (Nat.le_refl _) (Nat.le_refl _)) (by simp only [List.length_singleton, maxLen]; omega) (by simp only [List.length_singleton]; omega) (by have := hb1.size; simp; omega) ?_
           intro v3 w3 hown3 hg3 _
           have hb3 : Below w.heap.size w w3 := hl3.grow (Nat.le_refl _) (hb1.alloc hb1.size _) (by have := hb1.size; simp; omega) hg3
           obtain ⟨A3, cap3, hv3, hrd3⟩ := hown3.rd pSized (by simp [Hlen.out]; omega)
           have e3 : ([(0, secret)] ++ l).length = 1 + n := by simp [Hlen.out]; omega
           rw [e3] at hv3 hrd3
           clear e3
           subst hv3)
        | (go_at_call 40; refine (Hag.out A3 cap3 _ hrd3).mono ?_; rintro e w4 ⟨rfl, hb4⟩))
      go_ret
      exact ⟨congrArg (fun z => Ending.returned (Value.bool z)) HJ.out.symm, hb3.trans (hb4.mono hb3.size)⟩
  · have HJ := Lib.hid (show fitsF l k secret = false by unfold fitsF; rw [if_neg hv])
    have hne : (validF l k != 0) = true := by simpa [bne] using hv
    clear hv
    go_enter Try.func18, Try.ntmps18
    go_wp2_with (go_at_call 39; refine (valid_any A n cap l k _ hl).mono ?_; rintro e w' ⟨rfl, hb1⟩)
    go_ret
    exact ⟨congrArg (fun z => Ending.returned (Value.bool z)) HJ.out.symm, hb1⟩
end Go.Proofs.Ytfidjhhpcjmioaa
