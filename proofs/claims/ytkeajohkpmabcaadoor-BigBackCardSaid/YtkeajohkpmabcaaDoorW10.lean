/- Walk over Compare of package big. Conditions stand in the theorem. -/
import Derived.Test.YtkeajohkpmabcaaDoorW3
namespace Go.Proofs.YtkeajohkpmabcaaDoor
open Go.RowKit
set_option linter.unusedVariables false

/-- what Compare says of two big integers -/
def cmpB (s : Int) (a : List Int) (t : Int) (b : List Int) : Int := if rightB s a = true ∧ rightB t b = true then cmpI (bval s a) (bval t b) else 0
/-- the order of two right ones by their signs, or by their digits -/
theorem cmpB_signs {s t : Int} {a b : List Int} (ha : rightB s a = true) (hb : rightB t b = true) (h : s ≠ t) : cmpI (bval s a) (bval t b) = cmpI s t := by
  obtain ⟨a1, a2, a3⟩ := rightB_cn ha
  obtain ⟨b1, b2, b3⟩ := rightB_cn hb
  unfold bval
  have pa : a ≠ [] → 0 < val a := fun h => a1.pos h
  have pb : b ≠ [] → 0 < val b := fun h => b1.pos h
  rcases a3 with ⟨rfl, rfl⟩ | ⟨h1, rfl | rfl⟩ <;> rcases b3 with ⟨rfl, rfl⟩ | ⟨h2, rfl | rfl⟩
  · exact absurd rfl h
  · have := pb h2; rw [cmpI_lt (by simp; omega), cmpI_lt (by omega)]
  · have := pb h2; rw [cmpI_gt (by simp; omega), cmpI_gt (by omega)]
  · have := pa h1; rw [cmpI_gt (by simp; omega), cmpI_gt (by omega)]
  · exact absurd rfl h
  · have := pa h1; have := pb h2; rw [cmpI_gt (by omega), cmpI_gt (by omega)]
  · have := pa h1; rw [cmpI_lt (by simp; omega), cmpI_lt (by omega)]
  · have := pa h1; have := pb h2; rw [cmpI_lt (by omega), cmpI_lt (by omega)]
  · exact absurd rfl h
theorem cmpB_digits {s : Int} {a b : List Int} (ha : rightB s a = true) (hb : rightB s b = true) : cmpI (bval s a) (bval s b) = s * cmpI (val a) (val b) := by
  obtain ⟨a1, a2, a3⟩ := rightB_cn ha
  unfold bval cmpI
  rcases a3 with ⟨rfl, rfl⟩ | ⟨h1, rfl | rfl⟩
  · simp
  · simp
  · by_cases h1 : val a < val b
    · rw [if_neg (by omega), if_pos (by omega), if_pos h1]; rfl
    · by_cases h2 : val b < val a
      · rw [if_pos (by omega), if_neg h1, if_pos h2]; rfl
      · rw [if_neg (by omega), if_neg (by omega), if_neg h1, if_neg h2]; rfl
set_option maxRecDepth 100000 in
set_option maxHeartbeats 2000000 in
theorem bcompare_any (s t : Int) (A A2 : Option Addr) (n cap n2 cap2 : Nat) (a b : List Int) (w : World) (ha : RdI w w.heap.size A n cap a) (hb : RdI w w.heap.size A2 n2 cap2 b) :
    Calls Tryd.prog 23 #[.agg #[.int .i64 s, .slice A n cap], .agg #[.int .i64 t, .slice A2 n2 cap2]] w fun e w' => e = .returned (.int .i64 (cmpB s a t b)) ∧ Below w.heap.size w w' := by
  have hb1 := (Below.refl w.heap.size w).alloc (Nat.le_refl _) (.cells #[.int .i64 s, .slice A n cap] 24)
  have hb2 := hb1.alloc hb1.size (.cells #[.int .i64 t, .slice A2 n2 cap2] 24)
  have HR1 := Lib.hid (fun w' h => bright_any s A n cap a w' h)
  have HR2 := Lib.hid (fun w' h => bright_any t A2 n2 cap2 b w' h)
  have c0 : ((w.alloc (.cells #[.int .i64 s, .slice A n cap] 24)).alloc (.cells #[.int .i64 t, .slice A2 n2 cap2] 24)).cell? ⟨w.heap.size, 0, none⟩ = some (.int .i64 s) := by simp
  have c1 : ((w.alloc (.cells #[.int .i64 s, .slice A n cap] 24)).alloc (.cells #[.int .i64 t, .slice A2 n2 cap2] 24)).cell? ⟨w.heap.size, 1, none⟩ = some (.slice A n cap) := by simp
  have c2 : ((w.alloc (.cells #[.int .i64 s, .slice A n cap] 24)).alloc (.cells #[.int .i64 t, .slice A2 n2 cap2] 24)).cell? ⟨w.heap.size + 1, 0, none⟩ = some (.int .i64 t) := by simp
  have c3 : ((w.alloc (.cells #[.int .i64 s, .slice A n cap] 24)).alloc (.cells #[.int .i64 t, .slice A2 n2 cap2] 24)).cell? ⟨w.heap.size + 1, 1, none⟩ = some (.slice A2 n2 cap2) := by simp
  have hz : w.heap.size + 1 < ((w.alloc (.cells #[.int .i64 s, .slice A n cap] 24)).alloc (.cells #[.int .i64 t, .slice A2 n2 cap2] 24)).heap.size := by simp
  obtain ⟨w0, hw0⟩ : ∃ w0, w0 = (w.alloc (.cells #[.int .i64 s, .slice A n cap] 24)).alloc (.cells #[.int .i64 t, .slice A2 n2 cap2] 24) := ⟨_, rfl⟩
  rw [← hw0] at hb2 c0 c1 c2 c3 hz
  obtain ⟨g, hg⟩ : ∃ g, g = w.heap.size := ⟨_, rfl⟩
  rw [← hg] at c0 c1 c2 c3 hz
  have HW := Lib.hid hw0; have HG := Lib.hid hg
  have hg0 : g < w0.heap.size := by omega
  have hno : rightB s a = false ∨ (rightB s a = true ∧ rightB t b = false) → cmpB s a t b = 0 := fun h => by
    unfold cmpB
    rcases h with h | ⟨h1, h2⟩
    · rw [h, if_neg (by simp)]
    · rw [h1, h2, if_neg (by simp)]
  clear hw0 hg hb1
  cases h1 : rightB s a
  · rw [hno (Or.inl h1)]
    rw [h1] at HR1
    clear hno h1
    go_enter Tryd.func23, Tryd.ntmps23
    go_wp2_with fail
    rw [← HW.out, ← HG.out]
    refine (HR1.out _ (ha.up (flat_lasts _) hb2)).mono ?_
    rintro e w1 ⟨rfl, hb3⟩
    go_wp2
    go_ret
    exact ⟨rfl, hb2.trans (hb3.mono hb2.size)⟩
  cases h2 : rightB t b
  · rw [hno (Or.inr ⟨h1, h2⟩)]
    rw [h1] at HR1
    rw [h2] at HR2
    clear hno h1 h2
    go_enter Tryd.func23, Tryd.ntmps23
    go_wp2_with fail
    rw [← HW.out, ← HG.out]
    refine (HR1.out _ (ha.up (flat_lasts _) hb2)).mono ?_
    rintro e w1 ⟨rfl, hb3⟩
    have hb03 := hb2.trans (hb3.mono hb2.size)
    have d2 := (hb3.cell (p := ⟨g + 1, 0, none⟩) hz).trans c2
    have d3 := (hb3.cell (p := ⟨g + 1, 1, none⟩) hz).trans c3
    go_wp2_with fail
    refine (HR2.out _ (hb.up (flat_lasts _) hb03)).mono ?_
    rintro e w2 ⟨rfl, hb4⟩
    go_wp2
    go_ret
    exact ⟨rfl, hb03.trans (hb4.mono hb03.size)⟩
  obtain ⟨a1, a2, -⟩ := rightB_cn h1
  obtain ⟨b1, b2, -⟩ := rightB_cn h2
  have hC : cmpB s a t b = cmpI (bval s a) (bval t b) := if_pos ⟨h1, h2⟩
  have hst : (s ≠ t ∧ (s != t) = true ∧ cmpB s a t b = cmpI s t) ∨ (s = t ∧ cmpB s a t b = s * cmpI (val a) (val b)) := by
    by_cases e : s = t
    · subst e; exact Or.inr ⟨rfl, by rw [hC, cmpB_digits h1 h2]⟩
    · exact Or.inl ⟨e, by simp [e], by rw [hC, cmpB_signs h1 h2 e]⟩
  have hsb : -1 ≤ s ∧ s ≤ 1 := by
    rcases (rightB_cn h1).2.2 with ⟨-, h⟩ | ⟨-, h | h⟩ <;> omega
  rw [h1] at HR1
  rw [h2] at HR2
  clear hno h1 h2 hC
  rcases hst with ⟨-, hd, he⟩ | ⟨rfl, he⟩
  · rw [he]
    clear he
    go_enter Tryd.func23, Tryd.ntmps23
    go_wp2_with fail
    rw [← HW.out, ← HG.out]
    refine (HR1.out _ (ha.up (flat_lasts _) hb2)).mono ?_
    rintro e w1 ⟨rfl, hb3⟩
    have hb03 := hb2.trans (hb3.mono hb2.size)
    have d2 := (hb3.cell (p := ⟨g + 1, 0, none⟩) hz).trans c2
    have d3 := (hb3.cell (p := ⟨g + 1, 1, none⟩) hz).trans c3
    go_wp2_with fail
    refine (HR2.out _ (hb.up (flat_lasts _) hb03)).mono ?_
    rintro e w2 ⟨rfl, hb4⟩
    have hb04 := hb03.trans (hb4.mono hb03.size)
    have hb34 := hb3.trans (hb4.mono hb3.size)
    have f0 := (hb34.cell (p := ⟨g, 0, none⟩) hg0).trans c0
    have f2 := (hb34.cell (p := ⟨g + 1, 0, none⟩) hz).trans c2
    go_wp2_with fail
    refine (ncmp_any s t _).mono ?_
    rintro e _ ⟨rfl, rfl⟩
    go_wp2
    go_ret
    exact ⟨rfl, hb04⟩
  · rw [he]
    have hd : (s != s) = false := by simp
    have HC := Lib.hid (fun w' h1 h2 => bcmpq_any A A2 n cap n2 cap2 a b w' h1 h2 a1 b1)
    have hcb : -1 ≤ cmpI (val a) (val b) ∧ cmpI (val a) (val b) ≤ 1 := by
      unfold cmpI
      split
      · omega
      · split <;> omega
    obtain ⟨C, hCC⟩ : ∃ C, C = cmpI (val a) (val b) := ⟨_, rfl⟩
    rw [← hCC] at HC hcb ⊢
    have hwm : IntKind.i64.wrap (s * C) = s * C := by
      have h1 : s = -1 ∨ s = 0 ∨ s = 1 := by omega
      rcases h1 with rfl | rfl | rfl <;> exact IntWalk.i64_in _ (by omega)
    clear he hCC
    go_enter Tryd.func23, Tryd.ntmps23
    go_wp2_with fail
    rw [← HW.out, ← HG.out]
    refine (HR1.out _ (ha.up (flat_lasts _) hb2)).mono ?_
    rintro e w1 ⟨rfl, hb3⟩
    have hb03 := hb2.trans (hb3.mono hb2.size)
    have d2 := (hb3.cell (p := ⟨g + 1, 0, none⟩) hz).trans c2
    have d3 := (hb3.cell (p := ⟨g + 1, 1, none⟩) hz).trans c3
    go_wp2_with fail
    refine (HR2.out _ (hb.up (flat_lasts _) hb03)).mono ?_
    rintro e w2 ⟨rfl, hb4⟩
    have hb04 := hb03.trans (hb4.mono hb03.size)
    have hb34 := hb3.trans (hb4.mono hb3.size)
    have f0 := (hb34.cell (p := ⟨g, 0, none⟩) hg0).trans c0
    have f1 := (hb34.cell (p := ⟨g, 1, none⟩) hg0).trans c1
    have f2 := (hb34.cell (p := ⟨g + 1, 0, none⟩) hz).trans c2
    have f3 := (hb34.cell (p := ⟨g + 1, 1, none⟩) hz).trans c3
    have HCq := Lib.hid (fun q => (HC.out (w2.drewN q) ((ha.up (flat_lasts _) hb04).drewN (flat_lasts _) q) ((hb.up (flat_lasts _) hb04).drewN (flat_lasts _) q)).mono fun e w'' ⟨h1, r, h2⟩ => (⟨h1, q + r, by rw [h2, World.drewN_drewN]⟩ : e = Ending.returned (.int .i64 C) ∧ ∃ m, w'' = w2.drewN m))
    clear hb3 hb4 hb03 hb34 c0 c1 c2 c3 d2 d3
    go_wp2_with fail
    go_quiet ((go_at_call 43; exact HCq.out _))
    go_wp2
    go_ret
    exact ⟨rfl, below_drewN hb04 _⟩
end Go.Proofs.YtkeajohkpmabcaaDoor
