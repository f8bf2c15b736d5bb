/- Walk over the statement LagsBetween. Conditions stand in the theorem. -/
import Derived.Test.YthmnkmomgaamlaaL2
import Derived.Deep.RegionHeld3
namespace Go.Proofs.Ythmnkmomgaamlaa
open Go.RowKit
set_option linter.unusedVariables false

theorem feas_min {all : List St} {F G : Nat → Int} (hF : Feas all F) (hG : Feas all G) : Feas all (fun v => min (F v) (G v)) := fun e he => by
  have h1 := hF e he
  have h2 := hG e he
  show min _ _ + _ ≤ min _ _
  omega
theorem feas_max {all : List St} {F G : Nat → Int} (hF : Feas all F) (hG : Feas all G) : Feas all (fun v => max (F v) (G v)) := fun e he => by
  have h1 := hF e he
  have h2 := hG e he
  show max _ _ + _ ≤ max _ _
  omega
theorem feas_congr {n : Nat} {all : List St} {F G : Nat → Int} (hok : ∀ e, e < all.length → okS n (aAt all e)) (hF : Feas all F) (h : ∀ v, v < n → F v = G v) : Feas all G := fun e he => by
  obtain ⟨o1, o2, _⟩ := okS_nat (hok e he)
  have h1 := hF e he
  rw [h _ o1, h _ o2] at h1
  exact h1
theorem check_of {m : Nat} {l : List Lg} {F : Nat → Int} (hr : rightL m l = true) (hF : Feas (stepsF m l) F) (h0 : F 0 = 0) : checkF m l (ofF m F) = true := by
  obtain ⟨hm, _⟩ := rightL_iff hr
  refine (check_iff hr).2 ⟨ofF_len, by rw [ti_ofF (by omega)]; exact h0, feas_congr (steps_okA hr) hF (fun v hv => (ti_ofF hv).symm)⟩
theorem ti_bd {ts : List Int} (h : ∀ t ∈ ts, -9223372036854775808 ≤ t ∧ t ≤ 9223372036854775807) (k : Nat) : -9223372036854775808 ≤ ti ts k ∧ ti ts k ≤ 9223372036854775807 := by
  unfold ti
  rw [List.getD]
  cases e : ts[k]? with
  | none => simp
  | some x => exact h x (List.mem_of_getElem? e)
set_option maxRecDepth 100000 in
set_option maxHeartbeats 4000000 in
theorem lagsBetween_walk (m : Int) (A : Option Addr) (n cap : Nat) (l : List Lg) (A1 : Option Addr) (n1 cap1 : Nat) (a : List Int) (A2 : Option Addr) (n2 cap2 : Nat) (b : List Int) (w : World) (h1 : -9223372036854775808 ≤ m ∧ m ≤ 9223372036854775807) (rl : RdL w w.heap.size A n cap l)
    (ra : RdI w w.heap.size A1 n1 cap1 a) (wa : ∀ y ∈ a, -9223372036854775808 ≤ y ∧ y ≤ 9223372036854775807) (rb : RdI w w.heap.size A2 n2 cap2 b) (wb : ∀ y ∈ b, -9223372036854775808 ≤ y ∧ y ≤ 9223372036854775807) :
    Calls Try.prog 6 #[.int .i64 m, .slice A n cap, .slice A1 n1 cap1, .slice A2 n2 cap2] w fun e w' => e = .returned (.bool true) ∧ Below w.heap.size w w' := by
  obtain ⟨i0, hi0, hz0, hz1, hz2⟩ := info_parts int_info
  have Hbd := Lib.hid (fun w h => bounded_any m A n cap l w h)
  have Hca := Lib.hid (fun w h h2 => check_any m A A1 n cap n1 cap1 l a w h h2 wa)
  have Hcb := Lib.hid (fun w h h2 => check_any m A A2 n cap n2 cap2 l b w h h2 wb)
  have hla := ra.len
  have hlb := rb.len
  cases hbo : boundF m l
  · rw [hbo] at Hbd
    clear hbo
    go_enter Try.func6, Try.ntmps6
    go_wp2_with fail
    refine (small_any _).mono ?_
    rintro e w1 ⟨rfl, hb1⟩
    go_wp2_with fail
    refine (Hbd.out _ (rl.up (flat_lasts _) hb1)).mono ?_
    rintro e w2 ⟨rfl, hb2⟩
    go_wp2
    go_ret
    exact ⟨rfl, hb1.trans (hb2.mono hb1.size)⟩
  rw [hbo] at Hbd
  cases hca : checkF m l a
  · rw [hca] at Hca
    clear hca hbo
    go_enter Try.func6, Try.ntmps6
    go_wp2_with fail
    refine (small_any _).mono ?_
    rintro e w1 ⟨rfl, hb1⟩
    go_wp2_with fail
    refine (Hbd.out _ (rl.up (flat_lasts _) hb1)).mono ?_
    rintro e w2 ⟨rfl, hb2⟩
    have hb02 := hb1.trans (hb2.mono hb1.size)
    go_wp2_with fail
    refine (Hca.out _ (rl.up (flat_lasts _) hb02) (ra.up (flat_lasts _) hb02)).mono ?_
    rintro e w3 ⟨rfl, hb3⟩
    go_wp2
    go_ret
    exact ⟨rfl, hb02.trans (hb3.mono hb02.size)⟩
  rw [hca] at Hca
  cases hcb : checkF m l b
  · rw [hcb] at Hcb
    clear hcb hca hbo
    go_enter Try.func6, Try.ntmps6
    go_wp2_with fail
    refine (small_any _).mono ?_
    rintro e w1 ⟨rfl, hb1⟩
    go_wp2_with fail
    refine (Hbd.out _ (rl.up (flat_lasts _) hb1)).mono ?_
    rintro e w2 ⟨rfl, hb2⟩
    have hb02 := hb1.trans (hb2.mono hb1.size)
    go_wp2_with fail
    refine (Hca.out _ (rl.up (flat_lasts _) hb02) (ra.up (flat_lasts _) hb02)).mono ?_
    rintro e w3 ⟨rfl, hb3⟩
    have hb03 := hb02.trans (hb3.mono hb02.size)
    go_wp2_with fail
    refine (Hcb.out _ (rl.up (flat_lasts _) hb03) (rb.up (flat_lasts _) hb03)).mono ?_
    rintro e w4 ⟨rfl, hb4⟩
    go_wp2
    go_ret
    exact ⟨rfl, hb03.trans (hb4.mono hb03.size)⟩
  rw [hcb] at Hcb
  have hr := check_right hca
  obtain ⟨hm, hl2, -⟩ := rightL_iff hr
  obtain ⟨m, rfl⟩ := Int.eq_ofNat_of_zero_le (show 0 ≤ m by omega)
  obtain ⟨la, za, fa⟩ := (check_iff hr).1 hca
  obtain ⟨lb, zb, fb⟩ := (check_iff hr).1 hcb
  have e1 : n1 = m := by omega
  have e2 : n2 = m := by omega
  subst e1
  subst e2
  have hba := ti_bd wa
  have hbb := ti_bd wb
  have hlow : checkF n2 l (ofF n2 (fun v => min (ti a v) (ti b v))) = true := check_of hr (feas_min fa fb) (by show min (ti a 0) (ti b 0) = 0; omega)
  have hhigh : checkF n2 l (ofF n2 (fun v => max (ti a v) (ti b v))) = true := check_of hr (feas_max fa fb) (by show max (ti a 0) (ti b 0) = 0; omega)
  have Hlow := Lib.hid (fun A1 c1 w h h2 => check_any n2 A A1 n cap n2 c1 l (ofF n2 (fun v => min (ti a v) (ti b v))) w h h2 (fun t ht => by
    obtain ⟨i, hi, rfl⟩ := ofF_mem ht
    have := hba i; have := hbb i; omega))
  have Hhigh := Lib.hid (fun A1 c1 w h h2 => check_any n2 A A1 n cap n2 c1 l (ofF n2 (fun v => max (ti a v) (ti b v))) w h h2 (fun t ht => by
    obtain ⟨i, hi, rfl⟩ := ofF_mem ht
    have := hba i; have := hbb i; omega))
  rw [hlow] at Hlow
  rw [hhigh] at Hhigh
  have hnn : ((n2 : Int) != (n2 : Int)) = false := by simp
  clear hlow hhigh hba hbb za fa zb fb hr hca hcb hbo hla hlb la lb
  go_enter Try.func6, Try.ntmps6
  go_wp2_with fail
  refine (small_any _).mono ?_
  rintro e w1 ⟨rfl, hb1⟩
  go_wp2_with fail
  refine (Hbd.out _ (rl.up (flat_lasts _) hb1)).mono ?_
  rintro e w2 ⟨rfl, hb2⟩
  have hb02 := hb1.trans (hb2.mono hb1.size)
  go_wp2_with fail
  refine (Hca.out _ (rl.up (flat_lasts _) hb02) (ra.up (flat_lasts _) hb02)).mono ?_
  rintro e w3 ⟨rfl, hb3⟩
  have hb03 := hb02.trans (hb3.mono hb02.size)
  go_wp2_with fail
  refine (Hcb.out _ (rl.up (flat_lasts _) hb03) (rb.up (flat_lasts _) hb03)).mono ?_
  rintro e w4 ⟨rfl, hb4⟩
  have hb04 := hb03.trans (hb4.mono hb03.size)
  have rl4 := rl.up (flat_lasts _) hb04
  have ra4 := ra.up (flat_lasts _) hb04
  have rb4 := rb.up (flat_lasts _) hb04
  clear hb1 hb2 hb02 hb3 hb03 hb4
  go_wp2
  go_loopg [10, 11, 12] n2 (fun gk lo hi i wr => ∃ j : Nat, j ≤ n2 ∧ gk = n2 - j ∧ i = .int .i64 j ∧ Own 1 iEnc wr w4.heap.size 3 lo (ofF j (fun v => min (ti a v) (ti b v))) ∧ Own 1 iEnc wr w4.heap.size 3 hi (ofF j (fun v => max (ti a v) (ti b v))) ∧ (∀ g, lo.ownBlock = some g → hi.ownBlock ≠ some g) ∧ Below w4.heap.size w4 wr)
  case atStart => exact ⟨0, Nat.zero_le _, rfl, rfl, Own.nil, Own.nil, (fun g h => by simp [Value.ownBlock] at h), Below.refl _ _⟩
  case round =>
    obtain ⟨j, hj, rfl, rfl, hlo, hhi, hdis, hb⟩ := hrel
    by_cases hlt : j < n2
    · obtain ⟨ba, oa, x, rfl, hba, hx, c0⟩ := (ra4.up (flat_lasts _) hb).atI hlt
      obtain ⟨bb, ob, y, rfl, hbb, hy, d0⟩ := (rb4.up (flat_lasts _) hb).atI hlt
      have hji : (j : Int) < (n2 : Int) := by omega
      have hj0 : (0 : Int) ≤ (j : Int) := by omega
      have ex := ti_eq hx
      have ey := ti_eq hy
      have hm1 : ofF j (fun v => min (ti a v) (ti b v)) ++ [min x y] = ofF (j + 1) (fun v => min (ti a v) (ti b v)) := by rw [ofF_succ, ex, ey]
      have hm2 : ofF j (fun v => max (ti a v) (ti b v)) ++ [max x y] = ofF (j + 1) (fun v => max (ti a v) (ti b v)) := by rw [ofF_succ, ex, ey]
      have Hm1 := Lib.hid hm1; have Hm2 := Lib.hid hm2
      obtain ⟨X, hX⟩ : ∃ X, min x y = X := ⟨_, rfl⟩
      obtain ⟨Y, hY⟩ : ∃ Y, max x y = Y := ⟨_, rfl⟩
      rw [hX] at Hm1
      rw [hY] at Hm2
      have hsz := hb.size
      have hbal : ba < wr.heap.size := hba
      have hbbl : bb < wr.heap.size := hbb
      have hca : ba < w4.heap.size := by
        obtain ⟨b', o', _, h', hl', _⟩ := ra4.atI hlt
        injection h' with h'; injection h' with h1 h2; omega
      have hcb : bb < w4.heap.size := by
        obtain ⟨b', o', _, h', hl', _⟩ := rb4.atI hlt
        injection h' with h'; injection h' with h1 h2; omega
      clear hx hy ex ey hm1 hm2
      go_wp2
      go_region_held3 (fun w' => w'.cell? ⟨ba, oa + j, none⟩ = some (.int .i64 x) ∧ w'.cell? ⟨bb, ob + j, none⟩ = some (.int .i64 y))
        (first | exact ⟨c0, d0⟩ | exact ⟨(World.cell?_alloc_lt _ _ _ hbal).trans c0, (World.cell?_alloc_lt _ _ _ hbbl).trans d0⟩ | exact ⟨c5, d5⟩ | go_keep)
        (first
          | (refine step_app1 iSized (by rfl) _ _ 23 (by rfl) w4.heap.size 3 i0 _ 8 Try.underlying23 hi0 hz0 hz1 hz2 rfl _ (ofF j (fun v => min (ti a v) (ti b v))) (by rfl) hlo.drew X _ rfl wr.heap.size rfl (by rfl) (by rw [ofF_len]; omega) (by omega) hsz ?_
             intro v5 w5 ho5 hk5 hn5 hB5
             have hb5 := hB5 _ _ (Nat.le_refl _) hb.drew
             have c5 := ((hb5.cell (p := ⟨ba, oa + j, none⟩) hca).trans (hb.cell hca).symm).trans c0
             have d5 := ((hb5.cell (p := ⟨bb, ob + j, none⟩) hcb).trans (hb.cell hcb).symm).trans d0
             rw [Hm1.out] at ho5))
      have hhi5 : Own 1 iEnc w5 w4.heap.size 3 u11 (ofF j (fun v => max (ti a v) (ti b v))) := hhi.drew.keptS hk5 (fun g hg h => hdis g h hg)
      have hdis5 : ∀ g, v5.ownBlock = some g → u11.ownBlock ≠ some g := fun g h5 h => by
        rcases hn5 g h5 with h6 | h6
        · exact hdis g h6 h
        · have := (hhi.lt g h).2
          have h7 : wr.heap.size ≤ g := h6
          omega
      have hsz5 := hb5.size
      have hbal5 : ba < w5.heap.size := by omega
      have hbbl5 : bb < w5.heap.size := by omega
      clear hlo hhi hdis hk5 hn5 hB5 hsz
      go_wp2
      go_region_held3 (fun w' => w'.cell? ⟨ba, oa + j, none⟩ = some (.int .i64 x) ∧ w'.cell? ⟨bb, ob + j, none⟩ = some (.int .i64 y))
        (first | exact ⟨c5, d5⟩ | exact ⟨(World.cell?_alloc_lt _ _ _ hbal5).trans c5, (World.cell?_alloc_lt _ _ _ hbbl5).trans d5⟩ | exact ⟨c6, d6⟩ | go_keep)
        (first
          | (refine step_app1 iSized (by rfl) _ _ 23 (by rfl) w4.heap.size 3 i0 _ 8 Try.underlying23 hi0 hz0 hz1 hz2 rfl _ (ofF j (fun v => max (ti a v) (ti b v))) (by rfl) hhi5.drew Y _ rfl w5.heap.size rfl (by rfl) (by rw [ofF_len]; omega) (by omega) hsz5 ?_
             intro v6 w6 ho6 hk6 hn6 hB6
             have hb6 := hB6 _ _ (Nat.le_refl _) hb5.drew
             have c6 := ((hb6.cell (p := ⟨ba, oa + j, none⟩) hca).trans (hb5.cell hca).symm).trans c5
             have d6 := ((hb6.cell (p := ⟨bb, ob + j, none⟩) hcb).trans (hb5.cell hcb).symm).trans d5
             rw [Hm2.out] at ho6))
      have hlo6 : Own 1 iEnc w6 w4.heap.size 3 v5 (ofF (j + 1) (fun v => min (ti a v) (ti b v))) := ho5.drew.keptS hk6 (fun g hg h => hdis5 g hg h)
      have hdis6 : ∀ g, v5.ownBlock = some g → v6.ownBlock ≠ some g := fun g h5 h => by
        rcases hn6 g h with h6 | h6
        · exact hdis5 g h5 h6
        · have := (ho5.lt g h5).2
          have h7 : w5.heap.size ≤ g := h6
          omega
      clear ho5 hhi5 hdis5 hk6 hn6 hB6
      go_wp2
      go_roundg (n2 - (j + 1))
      case rel => exact ⟨j + 1, by omega, rfl, by go_num, hlo6, ho6, hdis6, hb6⟩
      case measure => omega
    · have e : j = n2 := by omega
      subst e
      obtain ⟨Al, cl, rfl, rlo⟩ := hlo.rd iSized (by rw [ofF_len]; omega)
      obtain ⟨Ah, ch, rfl, rhi⟩ := hhi.rd iSized (by rw [ofF_len]; omega)
      rw [ofF_len] at rlo rhi ⊢
      rw [ofF_len]
      have rl5 := rl4.up (flat_lasts _) hb
      go_wp2_with fail
      refine (Hlow.out _ _ _ rl5 rlo).mono ?_
      rintro e w7 ⟨rfl, hb7⟩
      go_wp2_with fail
      refine (Hhigh.out _ _ _ (rl5.up (flat_lasts _) hb7) (rhi.up (flat_lasts _) hb7)).mono ?_
      rintro e w8 ⟨rfl, hb8⟩
      go_wp2
      go_ret
      have hb48 := (hb.trans (hb7.mono hb.size)).trans (hb8.mono (hb.trans (hb7.mono hb.size)).size)
      exact ⟨rfl, hb04.trans (hb48.mono hb04.size)⟩
end Go.Proofs.Ythmnkmomgaamlaa
