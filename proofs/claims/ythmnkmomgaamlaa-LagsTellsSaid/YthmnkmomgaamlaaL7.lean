/- Walk over the statement LagsTells. Conditions stand in the theorem. -/
import Derived.Test.YthmnkmomgaamlaaF6
namespace Go.Proofs.Ythmnkmomgaamlaa
open Go.RowKit
set_option linter.unusedVariables false

theorem ints_same (A B : Option Addr) (n m cap capb : Nat) (a : List Int) (w : World) (ha : RdI w w.heap.size A n cap a) (hb : RdI w w.heap.size B m capb a) :
    Calls Try.prog 13 #[.slice A n cap, .slice B m capb] w (SameP w true) := by
  have h := ints_any A B n m cap capb a a w ha hb
  rw [decide_eq_true (rfl : a = a)] at h
  exact h
set_option maxRecDepth 100000 in
set_option maxHeartbeats 8000000 in
theorem lagsTells_walk (m : Int) (A : Option Addr) (n cap : Nat) (l : List Lg) (A1 : Option Addr) (n1 cap1 : Nat) (a : List Int) (A2 : Option Addr) (n2 cap2 : Nat) (C : List St) (en : Int) (w : World) (h1 : -9223372036854775808 ≤ m ∧ m ≤ 9223372036854775807) (rl : RdL w w.heap.size A n cap l)
    (ra : RdI w w.heap.size A1 n1 cap1 a) (wa : ∀ y ∈ a, -9223372036854775808 ≤ y ∧ y ≤ 9223372036854775807) (rc : RdT w w.heap.size A2 n2 cap2 C) (h2 : -9223372036854775808 ≤ en ∧ en ≤ 9223372036854775807) :
    Calls Try.prog 3 #[.int .i64 m, .slice A n cap, .slice A1 n1 cap1, .slice A2 n2 cap2, .int .i64 en] w fun e w' => e = .returned (.bool true) ∧ Below w.heap.size w w' := by
  obtain ⟨i0, hi0, hz0, hz1, hz2⟩ := info_parts step_info
  have hla := ra.len
  have hlc := rc.len
  have hll := rl.len
  have hcapl := rl.caps
  have hcapa := ra.caps
  have hcapc := rc.caps
  by_cases hsz : ¬ (14 < m ∧ m ≤ 200) ∧ n ≤ 40 ∧ n1 ≤ 20 ∧ n2 ≤ 20
  case neg =>
    have hd : (decide (14 < m) = true ∧ decide (m ≤ 200) = true) ∨ ((decide (14 < m) = false ∨ (decide (14 < m) = true ∧ decide (m ≤ 200) = false)) ∧ (decide ((40 : Int) < (n : Int)) = true ∨ (decide ((40 : Int) < (n : Int)) = false ∧ (decide ((20 : Int) < (n1 : Int)) = true ∨ (decide ((20 : Int) < (n1 : Int)) = false ∧ decide ((20 : Int) < (n2 : Int)) = true))))) := by
      simp only [decide_eq_true_eq, decide_eq_false_iff_not]; omega
    clear hsz
    rcases hd with ⟨hp1, hp2⟩ | ⟨hp1 | ⟨hp1, hp2⟩, hq1 | ⟨hq1, hq2 | ⟨hq2, hq3⟩⟩⟩
    all_goals
      go_enter Try.func3, Try.ntmps3
      go_wp2_with fail
      refine (small_any _).mono ?_
      rintro e w1 ⟨rfl, hb1⟩
      go_wp2
      go_ret
      exact ⟨rfl, hb1⟩
  obtain ⟨hm200, hn40, hn1, hn2⟩ := hsz
  have hm14 : rightL m l = true → m ≤ 14 := fun hr => by
    obtain ⟨hm, _⟩ := rightL_iff hr
    omega
  have Hsolve := Lib.hid (fun w h => (solve_any m A n cap l w h).mono fun e w' hp => solve_form hp)
  have Hrsolve := Lib.hid (fun w h => (rsolve_any m A n cap l w h hm14).mono fun e w' hp => rsolve_form hp)
  have Hlat := Lib.hid (fun w h => (latest_any m A n cap l en w h).mono fun e w' hp => latest_form hp)
  have Hrlat := Lib.hid (fun w h => (rlatest_any m A n cap l en w h hm14).mono fun e w' hp => rlatest_form hp)
  have Hr1 := Lib.hid (fun w h => right_any m A n cap l w h)
  have Hr2 := Lib.hid (fun w h => rright_any m A n cap l w h)
  have Hc1 := Lib.hid (fun w h h2 => check_any m A A1 n cap n1 cap1 l a w h h2 wa)
  have Hc2 := Lib.hid (fun w h h2 => rcheck_any m A A1 n cap n1 cap1 l a w h h2 wa)
  have Hf1 := Lib.hid (fun A' c' w h h2 => refute_any m A A' n cap n2 c' l C w h h2)
  have Hf2 := Lib.hid (fun w h h2 => rrefute_any m A A2 n cap n2 cap2 l C w h h2)
  have Hff := Lib.hid (fun A' k' c' Cf w h h2 => rrefute_any m A A' n cap k' c' l Cf w h h2)
  have Hsame := Lib.hid (fun la lb C er er' h1 h2 => same_solve (la := la) (lb := lb) (C := C) (er := er) (er' := er') h1 h2 hm14 (by omega))
  have Hsame2 := Lib.hid (fun la lc ld C er g h h1 h2 h3 => same_latest (la := la) (lc := lc) (ld := ld) (C := C) (er := er) (en := en) (g := g) (h := h) h1 h2 h3 hm14 (by omega))
  obtain ⟨RB, hRB⟩ : ∃ b, rightL m l = b := ⟨_, rfl⟩
  obtain ⟨CB, hCB⟩ : ∃ b, checkF m l a = b := ⟨_, rfl⟩
  obtain ⟨FB, hFB⟩ : ∃ b, refF m l C = b := ⟨_, rfl⟩
  rw [hRB] at Hr1 Hr2
  rw [hCB] at Hc1 Hc2
  rw [hFB] at Hf1 Hf2
  have eRB : (RB == RB) = true := by simp
  have eCB : (CB == CB) = true := by simp
  have eFB : (FB == FB) = true := by simp
  have hd : decide (14 < m) = false ∨ (decide (14 < m) = true ∧ decide (m ≤ 200) = false) := by
    simp only [decide_eq_true_eq, decide_eq_false_iff_not]; omega
  have hq1 : decide ((40 : Int) < (n : Int)) = false := by simp; omega
  have hq2 : decide ((20 : Int) < (n1 : Int)) = false := by simp; omega
  have hq3 : decide ((20 : Int) < (n2 : Int)) = false := by simp; omega
  clear hRB hCB hFB hm14 hm200
  rcases hd with hp1 | ⟨hp1, hp2⟩
  all_goals
    go_enter Try.func3, Try.ntmps3
    go_wp2_with fail
    refine (small_any _).mono ?_
    rintro e w1 ⟨rfl, hb1⟩
    go_wp2_with fail
    refine (Hsolve.out _ (rl.up (flat_lasts _) hb1)).mono ?_
    rintro e w2 ⟨Aa, na, ca, la, Af, nf, cf, Cf, er, rfl, hb2, ra2, rf2, hsf⟩
    have Hsf := Lib.hid hsf
    have hb02 := hb1.trans (hb2.mono hb1.size)
    clear hsf hb1 hb2
    go_wp2_with fail
    refine (Hrsolve.out _ (rl.up (flat_lasts _) hb02)).mono ?_
    rintro e w3 ⟨Ab, nb, cb, lb, er', rfl, hb3, rb3, hrf⟩
    obtain ⟨hab, her, hcase⟩ := Hsame.out _ _ _ _ _ Hsf.out hrf
    subst hab; subst her
    have Hcase := Lib.hid hcase
    have ra3 := ra2.up (flat_lasts _) hb3
    have rf3 := rf2.up (flat_lasts _) hb3
    have hb03 := hb02.trans (hb3.mono hb02.size)
    clear hrf hcase hb3 hb02 ra2 rf2
    go_wp2_with fail
    refine (Hlat.out _ (rl.up (flat_lasts _) hb03)).mono ?_
    rintro e w4 ⟨Ac, nc, cc, lc, g, rfl, hb4, rc4, hlf⟩
    have Hlf := Lib.hid hlf
    have ra4 := ra3.up (flat_lasts _) hb4
    have rb4 := rb3.up (flat_lasts _) hb4
    have rf4 := rf3.up (flat_lasts _) hb4
    have hb04 := hb03.trans (hb4.mono hb03.size)
    clear hlf hb4 hb03 ra3 rb3 rf3
    go_wp2_with fail
    refine (Hrlat.out _ (rl.up (flat_lasts _) hb04)).mono ?_
    rintro e w5 ⟨Ad, nd, cd, ld, g', rfl, hb5, rd5, hrlf⟩
    obtain ⟨hcd, hgg⟩ := Hsame2.out _ _ _ _ _ _ _ Hsf.out Hlf.out hrlf
    subst hcd; subst hgg
    have ra5 := ra4.up (flat_lasts _) hb5
    have rb5 := rb4.up (flat_lasts _) hb5
    have rf5 := rf4.up (flat_lasts _) hb5
    have rc5 := rc4.up (flat_lasts _) hb5
    have hb05 := hb04.trans (hb5.mono hb04.size)
    have rl5 := rl.up (flat_lasts _) hb05
    have rt5 := ra.up (flat_lasts _) hb05
    have rC5 := rc.up (flat_lasts _) hb05
    clear hrlf hb5 hb04 ra4 rb4 rf4 rc4 Hsf Hlf Hsame Hsame2
    go_wp2
    go_loopg [21, 22] n2 (fun gk v i wr => ∃ j : Nat, j ≤ n2 ∧ gk = n2 - j ∧ i = .int .i64 j ∧ Own 3 tEnc wr w5.heap.size 35 v (C.take j) ∧ Below w5.heap.size w5 wr)
    case atStart => exact ⟨0, Nat.zero_le _, rfl, rfl, by simpa using Own.nil, Below.refl _ _⟩
    case round =>
      obtain ⟨j, hj, rfl, rfl, ho, hb⟩ := hrel
      by_cases hlt : j < n2
      · obtain ⟨b, off, x, y, z, rfl, hbB, hx, c0, c1, c2⟩ := (rC5.up (flat_lasts _) hb).atT hlt
        have hcb : b < w5.heap.size := by
          obtain ⟨b', o', _, _, _, h', hl', _⟩ := rC5.atT hlt
          injection h' with h'; injection h' with h1 h2; omega
        have hji : (j : Int) < (n2 : Int) := by omega
        have hj0 : (0 : Int) ≤ (j : Int) := by omega
        have hmore : C.take j ++ [(x, y, z)] = C.take (j + 1) := by rw [List.take_add_one, hx]; rfl
        have hlen : (C.take j).length = j := by rw [List.length_take]; omega
        obtain ⟨Cj, hCj⟩ : ∃ q, C.take j = q := ⟨_, rfl⟩
        rw [hCj] at ho hmore hlen
        have Hmore := Lib.hid hmore
        have hsz := hb.size
        clear hx hmore hCj
        go_wp2
        go_region_held3 (fun w' => w'.cell? ⟨b, off + j * 3, none⟩ = some (.int .i64 x) ∧ w'.cell? ⟨b, off + j * 3 + 1, none⟩ = some (.int .i64 y) ∧ w'.cell? ⟨b, off + j * 3 + 2, none⟩ = some (.int .i64 z))
          (first | exact ⟨c0, c1, c2⟩ | exact ⟨(World.cell?_alloc_lt _ _ _ hbB).trans c0, (World.cell?_alloc_lt _ _ _ hbB).trans c1, (World.cell?_alloc_lt _ _ _ hbB).trans c2⟩ | exact ⟨d0, d1, d2⟩ | go_keep)
          (first
            | (refine step_app1 tSized (by rfl) _ _ 26 (by rfl) w5.heap.size 35 i0 _ 24 Try.underlying26 hi0 hz0 hz1 hz2 rfl _ Cj (by rfl) ho.drew (x, y, z) _ rfl wr.heap.size rfl (by rfl) (by rw [hlen]; omega) (by omega) hsz ?_
               intro v6 w6 ho6 hk6 hn6 hB6
               have hb6 := hB6 _ _ (Nat.le_refl _) hb.drew
               have d0 := ((hb6.cell (p := ⟨b, off + j * 3, none⟩) hcb).trans (hb.cell hcb).symm).trans c0
               have d1 := ((hb6.cell (p := ⟨b, off + j * 3 + 1, none⟩) hcb).trans (hb.cell hcb).symm).trans c1
               have d2 := ((hb6.cell (p := ⟨b, off + j * 3 + 2, none⟩) hcb).trans (hb.cell hcb).symm).trans c2
               rw [Hmore.out] at ho6))
        go_wp2
        go_roundg (n2 - (j + 1))
        case rel => exact ⟨j + 1, by omega, rfl, by go_num, ho6, hb6⟩
        case measure => omega
      · have e : j = n2 := by omega
        subst e
        have ht : C.take j = C := List.take_of_length_le (by omega)
        rw [ht] at ho
        obtain ⟨A9, c9, rfl, r9⟩ := ho.rd tSized (by omega)
        rw [hlc] at r9 ⊢
        have hb06 := hb05.trans (hb.mono hb05.size)
        have ra6 := ra5.up (flat_lasts _) hb
        have rb6 := rb5.up (flat_lasts _) hb
        have rf6 := rf5.up (flat_lasts _) hb
        have rc6 := rc5.up (flat_lasts _) hb
        have rd6 := rd5.up (flat_lasts _) hb
        have rl6 := rl5.up (flat_lasts _) hb
        have rt6 := rt5.up (flat_lasts _) hb
        have rC6 := rC5.up (flat_lasts _) hb
        have hlf := rf6.len
        clear ht ho hb hb05 ra5 rb5 rf5 rc5 rd5 rl5 rt5 rC5
        rcases Hcase.out with ⟨rfl, k1, k2, href⟩ | ⟨h01, rfl⟩
        · have hnf : 0 < nf := by omega
          have hnf1 : decide (0 < nf) = true := by simpa using hnf
          have hFf := Hff.out Af nf
          have Href := Lib.hid href
          have hnf5 : nf ≤ 5000 := by omega
          clear href k1 k2 hFf
          go_wp2_with fail
          refine (ints_same _ _ _ _ _ _ _ _ ra6 rb6).mono ?_
          rintro e w7 ⟨rfl, q7, rfl⟩
          have hb7 := below_drewN (Below.refl wr.heap.size wr) q7
          have rf7 := rf6.up (flat_lasts _) hb7
          go_wp2_with fail
          refine (lawsteps_any _ _ _ _ _ rf7 hnf5).mono ?_
          rintro e w8 ⟨v8, rfl, ho8, hb8⟩
          obtain ⟨A8, c8, rfl, r8⟩ := ho8.rd tSized (by omega)
          rw [hlf] at r8 ⊢
          have hb78 := hb7.trans (hb8.mono hb7.size)
          go_wp2_with fail
          refine (Hff.out _ _ _ _ _ (rl6.up (flat_lasts _) hb78) r8).mono ?_
          rw [Href.out]
          rintro e w9 ⟨rfl, hb9⟩
          have hb79 := hb78.trans (hb9.mono hb78.size)
          have hb09 := hb06.trans (hb79.mono hb06.size)
          have rc9 := rc6.up (flat_lasts _) hb79
          have rd9 := rd6.up (flat_lasts _) hb79
          have rl9 := rl6.up (flat_lasts _) hb79
          have rt9 := rt6.up (flat_lasts _) hb79
          have rC9 := rC6.up (flat_lasts _) hb79
          have r99 := r9.up (flat_lasts _) hb79
          clear hb7 hb8 hb78 hb79 hb9 ho8 r8 rf7 rf6 ra6 rb6 rc6 rd6 rl6 rt6 rC6 r9 hb06
          go_wp2_with fail
          refine (ints_same _ _ _ _ _ _ _ _ rc9 rd9).mono ?_
          rintro e w10 ⟨rfl, q10, rfl⟩
          have hb10 := below_drewN (Below.refl w9.heap.size w9) q10
          go_wp2_with fail
          refine (Hr1.out _ (rl9.up (flat_lasts _) hb10)).mono ?_
          rintro e w11 ⟨rfl, hb11⟩
          have hb11 := hb10.trans (hb11.mono hb10.size)
          go_wp2_with fail
          refine (Hr2.out _ (rl9.up (flat_lasts _) hb11)).mono ?_
          rintro e w12 ⟨rfl, hb12⟩
          have hb12 := hb11.trans (hb12.mono hb11.size)
          go_wp2_with fail
          refine (Hc1.out _ (rl9.up (flat_lasts _) hb12) (rt9.up (flat_lasts _) hb12)).mono ?_
          rintro e w13 ⟨rfl, hb13⟩
          have hb13 := hb12.trans (hb13.mono hb12.size)
          go_wp2_with fail
          refine (Hc2.out _ (rl9.up (flat_lasts _) hb13) (rt9.up (flat_lasts _) hb13)).mono ?_
          rintro e w14 ⟨rfl, hb14⟩
          have hb14 := hb13.trans (hb14.mono hb13.size)
          go_wp2_with fail
          refine (Hf1.out _ _ _ (rl9.up (flat_lasts _) hb14) (r99.up (flat_lasts _) hb14)).mono ?_
          rintro e w15 ⟨rfl, hb15⟩
          have hb15 := hb14.trans (hb15.mono hb14.size)
          go_wp2_with fail
          refine (Hf2.out _ (rl9.up (flat_lasts _) hb15) (rC9.up (flat_lasts _) hb15)).mono ?_
          rintro e w16 ⟨rfl, hb16⟩
          have hb16 := hb15.trans (hb16.mono hb15.size)
          go_wp2
          go_ret
          exact ⟨by simp, hb09.trans (hb16.mono hb09.size)⟩
        · have hnf0 : nf = 0 := by simpa using hlf.symm
          subst hnf0
          have h22 : (er == 22) = false := by simp; omega
          clear h01 Hff
          go_wp2_with fail
          refine (ints_same _ _ _ _ _ _ _ _ ra6 rb6).mono ?_
          rintro e w7 ⟨rfl, q7, rfl⟩
          have hb7 := below_drewN (Below.refl wr.heap.size wr) q7
          have hb09 := hb06.trans (hb7.mono hb06.size)
          have rc9 := rc6.up (flat_lasts _) hb7
          have rd9 := rd6.up (flat_lasts _) hb7
          have rl9 := rl6.up (flat_lasts _) hb7
          have rt9 := rt6.up (flat_lasts _) hb7
          have rC9 := rC6.up (flat_lasts _) hb7
          have r99 := r9.up (flat_lasts _) hb7
          clear hb7 rf6 ra6 rb6 rc6 rd6 rl6 rt6 rC6 r9 hb06
          generalize wr.drewN q7 = w9 at *
          go_wp2_with fail
          refine (ints_same _ _ _ _ _ _ _ _ rc9 rd9).mono ?_
          rintro e w10 ⟨rfl, q10, rfl⟩
          have hb10 := below_drewN (Below.refl w9.heap.size w9) q10
          go_wp2_with fail
          refine (Hr1.out _ (rl9.up (flat_lasts _) hb10)).mono ?_
          rintro e w11 ⟨rfl, hb11⟩
          have hb11 := hb10.trans (hb11.mono hb10.size)
          go_wp2_with fail
          refine (Hr2.out _ (rl9.up (flat_lasts _) hb11)).mono ?_
          rintro e w12 ⟨rfl, hb12⟩
          have hb12 := hb11.trans (hb12.mono hb11.size)
          go_wp2_with fail
          refine (Hc1.out _ (rl9.up (flat_lasts _) hb12) (rt9.up (flat_lasts _) hb12)).mono ?_
          rintro e w13 ⟨rfl, hb13⟩
          have hb13 := hb12.trans (hb13.mono hb12.size)
          go_wp2_with fail
          refine (Hc2.out _ (rl9.up (flat_lasts _) hb13) (rt9.up (flat_lasts _) hb13)).mono ?_
          rintro e w14 ⟨rfl, hb14⟩
          have hb14 := hb13.trans (hb14.mono hb13.size)
          go_wp2_with fail
          refine (Hf1.out _ _ _ (rl9.up (flat_lasts _) hb14) (r99.up (flat_lasts _) hb14)).mono ?_
          rintro e w15 ⟨rfl, hb15⟩
          have hb15 := hb14.trans (hb15.mono hb14.size)
          go_wp2_with fail
          refine (Hf2.out _ (rl9.up (flat_lasts _) hb15) (rC9.up (flat_lasts _) hb15)).mono ?_
          rintro e w16 ⟨rfl, hb16⟩
          have hb16 := hb15.trans (hb16.mono hb15.size)
          go_wp2
          go_ret
          exact ⟨by simp, hb09.trans (hb16.mono hb09.size)⟩
end Go.Proofs.Ythmnkmomgaamlaa
