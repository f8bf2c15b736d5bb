/- Walks over Solve and Check of the reference of layer 15, and steps of the statements. Conditions stand in each theorem. -/
import Derived.Test.YthmnkmomgaamlaaF2
import Derived.Test.YthmnkmomgaamlaaG6
import Derived.Test.YthmnkmomgaamlaaL1
import Derived.Test.YthmnkmomgaamlaaR6
namespace Go.Proofs.Ythmnkmomgaamlaa
open Go.RowKit
set_option linter.unusedVariables false

theorem ti_bd2 {ts : List Int} (h : ∀ t ∈ ts, -9223372036854775808 ≤ t ∧ t ≤ 9223372036854775807) (k : Nat) : -9223372036854775808 ≤ ti ts k ∧ ti ts k ≤ 9223372036854775807 := by
  unfold ti
  rw [List.getD]
  cases e : ts[k]? with
  | none => simp
  | some x => exact h x (List.mem_of_getElem? e)
def RSolvePost (w : World) (m : Int) (l : List Lg) (e : Ending) (w' : World) : Prop := ∃ v er, e = .returned (.tuple #[v, .int .i64 er]) ∧ Below w.heap.size w w' ∧
  ((rightL m l = false ∧ v = .slice none 0 0 ∧ er = 1) ∨ (rightL m l = true ∧ ((er = 22 ∧ v = .slice none 0 0 ∧ ∀ F, Feas (stepsF m.toNat l) F → False) ∨
    (er = 0 ∧ ∃ (A : Option Addr) (D : Nat → Nat → Int), v = .slice A m.toNat m.toNat ∧ RdI w' w'.heap.size A m.toNat m.toNat (ofF m.toNat (D 0)) ∧ Fw m.toNat (stepsF m.toNat l) m.toNat D ∧ ∀ x, x < m.toNat → D x x ≤ 0))))
set_option maxRecDepth 100000 in
set_option maxHeartbeats 1000000 in
theorem rsolve_any (m : Int) (A : Option Addr) (n cap : Nat) (l : List Lg) (w : World) (hl : RdL w w.heap.size A n cap l) (hm : rightL m l = true → m ≤ 14) :
  Calls Try.prog 10 #[.int .i64 m, .slice A n cap] w (RSolvePost w m l) := by
  have Hright := Lib.hid (fun w h => rright_any m A n cap l w h)
  cases hr : rightL m l
  · have Hpost : RowKit.Hid (∀ w', Below w.heap.size w w' → RSolvePost w m l (.returned (.tuple #[.slice none 0 0, .int .i64 1])) w') := Lib.hid fun w' hb => ⟨_, _, rfl, hb, Or.inl ⟨hr, rfl, rfl⟩⟩
    have Hr := Lib.hid hr
    clear hr hm
    go_enter Try.func10, Try.ntmps10
    go_wp2_with (go_at_call 17; refine (Hright.out _ hl).mono ?_; rw [Hr.out]; rintro e w1 ⟨rfl, hb1⟩)
    go_ret2
    exact Hpost.out _ hb1
  have hm14 := hm hr
  obtain ⟨hmr, _⟩ := rightL_iff hr
  obtain ⟨m, rfl⟩ := Int.eq_ofNat_of_zero_le (show 0 ≤ m by omega)
  have H22 : RowKit.Hid (∀ w', (∀ F, Feas (stepsF m l) F → False) → Below w.heap.size w w' → RSolvePost w m l (.returned (.tuple #[.slice none 0 0, .int .i64 22])) w') := Lib.hid fun w' h hb => ⟨_, _, rfl, hb, Or.inr ⟨hr, Or.inl ⟨rfl, rfl, by rw [Int.toNat_natCast]; exact h⟩⟩⟩
  have H0 : RowKit.Hid (∀ w' A D, RdI w' w'.heap.size A m m (ofF m (D 0)) → Fw m (stepsF m l) m D → (∀ x, x < m → D x x ≤ 0) → Below w.heap.size w w' → RSolvePost w m l (.returned (.tuple #[.slice A m m, .int .i64 0])) w') := Lib.hid fun w' A D h1 h2 h3 hb => ⟨_, _, rfl, hb, Or.inr ⟨hr, Or.inr ⟨rfl, A, D, by rw [Int.toNat_natCast]; exact ⟨rfl, h1, h2, h3⟩⟩⟩⟩
  have Hfar := Lib.hid (fun w h => far_any m A n cap l w h hr (by omega))
  have Hr := Lib.hid hr
  have m1 : 1 ≤ m := by omega
  clear hr hm
  go_enter Try.func10, Try.ntmps10
  go_wp2_with (go_at_call 17; refine (Hright.out _ hl).mono ?_; rw [Hr.out]; rintro e w1 ⟨rfl, hb1⟩
               have hl1 := hl.up (flat_lasts _) hb1)
  refine (Hfar.out _ hl1).mono ?_
  rintro e w2 hp
  rcases hp with ⟨rfl, hno, hb2⟩ | ⟨h, rows, D, rfl, hg, hfw, hd, hb2⟩
  · have Hno := Lib.hid hno
    clear hno
    go_wp2
    go_ret2
    exact H22.out _ Hno.out (hb1.trans (hb2.mono hb1.size))
  · have Hfw := Lib.hid hfw; have Hd := Lib.hid hd
    have k0 := hg.head (show 0 < m by omega) (show 0 < m by omega)
    have hm0 : ((m : Int) == 0) = false := by simp; omega
    have hmi : (0 : Int) < (m : Int) := by omega
    obtain ⟨A3, c3, hv3, r3⟩ := (hg.row 0 (by omega)).rd iSized (by rw [ofF_len]; omega)
    rw [ofF_len] at hv3 r3
    injection hv3 with e1 e2 e3
    subst e1 e3
    clear hfw hd hg e2
    go_wp2
    go_ret2
    exact H0.out _ _ D r3 Hfw.out Hd.out (hb1.trans (hb2.mono hb1.size))

set_option maxRecDepth 100000 in
set_option maxHeartbeats 1000000 in
theorem rcheck_any (m : Int) (A A2 : Option Addr) (n cap k c2 : Nat) (l : List Lg) (ts : List Int) (w : World) (hl : RdL w w.heap.size A n cap l) (ht : RdI w w.heap.size A2 k c2 ts) (hw : ∀ t ∈ ts, -9223372036854775808 ≤ t ∧ t ≤ 9223372036854775807) :
  Calls Try.prog 19 #[.int .i64 m, .slice A n cap, .slice A2 k c2] w fun e w' => e = .returned (.bool (checkF m l ts)) ∧ Below w.heap.size w w' := by
  have Hright := Lib.hid (fun w h => rright_any m A n cap l w h)
  have hcaps := hl.caps
  have hcaps2 := ht.caps
  have hlen := hl.len
  have hlent := ht.len
  cases hr : rightL m l
  · have hF : checkF m l ts = false := by rw [checkF, hr]; rfl
    rw [hF]
    have Hr := Lib.hid hr
    clear hF hr
    go_enter Try.func19, Try.ntmps19
    go_wp2_with (go_at_call 17; refine (Hright.out _ hl).mono ?_; rw [Hr.out]; rintro e w1 ⟨rfl, hb1⟩)
    go_ret
    exact ⟨rfl, hb1⟩
  obtain ⟨hm, hl2, hok⟩ := rightL_iff hr
  by_cases hkm : (k : Int) = m
  case neg =>
    have hF : checkF m l ts = false := by rw [checkF, hr, hlent, decide_eq_false (by omega)]; rfl
    rw [hF]
    have hne : ((k : Int) != m) = true := by simpa using hkm
    have Hr := Lib.hid hr
    clear hF hr hok
    go_enter Try.func19, Try.ntmps19
    go_wp2_with (go_at_call 17; refine (Hright.out _ hl).mono ?_; rw [Hr.out]; rintro e w1 ⟨rfl, hb1⟩)
    go_ret
    exact ⟨rfl, hb1⟩
  subst hkm
  obtain ⟨b0, o0, x0, hA0, hbB0, hx0, k0⟩ := ht.atI (k := 0) (by omega)
  have hkk : ((k : Int) != (k : Int)) = false := by simp
  by_cases hz : x0 = 0
  case neg =>
    have hF : checkF k l ts = false := by
      have := ti_eq hx0
      rw [checkF, hr, decide_eq_false (by omega)]; rfl
    rw [hF]
    have hne : (x0 != 0) = true := by simpa using hz
    have Hr := Lib.hid hr
    have h0 : (0 : Int) < (k : Int) := by omega
    subst hA0
    rw [Nat.add_zero] at k0
    clear hF hr hok hx0
    go_enter Try.func19, Try.ntmps19
    go_wp2_with (go_at_call 17; refine (Hright.out _ hl).mono ?_; rw [Hr.out]; rintro e w1 ⟨rfl, hb1⟩
                 have k1 := (hb1.cell (p := ⟨b0, o0, none⟩) hbB0).trans k0)
    go_ret
    exact ⟨rfl, hb1⟩
  subst hz
  have ez := ti_eq hx0
  have hsl := rsteps_len (n := k) (l := l)
  rw [hlen] at hsl hl2
  have HN : RowKit.Hid (∀ e, e < (rstepsF k l).length → ti ts (sT (aAt (rstepsF k l) e)) - ti ts (sF (aAt (rstepsF k l) e)) < sG (aAt (rstepsF k l) e) → checkF k l ts = false) := Lib.hid fun e he h => by
    cases hc : checkF k l ts
    · rfl
    · have h3 := feas_r.2 ((check_iff hr).1 hc).2.2 e he
      omega
  have HY : RowKit.Hid ((∀ e, e < (rstepsF k l).length → sG (aAt (rstepsF k l) e) ≤ ti ts (sT (aAt (rstepsF k l) e)) - ti ts (sF (aAt (rstepsF k l) e))) → checkF k l ts = true) := Lib.hid fun h => (check_iff hr).2 ⟨by omega, ez, feas_r.1 fun e he => by have := h e he; omega⟩
  have Hfirst : RowKit.Hid (∀ e, e < k - 1 → aAt (rstepsF k l) e = (0, ((e + 1 : Nat) : Int), 0)) := Lib.hid fun e he => by
    refine aAt_eq ?_
    rw [rstepsF, List.getElem?_append_left (by rw [zs, ofF_len]; exact he), zs, ofF_get he]
  have Hlen2 : RowKit.Hid (k - 1 ≤ (rstepsF k l).length) := Lib.hid (by rw [rstepsF, List.length_append, zs, ofF_len]; omega)
  have Hbd := Lib.hid (ti_bd2 hw)
  have Hokr := Lib.hid (rsteps_okA hr)
  have Hst := Lib.hid (fun w h => rsteps_any k A n cap l w h hr)
  have Hez := Lib.hid ez
  have Hr := Lib.hid hr
  have h0 : (0 : Int) < (k : Int) := by omega
  have ht' := ht
  subst hA0
  rw [Nat.add_zero] at k0
  clear hw hr hok hx0 hlen hlent ez
  generalize checkF k l ts = RR at *
  generalize rstepsF k l = alr at *
  obtain ⟨N, hN⟩ : ∃ N, alr.length = N := ⟨_, rfl⟩
  rw [hN] at hsl
  have HNl := Lib.hid hN
  clear hN
  go_enter Try.func19, Try.ntmps19
  go_wp2_with (go_at_call 17; refine (Hright.out _ hl).mono ?_; rw [Hr.out]; rintro e w1 ⟨rfl, hb1⟩
               have k1 := (hb1.cell (p := ⟨b0, o0, none⟩) hbB0).trans k0
               have hl1 := hl.up (flat_lasts _) hb1)
  refine (Hst.out _ hl1).mono ?_
  rintro e w2 ⟨v2, rfl, ho2, hb2⟩
  have hb02 := hb1.trans (hb2.mono hb1.size)
  have ht2 := ht.up (flat_lasts _) hb02
  obtain ⟨As, cs, rfl, rs⟩ := ho2.rd tSized (by rw [HNl.out]; omega)
  rw [HNl.out] at rs ⊢
  clear ho2 hb2 hb1 k0 k1 ht' ht hl1
  go_wp2
  go_loopg [8] N (fun gk i wr => ∃ e : Nat, e ≤ N ∧ gk = N - e ∧ i = .int .i64 e ∧ (∀ e', e' < e → sG (aAt alr e') ≤ ti ts (sT (aAt alr e')) - ti ts (sF (aAt alr e'))) ∧ ∃ q, wr = w2.drewN q)
  case atStart => exact ⟨0, Nat.zero_le _, rfl, rfl, (fun e h => absurd h (by omega)), dr_zero w2⟩
  case round =>
    obtain ⟨e, he, rfl, rfl, hall, hq⟩ := hrel
    have Hall := Lib.hid hall; have Hq := Lib.hid hq
    clear hall hq
    by_cases hlt : e < N
    · obtain ⟨b, off, x, y, z, rfl, hbB, hx, c0, c1, c2⟩ := rs.atT hlt
      have hos := Hokr.out e (by rw [HNl.out]; exact hlt)
      have ha := aAt_eq hx
      rw [ha] at hos
      have ⟨⟨q1, q2⟩, ⟨q3, q4⟩, q5, q6, q7⟩ := hos
      simp only at q1 q2 q3 q4 q5 q6 q7
      obtain ⟨f, rfl⟩ := Int.eq_ofNat_of_zero_le q1
      obtain ⟨t, rfl⟩ := Int.eq_ofNat_of_zero_le q3
      obtain ⟨bf, of, vf, hA, hbf, hvf, ef⟩ := ht2.atI (k := f) (by omega)
      injection hA with hA; injection hA with hA1 hA2
      subst hA1 hA2
      obtain ⟨bt, ot, vt, hA, hbt, hvt, et⟩ := ht2.atI (k := t) (by omega)
      injection hA with hA; injection hA with hA1 hA2
      subst hA1 hA2
      have bf1 := Hbd.out f
      have bt1 := Hbd.out t
      rw [ti_eq hvf] at bf1
      rw [ti_eq hvt] at bt1
      have hnn : ∀ v, v < k → e < k - 1 ∨ 0 ≤ ti ts v := fun v hv => by
        by_cases h1 : e < k - 1
        · exact Or.inl h1
        · right
          by_cases h2 : v = 0
          · subst h2; rw [Hez.out]; omega
          · have h3 := Hall.out (v - 1) (by omega)
            rw [Hfirst.out (v - 1) (by omega)] at h3
            simp only [sF, sT, sG, Int.toNat_natCast, Int.toNat_zero] at h3
            rw [Hez.out, show v - 1 + 1 = v by omega] at h3
            omega
      have hdiff : -9223372036854775808 ≤ vt - vf ∧ vt - vf ≤ 9223372036854775807 := by
        rcases hnn f (by omega) with h1 | h1
        · have h2 := Hfirst.out e h1
          rw [ha] at h2
          simp only [Prod.mk.injEq] at h2
          have h3 : f = 0 := by omega
          subst h3
          have h4 := Hez.out
          rw [ti_eq hvf] at h4
          omega
        · rcases hnn t (by omega) with h2 | h2
          · have h3 := Hfirst.out e h2
            rw [ha] at h3
            simp only [Prod.mk.injEq] at h3
            have h4 : f = 0 := by omega
            subst h4
            have h5 := Hez.out
            rw [ti_eq hvf] at h5
            omega
          · rw [ti_eq hvf] at h1
            rw [ti_eq hvt] at h2
            omega
      have Hd := Lib.hid (show ti ts (sT (aAt alr e)) - ti ts (sF (aAt alr e)) = vt - vf ∧ sG (aAt alr e) = z by
        rw [ha]; simp only [sF, sT, sG, Int.toNat_natCast]; rw [ti_eq hvt, ti_eq hvf]; exact ⟨rfl, trivial⟩)
      have hwd : IntKind.i64.wrap (vt - vf) = vt - vf := IntWalk.i64_in _ hdiff
      have c0' := (dr_cell Hq.out ⟨b, off + e * 3, none⟩).trans c0
      have c1' := (dr_cell Hq.out ⟨b, off + e * 3 + 1, none⟩).trans c1
      have c2' := (dr_cell Hq.out ⟨b, off + e * 3 + 2, none⟩).trans c2
      have ef' := (dr_cell Hq.out ⟨b0, o0 + f, none⟩).trans ef
      have et' := (dr_cell Hq.out ⟨b0, o0 + t, none⟩).trans et
      have hei : (e : Int) < (N : Int) := by omega
      have he0 : (0 : Int) ≤ (e : Int) := by omega
      have hf0 : (0 : Int) ≤ (f : Int) := by omega
      have ht0 : (0 : Int) ≤ (t : Int) := by omega
      clear hos ha hx hvf hvt hnn hdiff
      by_cases hlt2 : vt - vf < z
      · have hd : decide (vt - vf < z) = true := by simpa using hlt2
        have hF := HN.out e (by rw [HNl.out]; exact hlt) (by obtain ⟨h1, h2⟩ := Hd.out; rw [h1, h2]; exact hlt2)
        have HF := Lib.hid hF
        clear hF
        go_wp2
        go_quiet (fail)
        go_wp2
        go_ret
        refine ⟨by rw [HF.out]; rfl, ?_⟩
        obtain ⟨q, rfl⟩ := Hq.out
        exact below_drewN (below_drewN hb02 _) _
      · have hd : decide (vt - vf < z) = false := by simpa using hlt2
        have hn2 : ∀ e', e' < e + 1 → sG (aAt alr e') ≤ ti ts (sT (aAt alr e')) - ti ts (sF (aAt alr e')) := fun e' h => by
          by_cases q : e' = e
          · subst q; obtain ⟨h1, h2⟩ := Hd.out; rw [h1, h2]; omega
          · exact Hall.out e' (by omega)
        have Hn2 := Lib.hid hn2
        clear hn2
        go_wp2
        go_quiet (fail)
        go_wp2
        go_roundg (N - (e + 1))
        case rel => exact ⟨e + 1, by omega, rfl, by go_num, Hn2.out, dr_more Hq.out _⟩
        case measure => omega
    · have ee : e = N := by omega
      subst ee
      have hF := HY.out (fun e' h => Hall.out e' (by rw [← HNl.out]; exact h))
      have HF := Lib.hid hF
      clear hF
      go_wp2
      go_ret
      refine ⟨by rw [HF.out]; rfl, ?_⟩
      obtain ⟨q, rfl⟩ := Hq.out
      exact below_drewN hb02 _
end Go.Proofs.Ythmnkmomgaamlaa
