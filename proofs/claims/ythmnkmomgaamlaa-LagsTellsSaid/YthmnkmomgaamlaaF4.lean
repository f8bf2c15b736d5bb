/- Walk over Refute of the reference of layer 15. Conditions stand in the theorem. -/
import Derived.Test.YthmnkmomgaamlaaF3
import Derived.Test.YthmnkmomgaamlaaR8
namespace Go.Proofs.Ythmnkmomgaamlaa
open Go.RowKit
set_option linter.unusedVariables false

theorem rcont {m : Nat} {l : List Lg} (s : St) : (rstepsF m l).contains s = (stepsF m l).contains s :=
  Bool.eq_iff_iff.2 (by rw [List.contains_iff_mem, List.contains_iff_mem]; exact rsteps_mem)
set_option maxRecDepth 100000 in
set_option maxHeartbeats 2000000 in
theorem rrefute_any (m : Int) (A A2 : Option Addr) (n cap k c2 : Nat) (l : List Lg) (C : List St) (w : World) (hl : RdL w w.heap.size A n cap l) (hc : RdT w w.heap.size A2 k c2 C) :
  Calls Try.prog 14 #[.int .i64 m, .slice A n cap, .slice A2 k c2] w fun e w' => e = .returned (.bool (refF m l C)) ∧ Below w.heap.size w w' := by
  have Hright := Lib.hid (fun w h => rright_any m A n cap l w h)
  have hcaps := hl.caps
  have hcaps2 := hc.caps
  have hlen := hl.len
  have hlenc := hc.len
  cases hr : rightL m l
  · have hF : refF m l C = false := by rw [refF, hr]; rfl
    rw [hF]
    have Hr := Lib.hid hr
    clear hF hr
    go_enter Try.func14, Try.ntmps14
    go_wp2_with (go_at_call 17; refine (Hright.out _ hl).mono ?_; rw [Hr.out]; rintro e w1 ⟨rfl, hb1⟩)
    go_ret
    exact ⟨rfl, hb1⟩
  obtain ⟨hm, hl2, -⟩ := rightL_iff hr
  by_cases hsz : 1 ≤ k ∧ (k : Int) ≤ m
  case neg =>
    have hF : refF m l C = false := by rw [refF, hr, hlenc, decide_eq_false (by omega)]; rfl
    rw [hF]
    have hd : ((k : Int) == 0) = true ∨ (((k : Int) == 0) = false ∧ decide (m < (k : Int)) = true) := by
      simp only [beq_iff_eq, beq_eq_false_iff_ne, ne_eq, decide_eq_true_eq]; omega
    have Hr := Lib.hid hr
    clear hF hr hsz
    rcases hd with hd | ⟨hd1, hd2⟩
    all_goals
      go_enter Try.func14, Try.ntmps14
      go_wp2_with (go_at_call 17; refine (Hright.out _ hl).mono ?_; rw [Hr.out]; rintro e w1 ⟨rfl, hb1⟩)
      go_ret
      exact ⟨rfl, hb1⟩
  obtain ⟨k1, k2⟩ := hsz
  obtain ⟨m, rfl⟩ := Int.eq_ofNat_of_zero_le (show 0 ≤ m by omega)
  have hI : (∀ j, j < k → lnk (stepsF m l) C j = true) ↔ ∀ j, j < k → lnk2 (stepsF m l) C j = true := by
    have := lnk_iff (all := stepsF m l) (C := C) (by omega)
    rw [hlenc] at this; exact this
  have HN : RowKit.Hid (∀ j, j < k → lnk2 (stepsF m l) C j = false → refF m l C = false) := Lib.hid fun j hj h => by
    have : (List.range C.length).all (lnk (stepsF m l) C) = false := by
      cases ha : (List.range C.length).all (lnk (stepsF m l) C)
      · rfl
      · have h2 := hI.1 (fun i hi => List.all_eq_true.1 ha i (List.mem_range.2 (by omega))) j hj
        rw [h] at h2; cases h2
    rw [refF, Int.toNat_natCast, this, Bool.false_and, Bool.and_false, Bool.and_false]
  have HY : RowKit.Hid ((∀ j, j < k → lnk2 (stepsF m l) C j = true) → refF m l C = decide (0 < sumN (fun j => (aAt C j).2.2) k)) := Lib.hid fun h => by
    have h := hI.2 h
    have : (List.range C.length).all (lnk (stepsF m l) C) = true := by
      rw [List.all_eq_true]; intro j hj; exact h j (by have := List.mem_range.1 hj; omega)
    rw [refF, Int.toNat_natCast, this, hr, hlenc, decide_eq_true (⟨k1, k2⟩ : 1 ≤ k ∧ (k : Int) ≤ (m : Int)), Bool.true_and, Bool.true_and, Bool.true_and]
  have Hlnk : RowKit.Hid (∀ j, lnk2 (stepsF m l) C j = ((stepsF m l).contains (aAt C j) && decide ((aAt C ((j + 1) % k)).1 = (aAt C j).2.1))) := Lib.hid fun j => by rw [lnk2, hlenc]
  have Hgap := Lib.hid (fun j h => gap_bd (C := C) hr (k := j) h)
  have HcY : RowKit.Hid (∀ (e : Nat) s, (rstepsF m l)[e]? = some s → (stepsF m l).contains s = true) := Lib.hid fun e s h => by
    rw [← rcont]; exact List.contains_iff_mem.2 (List.mem_of_getElem? h)
  have HcN : RowKit.Hid (∀ s, (∀ e, e < (rstepsF m l).length → (rstepsF m l)[e]? ≠ some s) → (stepsF m l).contains s = false) := Lib.hid fun s h => by
    rw [← rcont]
    cases hc : (rstepsF m l).contains s
    · rfl
    · obtain ⟨e, he⟩ := List.mem_iff_getElem?.1 (List.contains_iff_mem.1 hc)
      exact absurd he (h e (List.getElem?_eq_some_iff.1 he).1)
  have Hst := Lib.hid (fun w h => rsteps_any m A n cap l w h hr)
  have hsl := rsteps_len (n := m) (l := l)
  rw [hlen] at hsl hl2
  have Hr := Lib.hid hr
  clear hr hlen hlenc hI
  generalize refF m l C = RR at *
  generalize stepsF m l = all at *
  generalize rstepsF m l = alr at *
  obtain ⟨N, hN⟩ : ∃ N, alr.length = N := ⟨_, rfl⟩
  rw [hN] at hsl
  have HNl := Lib.hid hN
  clear hN
  have hd1 : ((k : Int) == 0) = false := by simp; omega
  have hd2 : decide ((m : Int) < (k : Int)) = false := by simp; omega
  have hk0 : (k : Int) ≠ 0 := by omega
  go_enter Try.func14, Try.ntmps14
  go_wp2_with (go_at_call 17; refine (Hright.out _ hl).mono ?_; rw [Hr.out]; rintro e w1 ⟨rfl, hb1⟩
               have hl1 := hl.up (flat_lasts _) hb1)
  refine (Hst.out _ hl1).mono ?_
  rintro e w2 ⟨v2, rfl, ho2, hb2⟩
  have hb02 := hb1.trans (hb2.mono hb1.size)
  have hc2 := hc.up (flat_lasts _) hb02
  obtain ⟨As, cs, rfl, rs⟩ := ho2.rd tSized (by rw [HNl.out]; omega)
  rw [HNl.out] at rs ⊢
  clear ho2 hb2 hb1 hl1
  go_wp2
  go_loopg [8, 9] k (fun gk sum i wr => ∃ j : Nat, j ≤ k ∧ gk = k - j ∧ i = .int .i64 j ∧ sum = .int .i64 (sumN (fun j => (aAt C j).2.2) j) ∧ (∀ i, i < j → lnk2 all C i = true) ∧ ∃ q, wr = w2.drewN q)
  case atStart => exact ⟨0, Nat.zero_le _, rfl, rfl, rfl, (fun i h => absurd h (by omega)), dr_zero w2⟩
  case round =>
    obtain ⟨j, hj, rfl, rfl, rfl, hall, hq0⟩ := hrel
    have Hall := Lib.hid hall; have Hq0 := Lib.hid hq0
    clear hall hq0
    by_cases hlt : j < k
    · obtain ⟨bc, oc, x, y, z, rfl, hbB, hx, c0, c1, c2⟩ := hc2.atT hlt
      obtain ⟨jn, hjn⟩ : ∃ jn, (j + 1) % k = jn := ⟨_, rfl⟩
      have hjn2 : jn < k := by rw [← hjn]; exact Nat.mod_lt _ (by omega)
      obtain ⟨bn, on, xn, yn, zn, hA, hbn, hxn, n0, -, -⟩ := hc2.atT hjn2
      injection hA with hA; injection hA with hA1 hA2
      subst hA1 hA2
      have ha := aAt_eq hx
      have han := aAt_eq hxn
      have hlk := Hlnk.out j
      rw [hjn, ha, han] at hlk
      simp only at hlk
      have hem : ((j : Int) + 1) % (k : Int) = (jn : Int) := by
        have h := Int.natCast_emod (j + 1) k
        rw [hjn] at h
        exact h.symm
      have htm : ((j : Int) + 1).tmod (k : Int) = (jn : Int) := by rw [Int.tmod_eq_emod_of_nonneg (by omega)]; exact hem
      have hji : (j : Int) < (k : Int) := by omega
      have hj0 : (0 : Int) ≤ (j : Int) := by omega
      have hni : (jn : Int) < (k : Int) := by omega
      have hn0 : (0 : Int) ≤ (jn : Int) := by omega
      have hwj : IntKind.i64.wrap ((j : Int) + 1) = (j : Int) + 1 := IntWalk.i64_in _ (by omega)
      have Hlk := Lib.hid hlk; have Ha := Lib.hid ha
      have Hm := Lib.hid (And.intro hem (And.intro htm hwj))
      clear hx hxn ha han hlk hjn hjn2 hem htm hwj
      go_wp2
      go_loopg [10, 11] N (fun gk kn i wr => ∃ (e : Nat) (kb : Bool), e ≤ N ∧ gk = N - e ∧ i = .int .i64 e ∧ kn = .bool kb ∧ (kb = true → all.contains (x, y, z) = true) ∧ (kb = false → ∀ e' : Nat, e' < e → alr[e']? ≠ some (x, y, z)) ∧ ∃ q, wr = w2.drewN q)
      case atStart => exact ⟨0, false, Nat.zero_le _, rfl, rfl, rfl, (fun h => by cases h), (fun _ e h => absurd h (by omega)), Hq0.out⟩
      case round =>
        clear Hq0
        obtain ⟨e, kb, he, rfl, rfl, rfl, hT, hFs, hq⟩ := hrel
        have HT := Lib.hid hT; have HFs := Lib.hid hFs; have Hq := Lib.hid hq
        clear hT hFs hq
        have c0' := (dr_cell Hq.out ⟨bc, oc + j * 3, none⟩).trans c0
        have c1' := (dr_cell Hq.out ⟨bc, oc + j * 3 + 1, none⟩).trans c1
        have c2' := (dr_cell Hq.out ⟨bc, oc + j * 3 + 2, none⟩).trans c2
        have n0' := (dr_cell Hq.out ⟨bc, oc + jn * 3, none⟩).trans n0
        by_cases hlt2 : e < N
        · obtain ⟨b, off, u0, u1, u2, rfl, hbS, hu, d0, d1, d2⟩ := rs.atT hlt2
          have hei : (e : Int) < (N : Int) := by omega
          have he0 : (0 : Int) ≤ (e : Int) := by omega
          have d0' := (dr_cell Hq.out ⟨b, off + e * 3, none⟩).trans d0
          have d1' := (dr_cell Hq.out ⟨b, off + e * 3 + 1, none⟩).trans d1
          have d2' := (dr_cell Hq.out ⟨b, off + e * 3 + 2, none⟩).trans d2
          cases kb
          · have HG := Lib.hid (HFs.out rfl)
            clear HFs HT
            have hcs : (u0 = x ∧ u1 = y ∧ u2 = z) ∨ ((u0 == x) = false) ∨ ((u0 == x) = true ∧ (u1 == y) = false) ∨ ((u0 == x) = true ∧ (u1 == y) = true ∧ (u2 == z) = false) := by
              simp only [beq_iff_eq, beq_eq_false_iff_ne, ne_eq]; omega
            rcases hcs with ⟨rfl, rfl, rfl⟩ | hcs
            · have HC := Lib.hid (HcY.out e _ hu)
              have q0 : (u0 == u0) = true := by simp
              have q1 : (u1 == u1) = true := by simp
              have q2 : (u2 == u2) = true := by simp
              clear hu
              go_wp2
              go_quiet (fail)
              go_wp2
              go_roundg (N - (e + 1))
              case rel => exact ⟨e + 1, true, by omega, rfl, by go_num, by simp, (fun _ => HC.out), (fun h => by cases h), dr_more Hq.out _⟩
              case measure => omega
            · have Hne : RowKit.Hid (alr[e]? ≠ some (x, y, z)) := Lib.hid fun h => by
                rw [hu] at h
                injection h with h
                injection h with h1 h2
                injection h2 with h2 h3
                subst h1; subst h2; subst h3
                simp at hcs
              clear hu
              rcases hcs with q0 | ⟨q0, q1⟩ | ⟨q0, q1, q2⟩
              all_goals
                go_wp2
                go_quiet (fail)
                go_wp2
                go_roundg (N - (e + 1))
                case rel => exact ⟨e + 1, false, by omega, rfl, by go_num, by simp, (fun h => by cases h), (fun _ e' h => by
                  by_cases ee : e' = e
                  · subst ee; exact Hne.out
                  · exact HG.out e' (by omega)), dr_more Hq.out _⟩
                case measure => omega
          · have HG := Lib.hid (HT.out rfl)
            clear hu HT HFs
            go_wp2
            go_quiet (fail)
            go_wp2
            go_roundg (N - (e + 1))
            case rel => exact ⟨e + 1, true, by omega, rfl, by go_num, by simp, (fun _ => HG.out), (fun h => by cases h), dr_more Hq.out _⟩
            case measure => omega
        · have ee : e = N := by omega
          subst ee
          cases kb
          · have hcn := HcN.out (x, y, z) (fun e' h => HFs.out rfl e' (by rw [HNl.out] at h; exact h))
            have HF := Lib.hid (HN.out j hlt (by rw [Hlk.out, hcn]; rfl))
            clear hcn
            go_wp2
            go_quiet (fail)
            go_wp2
            go_ret
            refine ⟨by rw [HF.out]; rfl, ?_⟩
            obtain ⟨q, rfl⟩ := Hq.out
            exact below_drewN (below_drewN hb02 _) _
          · have hcy := HT.out rfl
            obtain ⟨hem, htm, hwj⟩ := Hm.out
            by_cases hxy : xn = y
            · have hne : (xn != y) = false := by simp [hxy]
              have hlk1 : lnk2 all C j = true := by rw [Hlk.out, hcy, decide_eq_true hxy]; rfl
              have Hlk1 := Lib.hid hlk1
              have hn2 : ∀ i, i < j + 1 → lnk2 all C i = true := fun i hi => by
                by_cases q : i = j
                · subst q; exact Hlk1.out
                · exact Hall.out i (by omega)
              have Hn2 := Lib.hid hn2
              have hcc : ∀ i, i < j + 1 → all.contains (aAt C i) = true := fun i hi => by
                have := Hn2.out i hi
                rw [Hlnk.out i, Bool.and_eq_true] at this
                exact this.1
              have hgap := Hgap.out j (fun i hi => hcc i (by omega))
              have hos := Hgap.out (j + 1) hcc
              have hsum : sumN (fun j => (aAt C j).2.2) (j + 1) = sumN (fun j => (aAt C j).2.2) j + z := by rw [sumN, Ha.out]
              rw [hsum] at hos
              have Hsum := Lib.hid hsum
              obtain ⟨SS, hSS⟩ : ∃ x, sumN (fun j => (aAt C j).2.2) j = x := ⟨_, rfl⟩
              rw [hSS] at hos hgap ⊢
              have HSS := Lib.hid hSS
              have hwS : IntKind.i64.wrap (SS + z) = SS + z := IntWalk.i64_in _ (by omega)
              clear hlk1 hn2 hcc hcy hsum hSS hos hgap hxy
              go_wp2
              go_quiet (fail)
              go_wp2
              go_roundg (k - (j + 1))
              case rel => exact ⟨j + 1, by omega, rfl, by go_num, by rw [Hsum.out, HSS.out], Hn2.out, dr_more Hq.out _⟩
              case measure => omega
            · have hne : (xn != y) = true := by simpa using hxy
              have HF := Lib.hid (HN.out j hlt (by rw [Hlk.out, decide_eq_false hxy, Bool.and_false]))
              clear hxy hcy
              go_wp2
              go_quiet (fail)
              go_wp2
              go_ret
              refine ⟨by rw [HF.out]; rfl, ?_⟩
              obtain ⟨q, rfl⟩ := Hq.out
              exact below_drewN (below_drewN hb02 _) _
    · have e : j = k := by omega
      subst e
      have HF := Lib.hid (HY.out Hall.out)
      generalize sumN (fun j => (aAt C j).2.2) j = SS at *
      go_wp2
      go_ret
      refine ⟨by rw [HF.out]; rfl, ?_⟩
      obtain ⟨q, rfl⟩ := Hq0.out
      exact below_drewN hb02 _
end Go.Proofs.Ythmnkmomgaamlaa
