
/- Walk over the statement CentsWhole. Conditions stand in each theorem. -/
import Derived.Test.YtinfcngkbdiddaaCz
import Derived.Test.YtinfcngkbdiddaaCS2
import Derived.Test.YtinfcngkbdiddaaOpd
import Derived.BigGuard
namespace Go.Proofs.Ytinfcngkbdiddaa
open Go.RowKit
set_option linter.unusedVariables false
set_option linter.unusedSimpArgs false

theorem wz_any (n : Nat) (w : World) (hn : n ≤ 1000) : Calls Try.prog 21 #[.int .i64 n] w fun e w' => ∃ A cap, e = .returned (.slice A n cap) ∧ RdF w' w'.heap.size A n cap (zeL n) ∧ Below w.heap.size w w' := wzeros_any n w hn
theorem St.frontW {w W : World} {X L : List Blk} {D : List Hl} {a : Blk} (K : St w (a :: (X ++ L)) D W) : St w (X ++ (a :: L)) D W := K.perm List.perm_middle
theorem St.swapW {w W : World} {X L : List Blk} {D : List Hl} (K : St w (X ++ L) D W) : St w (L ++ X) D W := K.perm List.perm_append_comm
theorem u32_wrap {x : Int} (h : 0 ≤ x ∧ x ≤ 4294967295) : IntKind.u32.wrap x = x := by
  rw [IntKind.wrap_u32]
  omega
theorem St.addQ {w W : World} {D : List Hl} (h : St w [] D W) {A : Option Addr} {n cap : Nat} {l : List Fv} (hl : RdF W W.heap.size A n cap l) : St w [] (⟨rfP A n cap l, allS W⟩ :: D) W := h.addF hl
set_option maxRecDepth 100000 in
set_option maxHeartbeats 4000000 in
theorem centsWhole_walk (A : Option Addr) (n cap : Nat) (L : List Int) (A2 : Option Addr) (n2 cap2 : Nat) (m : List Fv) (w : World) (hl : Rd 1 (flat u32E) w w.heap.size A n cap L) (hL : ∀ y ∈ L, 0 ≤ y ∧ y ≤ 4294967295) (hm : RdF w w.heap.size A2 n2 cap2 m) :
    Calls Try.prog 6 #[.slice A n cap, .slice A2 n2 cap2] w fun e w' => e = .returned (.bool true) ∧ Below w.heap.size w w' := by
  have K := St.start w
  have hcapL := hl.caps
  have hcapM := hm.caps
  have hlenL := hl.len
  have hlenM := hm.len
  have HF2 := Lib.hid (fun W (h : Below w.heap.size w W) => rfew_any A2 n2 cap2 m W (hm.up fE_lasts h))
  have HM := Lib.hid hm
  have HLr := Lib.hid hl
  have HLd := Lib.hid hL
  clear hl hL hm
  go_enter Try.func6, Try.ntmps6
  go_wp2_with fail
  refine (wsmall_any _).mono ?_
  rintro e W' ⟨rfl, hb⟩
  replace K := K.keep hb
  clear hb
  by_cases h12 : (12 : Int) < (n : Int)
  · have hd : decide ((12 : Int) < (n : Int)) = true := decide_eq_true h12
    go_wp2_with fail
    go_ret
    exact ⟨rfl, K.1⟩
  have hd : decide ((12 : Int) < (n : Int)) = false := decide_eq_false h12
  by_cases h0 : n = 0
  · subst h0
    go_wp2_with fail
    go_ret
    exact ⟨rfl, K.1⟩
  have hd0 : ((n : Int) == 0) = false := by simp [h0]
  have hn : n ≤ 12 := by omega
  have hn1 : 1 ≤ n := by omega
  clear h12 h0
  go_wp2_with fail
  refine (HF2.out _ K.1).mono ?_
  rintro e W' ⟨rfl, hb⟩
  replace K := K.keep hb
  clear hb
  cases hf : fewL m
  · go_wp2_with fail
    go_ret
    exact ⟨rfl, K.1⟩
  have Hf := Lib.hid hf
  clear hf hd hd0
  obtain ⟨N, hN⟩ : ∃ N : Nat → Int, N = fun i => (L.getD i 0) % 1000000001 := ⟨_, rfl⟩
  have HNr := Lib.hid (show ∀ i, i < n → 0 ≤ N i ∧ N i ≤ 1000000000 from fun i hi => by
    rw [hN]
    show 0 ≤ (L.getD i 0) % 1000000001 ∧ (L.getD i 0) % 1000000001 ≤ 1000000000
    omega)
  have HNv := Lib.hid (show ∀ i x, L[i]? = some x → N i = x % 1000000001 from fun i x hx => by
    rw [hN]
    show (L.getD i 0) % 1000000001 = _
    rw [List.getD_eq_getElem?_getD, hx]
    rfl)
  have HSr := Lib.hid (fun k hk => smI_rng HNr.out hn k hk)
  have hs0 : smI N 0 = 0 := rfl
  clear hN
  go_wp2_with fail
  go_loopg [6, 7, 8, 9] n (fun gk v6 v7 s8 s9 wr => ∃ (k : Nat) (u : Nat → Rw) (X1 X2 : List Blk), k ≤ n ∧ gk = n - k ∧ s9 = .int .i64 k ∧ s8 = .int .i64 (smI N k) ∧ Hid (∀ j, j < k → (u j).fv = fvQ ((N j : Int) : Rat)) ∧ Hid (OwL 1 iEnc 3 v7 (ofF k N) X1) ∧ Hid (OwL 4 Rw.cs 35 v6 (ofF k u) X2) ∧ St w (X1 ++ X2) [⟨rwP k u, rwS k u⟩] wr)
  case atStart => exact ⟨0, fun _ => Rw.zero, [], [], Nat.zero_le _, rfl, rfl, rfl, Lib.hid (fun j h => absurd h (by omega)), Lib.hid OwL.nil, Lib.hid OwL.nil, K.rwNew 0⟩
  case round =>
    clear K
    obtain ⟨k, u, X1, X2, hk, rfl, rfl, rfl, HV, HW1, HW2, K⟩ := hrel
    by_cases hlt : k < n
    · obtain ⟨gb, goff, x, hA, hgb, hx, d0⟩ := HLr.out.atU hlt
      subst hA
      have e0 := (K.1.cell (p := ⟨gb, goff + k, none⟩) hgb).trans d0
      have hxr := HLd.out x (List.mem_of_getElem? hx)
      have hNk := HNv.out k x hx
      have hki : (k : Int) < (n : Int) := by omega
      have hk0 : (0 : Int) ≤ (k : Int) := by omega
      obtain ⟨F, hF⟩ : ∃ F, F = N k := ⟨_, rfl⟩
      have hFr := HNr.out k hlt
      have hst : smI N (k + 1) = smI N k + F := by rw [hF]; rfl
      rw [← hF] at hNk hFr
      have h1 : x.tmod 1000000001 = F := by rw [Int.tmod_eq_emod_of_nonneg hxr.1, hNk]
      have h2 : IntKind.u32.wrap F = F := u32_wrap (by omega)
      have h2' : IntKind.u32.wrap (x.tmod 1000000001) = F := by rw [h1, h2]
      have h3 : IntKind.i64.wrap F = F := IntWalk.i64_in _ (by omega)
      have h4 : IntKind.i64.wrap (smI N k + F) = smI N k + F := IntWalk.i64_in _ (by have := HSr.out k hk; omega)
      have HWo := Lib.hid (fun W => wof_any F 1 W (by omega) (by decide) (by decide))
      rw [divInt_1] at HWo
      have HF := Lib.hid hF
      have Hst := Lib.hid hst
      clear d0 hgb hx hNk hF hst hFr hxr
      go_wp2_with (at_builtin; refine K.app1 HW1.out iSized rfl _ _ 25 rfl _ 8 Try.underlying25 int_made rfl (by exact rfl) F _ rfl _ rfl (by exact rfl) (by rw [ofF_len]; omega) (by omega) ?_; intro v4 Y1 W4 ho4 K4; replace K := K4.swapW)
      refine (HWo.out _).mono ?_
      rintro e W' ⟨s8, A8, n8, c8, l8, t8, B8, m8, d8, k8, rfl, ⟨hra, hrb⟩, hs8, ⟨hfa, hfb⟩, hb⟩
      replace K := K.retF hb hra hrb hfa hfb
      clear hra hrb hfa hfb hb
      have HV2 := Lib.hid (show ∀ j, j < k + 1 → (putF u k ⟨s8, A8, n8, c8, l8, t8, B8, m8, d8, k8⟩ j).fv = fvQ ((N j : Int) : Rat) from fun j hj => by
        by_cases e : j = k
        · subst e; rw [putF_same, ← HF.out]; exact hs8.fv
        · rw [putF_other e]; exact HV.out j (by omega))
      clear hs8 HV
      go_wp2_with (at_builtin; refine K.app1 HW2.out rw_sized rfl _ _ 22 rfl _ 64 Try.underlying22 frac_made rfl (by exact rfl) (⟨s8, A8, n8, c8, l8, t8, B8, m8, d8, k8⟩ : Rw) _ rfl _ rfl (by exact rfl) (by rw [ofF_len]; omega) (by omega) ?_; intro v5 Y2 W5 ho5 K5)
      have HW3 := Lib.hid (show OwL 1 iEnc 3 v4 (ofF (k + 1) N) Y1 from by rw [ofF_succ, ← HF.out]; exact ho4)
      have HW4 := Lib.hid (show OwL 4 Rw.cs 35 v5 (ofF (k + 1) (putF u k ⟨s8, A8, n8, c8, l8, t8, B8, m8, d8, k8⟩)) Y2 from by rw [← ofF_put]; exact ho5)
      clear ho4 ho5
      go_roundg (n - (k + 1))
      case rel => exact ⟨k + 1, _, Y1, Y2, hlt, rfl, by go_num, by rw [Hst.out], HV2, HW3, HW4, (K5.swapW.rwAdd ⟨s8, A8, n8, c8, l8, t8, B8, m8, d8, k8⟩ (by repeat (first | with_reducible exact List.mem_cons_self | with_reducible apply List.mem_cons_of_mem)) (by repeat (first | with_reducible exact List.mem_cons_self | with_reducible apply List.mem_cons_of_mem)) (by repeat (first | with_reducible exact List.mem_cons_self | with_reducible apply List.mem_cons_of_mem))).less (by simp only [List.mem_cons, List.not_mem_nil, or_false, forall_eq_or_imp, forall_eq, true_or, or_true, and_self])⟩
      case measure => omega
    · have e : n = k := by omega
      subst e
      obtain ⟨A3, cap3, rfl, hg⟩ := HW1.out.rdI K (by omega)
      obtain ⟨A4, cap4, rfl, ha⟩ := HW2.out.rdF K.swapW (by repeat (first | with_reducible exact List.mem_cons_self | with_reducible apply List.mem_cons_of_mem)) (by omega)
      rw [ofF_congr HV.out] at ha
      replace ha : RdF wr wr.heap.size A4 n cap4 (shW n N) := ha
      have hcg := hg.caps
      have hca := ha.caps
      replace K := (((K.part (L' := []) (List.nil_sublist _)).less (D' := []) (fun _ h => by cases h)).addI hg).addF ha
      clear hg ha HW1 HW2 HV hlt hs0
      have hSr := HSr.out n (Nat.le_refl _)
      have HE1 := Lib.hid (shW_split HNr.out hn (zeL_right hn1 hn) (by unfold zeL; rw [List.length_replicate]) (zeL_few hn))
      go_wp2_with fail
      refine (wz_any n _ (by omega)).mono ?_
      rintro e W' ⟨A5, c5, rfl, ha, hb⟩
      replace K := (K.keep hb).addF ha
      clear ha hb
      go_wp2_with fail
      refine ((csplit_any (smI N n) _ _ _ _ _ _ (shW n N) (zeL n) _ ?qa ?qb (by omega) (by omega)).mono fun e w' h => h.known HE1.out shW_zero zeL_ok).mono ?_
      case qa => exact K.getF (by repeat (first | with_reducible exact List.mem_cons_self | with_reducible apply List.mem_cons_of_mem))
      case qb => exact K.getF (by repeat (first | with_reducible exact List.mem_cons_self | with_reducible apply List.mem_cons_of_mem))
      rintro e W' ⟨A6, n6, c6, A7, n7, c7, rfl, hg, ha, hb⟩
      replace K := ((K.keep hb).addI hg).addF ha
      clear hg ha hb
      go_wp2_with fail
      refine (rints_eq _ _ _ _ _ _ (ofF n N) _ ?qa ?qb).mono ?_
      case qa => exact K.rd (by repeat (first | with_reducible exact List.mem_cons_self | with_reducible apply List.mem_cons_of_mem))
      case qb => exact K.rd (by repeat (first | with_reducible exact List.mem_cons_self | with_reducible apply List.mem_cons_of_mem))
      rintro e W' ⟨rfl, hb⟩
      replace K := K.keep hb
      clear hb
      go_wp2_with fail
      refine (wz_any n _ (by omega)).mono ?_
      rintro e W' ⟨A8, c8, rfl, ha, hb⟩
      replace K := (K.keep hb).addF ha
      clear ha hb
      go_wp2_with fail
      refine (rsame_eq _ _ _ _ _ _ (zeL n) _ ?qa ?qb).mono ?_
      case qa => exact K.getF (by repeat (first | with_reducible exact List.mem_cons_self | with_reducible apply List.mem_cons_of_mem))
      case qb => exact K.getF (by repeat (first | with_reducible exact List.mem_cons_self | with_reducible apply List.mem_cons_of_mem))
      rintro e W' ⟨rfl, hb⟩
      replace K := K.keep hb
      clear hb
      by_cases hnn : (n2 : Int) = (n : Int)
      case neg =>
        have hnd : ((n2 : Int) != (n : Int)) = true := by simp [hnn]
        go_wp2_with fail
        go_ret
        exact ⟨rfl, K.1⟩
      have hnn' : n2 = n := by omega
      subst hnn'
      have hnd : ((n2 : Int) != (n2 : Int)) = false := by simp
      have HR := Lib.hid (fun W (h : Below w.heap.size w W) => mright_any A2 n2 cap2 m W (HM.out.up fE_lasts h))
      go_wp2_with fail
      refine (HR.out _ K.1).mono ?_
      rintro e W' ⟨rfl, hb⟩
      replace K := K.keep hb
      clear hb
      cases hr : rightM m
      · go_wp2_with fail
        go_ret
        exact ⟨rfl, K.1⟩
      have hE := shW_split HNr.out hn hr hlenM Hf.out
      have hC := shW_check HNr.out hn hr hlenM
      have H := checkC_zero hC
      rw [shW_len] at H
      have HE := Lib.hid hE
      have HO := Lib.hid H
      clear hE hC H hr hnn
      go_wp2_with fail
      refine (csplit_any (smI N n2) _ _ _ _ _ _ (shW n2 N) m _ ?qa ?qb (by omega) (by omega)).mono ?_
      case qa => exact K.getF (by repeat (first | with_reducible exact List.mem_cons_self | with_reducible apply List.mem_cons_of_mem))
      case qb => exact HM.out.up fE_lasts K.1
      rintro e W9 ⟨A10, n10, c10, g, A11, n11, c11, a, rfl, ⟨hg, ha⟩, h0, h1, hb⟩
      rw [HE.out]
      obtain ⟨hao, hP⟩ := h1 HE.out
      have hSp := SpC.of shW_len hao hP
      have hlg := hg.len
      obtain rfl : n10 = n2 := by rw [← hlg, hSp.lenG]
      have HG := Lib.hid (fun i x (hi : i < n10) hx => shW_got HO.out hSp hi (x := x) hx)
      replace K := (K.keep hb).addI hg
      have hcg2 := hg.caps
      clear h0 h1 hao hP hSp hlg hg ha hb HE HO
      have Kb := K
      go_wp2_with fail
      go_loopg [17] n10 (fun gk s17 wr => ∃ k : Nat, k ≤ n10 ∧ gk = n10 - k ∧ s17 = .int .i64 k ∧ St w [] [⟨rdP A10 n10 c10 g, allS W9⟩] wr ∧ RdI wr wr.heap.size A3 n10 cap3 (ofF n10 N))
      case atStart => exact ⟨0, Nat.zero_le _, rfl, rfl, K.less (by simp only [List.mem_cons, List.not_mem_nil, or_false, forall_eq_or_imp, forall_eq, true_or, or_true, and_self]), K.rd (by repeat (first | with_reducible exact List.mem_cons_self | with_reducible apply List.mem_cons_of_mem))⟩
      case round =>
        clear K
        obtain ⟨k, hk, rfl, rfl, K, hW⟩ := hrel
        by_cases hlt : k < n10
        · obtain ⟨b1, o1, gv, rfl, hb1, hg1, z0⟩ := (show RdI wr wr.heap.size A10 n10 c10 g from K.rd (by repeat (first | with_reducible exact List.mem_cons_self | with_reducible apply List.mem_cons_of_mem))).atI hlt
          obtain ⟨b2, o2, wv, rfl, hb2, hw1, z1⟩ := hW.atI hlt
          obtain ⟨b3, off3, A9, n9, c9, B9, m9, d9, x, hA2, hb3, hx3, ⟨z2, -, -, -⟩, -, -⟩ := HM.out.atF hlt
          subst hA2
          have z3 := (K.1.cell (p := ⟨b3, off3 + k * 4, none⟩) hb3).trans z2
          have ewv : wv = N k := by rw [ofF_get hlt] at hw1; exact (Option.some.inj hw1).symm
          obtain ⟨G, hG, q1, q2, q3⟩ := HG.out k x hlt hx3
          have egv : gv = G := by rw [hg1] at hG; exact Option.some.inj hG
          subst egv
          have hNk := HNr.out k hlt
          rw [← ewv] at q1 q2 q3 hNk
          have hki : (k : Int) < (n10 : Int) := by omega
          have hk0 : (0 : Int) ≤ (k : Int) := by omega
          have w1 : IntKind.i64.wrap (wv - 1) = wv - 1 := IntWalk.i64_in _ (by omega)
          have w2 : IntKind.i64.wrap (wv + 1) = wv + 1 := IntWalk.i64_in _ (by omega)
          have t1 : decide (gv < wv - 1) = false := decide_eq_false (by omega)
          have t2 : decide (wv + 1 < gv) = false := decide_eq_false (by omega)
          obtain ⟨xs, hxs⟩ : ∃ xs, xs = x.s := ⟨_, rfl⟩
          rw [← hxs] at z3 q3
          clear hw1 hg1 hG ewv hx3 z2 hxs hb1 hb2 hb3 hNk q1 q2
          have hW2 := Lib.hid hW
          clear hW
          by_cases hs : xs = 0
          · have e1 : gv = wv := q3 hs
            subst hs
            subst e1
            have t3 : ((0 : Int) == 0) = true := rfl
            have t4 : (gv != gv) = false := by simp
            clear q3
            go_wp2_with fail
            go_quiet (fail)
            go_wp2
            go_roundg (n10 - (k + 1))
            case rel => exact ⟨k + 1, hlt, rfl, by go_num, K.drewN _, hW2.out.drewN (flat_lasts _) _⟩
            case measure => omega
          · have t3 : (xs == 0) = false := by simp [hs]
            clear q3
            go_wp2_with fail
            go_quiet (fail)
            go_wp2
            go_roundg (n10 - (k + 1))
            case rel => exact ⟨k + 1, hlt, rfl, by go_num, K.drewN _, hW2.out.drewN (flat_lasts _) _⟩
            case measure => omega
        · have e : n10 = k := by omega
          subst e
          go_wp2_with fail
          go_ret
          exact ⟨rfl, K.1⟩
end Go.Proofs.Ytinfcngkbdiddaa
