/- Laws and walks; conditions stand in each theorem. -/
import Derived.Test.YtdlcglndhhndpaaGreatP29
import Derived.Test.YtdlcglndhhndpaaGreatP10
set_option linter.unusedSimpArgs false
set_option linter.unusedVariables false
set_option maxHeartbeats 8000000
set_option maxRecDepth 100000
namespace Go.Proofs.YtdlcglndhhndpaaGreat
open Go.RowKit
theorem ZQ2 {p : Prop} (h : p := by
 first
  | (go_loopg [32] m (fun gk s32 wr => ∃ (i : Nat) (v : Nat → Rw) (x : Nat → Rat), i ≤ m ∧ gk = m - i ∧ s32 = .int .i64 i ∧ Hid (∀ u, u < N → isQ (v u) (x u)) ∧ Hid (PutX G.own (fun i => 0 - G.a i s) N 0 i x0 x) ∧ St w0 ((g, rwA N v [], 50) :: (Ld ++ L1)) (⟨rwP N v, rwS N v⟩ :: (Dd ++ D)) wr)
     case atStart => exact ⟨0, v1, x0, Nat.zero_le _, rfl, rfl, HV1, Lib.hid (PutX.zero _ _ _ _ _), K⟩
     case round =>
      clear K HV1
      obtain ⟨i, v2, x2, hj, rfl, rfl, HV2, HP, K⟩ := hrel
      by_cases hlt : i < m
      · have hji : (i : Int) < (m : Int) := by omega
        have hj0 : (0 : Int) ≤ (i : Int) := by omega
        obtain ⟨vb, vo, hA, hvb, hcc⟩ := RdI.cellAt (HOR.out _ _ _ (by repeat (first | exact List.sublist_append_left _ _ | apply List.Sublist.cons)) K).2 hlt
        subst hA
        rw [gi_ofF hlt] at hcc
        by_cases hge : G.own i < N
        · have hgd : decide (G.own i < N) = true := decide_eq_true hge
          have hui : ((G.own i : Nat) : Int) < (N : Int) := by omega
          have hu0 : (0 : Int) ≤ ((G.own i : Nat) : Int) := by omega
          obtain ⟨hb, hc, rb, cp, x, hx, hcap1, hcap2, hW⟩ := HD.out.elem (L := ((g, rwA N v2 [], 50) :: (Ld ++ L1))) (by repeat (first | exact List.sublist_append_left _ _ | apply List.Sublist.cons)) hlt HsN.out
          obtain ⟨R, hRm, -⟩ := HD.out.flag (w0 := w0) (L := ((g, rwA N v2 [], 50) :: (Ld ++ L1))) (by repeat (first | exact List.sublist_append_left _ _ | apply List.Sublist.cons))
          have K := (hW _ _ K).2.2 (fun x hx => mem_dd (A := [_]) hx)
          have HX := Lib.hid hx
          have HP2 := Lib.hid (HP.out.put (v := G.own i) (fun k hk e => by have := HOk.out.io k i (by omega) hlt e; omega) (by omega))
          obtain ⟨u, hu⟩ : ∃ u, u = G.own i := ⟨_, rfl⟩
          have Hum := Lib.hid hge
          rw [← hu] at HP2 hcc hui hu0 hgd Hum hge
          have HSA := Lib.hid (fun V D (h : St w0 ((g, rwA N v2 [], 50) :: (Ld ++ L1)) D V) => (show (V.cell? ⟨db, 1, none⟩ = some (.slice (some ⟨hb, 0, none⟩) m hc) ∧ V.cell? ⟨hb, i * 5 + 4, none⟩ = some (.slice (some ⟨rb, 0, none⟩) N cp)) ∧ (V.cell? ⟨rb, s * 4, none⟩ = some (.int .i64 x.s) ∧ V.cell? ⟨rb, s * 4 + 1, none⟩ = some (.slice x.A x.n x.c) ∧ V.cell? ⟨rb, s * 4 + 2, none⟩ = some (.int .i64 x.t) ∧ V.cell? ⟨rb, s * 4 + 3, none⟩ = some (.slice x.B x.m x.d)) from ⟨(hW _ _ h).1, (hW _ _ h).2.1⟩))
          have HNu := Lib.hid (fun V L5 D5 (h : St w0 L5 D5 V) => (pzero_any V).mono fun e W6 ⟨s7, A7, n7, c7, l7, t7, B7, m7, d7, k7, he, ⟨hra, hrb⟩, ho, ⟨hfa, hfb⟩, hbl⟩ => (⟨⟨s7, A7, n7, c7, l7, t7, B7, m7, d7, k7⟩, he, Lib.hid (⟨ho, fitsF_zero⟩ : isQ ⟨s7, A7, n7, c7, l7, t7, B7, m7, d7, k7⟩ 0), h.retF hbl hra hrb hfa hfb⟩ : ∃ z : Rw, e = Ending.returned (.agg #[.int .i64 z.s, .slice z.A z.n z.c, .int .i64 z.t, .slice z.B z.m z.d]) ∧ Hid (isQ z 0) ∧ St w0 L5 (⟨rdP z.B z.m z.d z.k, rdS z.B z.m⟩ :: ⟨rdP z.A z.n z.c z.l, rdS z.A z.n⟩ :: D5) W6))
          have HSu := Lib.hid (fun V (z : Rw) (hz : isQ z 0) (h : St w0 ((g, rwA N v2 [], 50) :: (Ld ++ L1)) (⟨rdP z.B z.m z.d z.k, rdS z.B z.m⟩ :: ⟨rdP z.A z.n z.c z.l, rdS z.A z.n⟩ :: ⟨rdP x.B x.m x.d x.k, rdS x.B x.m⟩ :: ⟨rdP x.A x.n x.c x.l, rdS x.A x.n⟩ :: ⟨rwP N v2, rwS N v2⟩ :: (Dd ++ D)) V) => callSub h hz HX.out ZMB ZMB ZMB ZMB)
          have HGo := Lib.hid (fun V (z y : Rw) (er : Int) (Gs : Hid (SubS 0 (G.a i s) y er)) (h : St w0 ((g, rwA N v2 [], 50) :: (Ld ++ L1)) (⟨rdP y.B y.m y.d y.k, rdS y.B y.m⟩ :: ⟨rdP y.A y.n y.c y.l, rdS y.A y.n⟩ :: ⟨rdP z.B z.m z.d z.k, rdS z.B z.m⟩ :: ⟨rdP z.A z.n z.c z.l, rdS z.A z.n⟩ :: ⟨rdP x.B x.m x.d x.k, rdS x.B x.m⟩ :: ⟨rdP x.A x.n x.c x.l, rdS x.A x.n⟩ :: ⟨rwP N v2, rwS N v2⟩ :: (Dd ++ D)) V) => callNeg hRm HX.out.2 Gs.out h)
          have hcap3 := (K.rd (A := x.A) (n := x.n) (cap := x.c) (l := x.l) ZMB).caps
          have hcap4 := (K.rd (A := x.B) (n := x.m) (cap := x.d) (l := x.k) ZMB).caps
          clear hW hx HP hvb hRm hu
          go_upto_region 9 with fail
          have K0 := K.drew
          have s0 := HSA.out _ _ K0
          clear K
          refine wp_region_T 22 (fun V => (V.cell? ⟨db, 1, none⟩ = some (.slice (some ⟨hb, 0, none⟩) m hc) ∧ V.cell? ⟨hb, i * 5 + 4, none⟩ = some (.slice (some ⟨rb, 0, none⟩) N cp)) ∧ (V.cell? ⟨rb, s * 4, none⟩ = some (.int .i64 x.s) ∧ V.cell? ⟨rb, s * 4 + 1, none⟩ = some (.slice x.A x.n x.c) ∧ V.cell? ⟨rb, s * 4 + 2, none⟩ = some (.int .i64 x.t) ∧ V.cell? ⟨rb, s * 4 + 3, none⟩ = some (.slice x.B x.m x.d))) (by kernel_rfl) s0 (fun hSh => ?_)
          clear s0
          refine wpAnyT.tk 0 rfl ?_
          refine wpAnyT.tk 1 rfl ?_
          refine wpAnyT.tk 2 rfl ?_
          refine wpAnyT.tk 3 rfl ?_
          refine wpAnyT.tk 4 rfl ?_
          refine wpAnyT.tk 6 rfl ?_
          refine wpAnyT.tk 7 rfl ?_
          refine wpAnyT.tk 8 rfl ?_
          refine wpAnyT.tk 9 rfl ?_
          refine wpAnyT.tk 10 rfl ?_
          refine wpAnyT.tk 11 rfl ?_
          refine wpAnyT.tk 12 rfl ?_
          refine wpAnyT.tk 13 rfl ?_
          refine wpAnyT.tk 14 rfl ?_
          refine wpAnyT.tk 15 rfl ?_
          refine wpAnyT.tk 16 rfl ?_
          refine wpAnyT.on 5 rfl fun KK hKK => ?_
          go_simp
          go_at_call 112; refine (HNu.out _ _ _ K0).mono ?_; rintro e w3 ⟨z0, rfl, g0, k3⟩
          go_wp2_with fail
          refine hKK.out _ _ ?_ (fun hSh => ?_)
          · exact HSA.out _ _ k3
          clear hKK KK
          refine ZPT ?_
          refine wpAnyT.on 17 rfl fun KK hKK => ?_
          go_simp
          go_at_call 42; refine (HSu.out _ _ g0.out k3).mono ?_; rintro e w4 ⟨y1, er, rfl, gy1, k4⟩
          go_wp2_with fail
          refine hKK.out _ _ ?_ (fun hSh => ?_)
          · exact HSA.out _ _ k4
          clear hKK KK
          refine ZPT ?_
          refine wpAnyT.tk 18 rfl ?_
          refine wpAnyT.tk 19 rfl ?_
          refine wpAnyT.on 20 rfl fun KK hKK => ?_
          go_simp
          go_at_call 119; refine (HGo.out _ _ _ _ gy1 k4).mono ?_; rintro e w5 ⟨z, zq, rfl, gz, k5⟩
          go_wp2_with fail
          refine hKK.out _ _ ?_ (fun hSh => ?_)
          · exact HSA.out _ _ k5
          clear hKK KK
          refine ZPT ?_
          refine wpAnyT.tk 21 rfl ?_
          refine wpAnyT.last rfl (by kernel_rfl) ?_
          have HV3 := Lib.hid (show ∀ k, k < N → isQ (putF v2 u z k) (putF x2 u (0 - G.a i s) k) from fun k hk => by
           by_cases e : k = u
           · rw [e, putF_same, putF_same, ← gz.out.2]; exact gz.out.1
           · rw [putF_other e, putF_other e]; exact HV2.out k hk)
          clear K0 k3 k4 HSA HNu HSu HGo hSh gz gy1 g0 HX HV2
          refine k5.storeR (v := v2) (J := []) (t := 50) rfl rfl _ _ _ rfl g u N z rfl rfl Hum.out (Upd.head _) frac_size ?_
          intro W8 K8
          clear k5
          have HK := Lib.hid ((K8.rwPut (v := v2) z u ZMB ZMB ZMB).lessS (D' := ⟨rwP N (putF v2 u z), rwS N (putF v2 u z)⟩ :: (Dd ++ D)) (by repeat (first | with_reducible exact List.Sublist.refl _ | with_reducible apply List.Sublist.cons_cons | with_reducible apply List.Sublist.cons)))
          clear K8
          go_wp2_with fail
          go_roundg (m - (i + 1))
          case rel => exact ⟨i + 1, _, _, hlt, rfl, by go_num, HV3, HP2, HK.out⟩
          case measure => omega
        · have hgd : decide (G.own i < N) = false := decide_eq_false hge
          have hgi : ¬ ((G.own i : Nat) : Int) < (N : Int) := by omega
          have HP2 := Lib.hid (HP.out.skip (fun h => hge (by omega)))
          clear HP hvb
          go_wp2_with fail
          go_roundg (m - (i + 1))
          case rel => exact ⟨i + 1, _, _, hlt, rfl, by go_num, HV2, HP2, K⟩
          case measure => omega
      · have e : i = m := by omega
        have HE := Lib.hid (show ConP w0 Ld L1 Dd D N (xR m G s) (.returned (.slice (some ⟨g, 0, none⟩) N N)) wr from ⟨g, v2, rfl, Lib.hid (HEND.out v2 x2 HV2.out (by have := HP.out; rw [e] at this; exact this)), K⟩)
        clear K HP HV2 HEND e
        go_wp2_with fail
        go_ret
        exact HE.out)
  | fail) : p := h
section
variable {m N db : Nat} {b : Bool} {G : Dc} {Ld : List Blk} {Dd : List Hl} {w0 W : World} {L1 : List Blk} {D : List Hl}
theorem ray_any (HL : DicL m N db b G Ld Dd) (K : St w0 (Ld ++ L1) (Dd ++ D) W) (hOk : G.Ok m N) (hm : m ≤ 1000) (hN : N ≤ 1000) {s : Nat} (hs : s < N) :
 Calls Tryz.prog 65 #[.pointer (some ⟨db, 0, none⟩), .int .i64 N, .int .i64 s] W (ConP w0 Ld L1 Dd D N (xR m G s)) := by
 have HD := Lib.hid HL
 have HOk := Lib.hid hOk
 have HsN := Lib.hid hs
 have hsi : (s : Int) < (N : Int) := by omega
 have hs0 : (0 : Int) ≤ (s : Int) := by omega
 clear hOk HL hs
 go_enter Tryz.func65, Tryz.ntmps65
 go_wp2_with fail
 refine (zeros_any N w0 W _ _ K hN).mono ?_
 rintro e W1 ⟨g, v, rfl, hv, K1⟩
 clear K
 have K := K1
 clear K1
 obtain ⟨A1, k1, hown⟩ := HD.out.ownA (w0 := w0) hm
 have HOR := Lib.hid hown
 obtain ⟨A2, k2, hfree⟩ := HD.out.freeA (w0 := w0) hN
 have co := (hown _ _ _ (by repeat (first | exact List.sublist_append_left _ _ | apply List.Sublist.cons)) K).1
 have cf := (hfree _ _ _ (by repeat (first | exact List.sublist_append_left _ _ | apply List.Sublist.cons)) K).1
 obtain ⟨vb, vo, hA, hvb, hcc⟩ := RdI.cellAt (hfree _ _ _ (by repeat (first | exact List.sublist_append_left _ _ | apply List.Sublist.cons)) K).2 HsN.out
 subst hA
 rw [gi_ofF HsN.out] at hcc
 have hcp1 := (hfree _ _ _ (by repeat (first | exact List.sublist_append_left _ _ | apply List.Sublist.cons)) K).2.caps
 clear hown hvb hfree
 obtain ⟨x0, hx0⟩ : ∃ x0 : Nat → Rat, x0 = fun u => if G.free s = u then 1 else 0 := ⟨_, rfl⟩
 have HX0 := Lib.hid hx0
 have HEND := Lib.hid (fun (v : Nat → Rw) (x : Nat → Rat) (h1 : ∀ u, u < N → isQ (v u) (x u)) (h2 : PutX G.own (fun i => 0 - G.a i s) N 0 m x0 x) => (show ∀ u, u < N → isQ (v u) (xR m G s u) from fun u hu => by
  have h3 := h1 u hu
  rw [h2 u hu, Nat.zero_add] at h3
  unfold xR
  by_cases e0 : G.free s = u
  · rw [if_pos e0]
    rw [idxP_out (fun i hi e2 => HOk.out.ne i s hi HsN.out (by rw [e0, e2]))] at h3
    rw [hx0] at h3
    simp only [if_pos e0] at h3
    exact h3
  · rw [if_neg e0]
    cases e2 : idxP G.own u m with
    | some j => rw [e2] at h3; exact h3
    | none =>
     rw [e2, hx0] at h3
     simp only [if_neg e0] at h3
     exact h3))
 clear hx0
 by_cases hge : G.free s < N
 · obtain ⟨u, hu⟩ : ∃ u, u = G.free s := ⟨_, rfl⟩
   have hgd : decide (G.free s < N) = true := decide_eq_true hge
   have hui : (u : Int) < (N : Int) := by omega
   have hu0 : (0 : Int) ≤ (u : Int) := by omega
   have HNu := Lib.hid (fun V L5 D5 (h : St w0 L5 D5 V) => (pnumber_any 1 V (by decide)).mono fun e W6 ⟨s7, A7, n7, c7, l7, t7, B7, m7, d7, k7, he, ⟨hra, hrb⟩, ho, ⟨hfa, hfb⟩, hbl⟩ => (⟨⟨s7, A7, n7, c7, l7, t7, B7, m7, d7, k7⟩, he, Lib.hid (⟨ho, by decide +kernel⟩ : isQ ⟨s7, A7, n7, c7, l7, t7, B7, m7, d7, k7⟩ 1), h.retF hbl hra hrb hfa hfb⟩ : ∃ z : Rw, e = Ending.returned (.agg #[.int .i64 z.s, .slice z.A z.n z.c, .int .i64 z.t, .slice z.B z.m z.d]) ∧ Hid (isQ z 1) ∧ St w0 L5 (⟨rdP z.B z.m z.d z.k, rdS z.B z.m⟩ :: ⟨rdP z.A z.n z.c z.l, rdS z.A z.n⟩ :: D5) W6))
   have HV0 := Lib.hid (show ∀ z : Rw, isQ z 1 → ∀ i, i < N → isQ (putF v u z i) (x0 i) from fun z hz i hi => by
    rw [HX0.out]
    by_cases e : i = u
    · rw [e, putF_same]
      simp only [hu, if_true]
      exact hz
    · rw [putF_other e]
      show isQ (v i) (if G.free s = i then 1 else 0)
      rw [if_neg (by omega)]
      exact hv.out i hi)
   have Hum := Lib.hid (show u < N by omega)
   rw [← hu] at hcc hgd hge
   clear hu hv HX0
   go_wp2_with (first
    | (go_at_call 112; refine (HNu.out _ _ _ K).mono ?_; rintro e w3 ⟨z, rfl, gz, K3⟩)
    | (refine K3.storeR rfl rfl _ _ _ rfl g u N z rfl rfl Hum.out ZUA frac_size ?_; clear co cf; intro W8 K8; have co := (HOR.out _ _ _ (by repeat (first | exact List.sublist_append_left _ _ | apply List.Sublist.cons)) K8).1))
   have HV1 := Lib.hid (HV0.out z gz.out)
   replace K := ((K8.rwPut (v := v) z u ZMB ZMB ZMB).lessS (D' := ⟨rwP N (putF v u z), rwS N (putF v u z)⟩ :: (Dd ++ D)) (by repeat (first | with_reducible exact List.Sublist.refl _ | with_reducible apply List.Sublist.cons_cons | with_reducible apply List.Sublist.cons)))
   obtain ⟨v1, hv1⟩ : ∃ v1, v1 = putF v u z := ⟨_, rfl⟩
   rw [← hv1] at K HV1
   clear hv1 K3 K8 HV0 HNu gz hcc co
   exact ZQ2
 · have hgd : decide (G.free s < N) = false := decide_eq_false hge
   have hgi : ¬ ((G.free s : Nat) : Int) < (N : Int) := by omega
   have HV1 := Lib.hid (show ∀ i, i < N → isQ (v i) (x0 i) from fun i hi => by
    rw [HX0.out]
    show isQ (v i) (if G.free s = i then 1 else 0)
    rw [if_neg (by omega)]
    exact hv.out i hi)
   obtain ⟨v1, hv1⟩ : ∃ v1, v1 = v := ⟨_, rfl⟩
   rw [← hv1] at K HV1
   clear hv1 hv HX0
   go_wp2_with fail
   clear co cf
   exact ZQ2
end
section
variable {P : Program} {ops : Array Oper} {Q : Exit → Act → World → Prop} {md : Region.Mode} {S : World → Prop} {p : Nat}
def wpAnyP (P : Program) (md : Region.Mode) (ops : Array Oper) (Q : Exit → Act → World → Prop) (S : World → Prop) (p : Nat) : Nat → Array Bool → Act → World → Prop
 | 0, listed, a, w => Region.ready md ops listed = [] ∧ Q .normal a w
 | fuel + 1, listed, a, w => (Region.ready md ops listed = [] → Q .normal a w) ∧ ∀ i ∈ Region.ready md ops listed, wpOp P ops Q i (fun a' w' => ((listed.setIfInBounds i true).getD p true = false → S w') ∧ wpAnyP P md ops Q S p fuel (listed.setIfInBounds i true) a' w') a w
theorem wpAnyP.any : ∀ (fuel : Nat) (listed : Array Bool) (a : Act) (w : World), wpAnyP P md ops Q S p fuel listed a w → wpAny P md ops Q fuel listed a w
 | 0, _, _, _, h => h
 | fuel + 1, _, _, _, h => ⟨h.1, fun i hi => wpOp_mono (fun a' w' h' => wpAnyP.any fuel _ a' w' h'.2) (h.2 i hi)⟩
theorem wpAnyP.firstU {i : Nat} {oi : Oper} {v : Value} (hi : ops[i]? = some oi) (hin : i ≠ p)
 (hsel : ∀ (j : Nat) (o : Oper) cs b, ops[j]? = some o → o.op ≠ .select cs b) (hQ : ∀ c a w, Q (.panic c) (a.put oi.dst v) w → Q (.panic c) a w) (fuel : Nat) :
 ∀ (listed : Array Bool) (a : Act) (w : World), (∀ j oj, ops[j]? = some oj → j ≠ i → listed.getD j true = false → (∀ e ∈ oj.after, Region.binds md e = true → e.on ≠ i) → oi.apart ops oj = true) →
  i ∈ Region.ready md ops listed → YieldsIf P ops (fun _ => True) oi v a → (listed.getD p true = false → S w) → wpAnyP P md ops Q S p fuel (listed.setIfInBounds i true) (a.put oi.dst v) w → wpAnyP P md ops Q S p (fuel + 1) listed a w := by
 induction fuel with
 | zero =>
  intro listed a w _ hr hy hS H
  refine ⟨(fun h => by rw [h] at hr; cases hr), fun j hj => ?_⟩
  by_cases hji : j = i
  · subst hji
    exact hy.wpOp hi trivial ⟨fun hl => hS (by rw [getD_set_ne true hin] at hl; exact hl), H⟩
  · have h1 := ready_mono (i := i) hj hji
    rw [H.1] at h1
    cases h1
 | succ fuel ih =>
  intro listed a w hfree hr hy hS H
  refine ⟨(fun h => by rw [h] at hr; cases hr), fun j hj => ?_⟩
  by_cases hji : j = i
  · subst hji
    exact hy.wpOp hi trivial ⟨fun hl => hS (by rw [getD_set_ne true hin] at hl; exact hl), H⟩
  obtain ⟨hjun, oj, hoj, hall⟩ := mem_ready.1 hj
  have hiun := getD_flip (mem_ready.1 hr).1
  have hno : ∀ e ∈ oj.after, Region.binds md e = true → e.on ≠ i := fun e he hb heq => by
   exact ZQ108
  have h2 := wpOp_putIf hoj (hfree j oj hoj hji hjun hno) (fun cs b => hsel i oi cs b hi) (fun cs b => hsel j oj cs b hoj) hQ hy (H.2 j (ready_mono hj hji))
  refine wpOp_mono (fun a' w' h3 => ?_) h2
  have hS' : (listed.setIfInBounds j true).getD p true = false → S w' := fun hl => h3.2.1 (by
   rw [Array.setIfInBounds_comm _ _ (Ne.symm hji), getD_set_ne true hin]
   exact hl)
  refine ⟨hS', ih (listed.setIfInBounds j true) a' w' (fun k ok hk hki hun hno' => ?_) (ready_mono hr (Ne.symm hji)) h3.1 hS' ?_⟩
  · refine hfree k ok hk hki ?_ hno'
    by_cases hjk : j = k
    · rw [← hjk]; exact hjun
    · rw [getD_set_ne true hjk] at hun
      exact hun
  · rw [Array.setIfInBounds_comm _ _ hji]
    exact h3.2.2
theorem wpAnyP.first {i : Nat} {oi : Oper} {v : Value} (hi : ops[i]? = some oi) (hin : i ≠ p) (hwait : ∀ on, ops[p]? = some on → ∃ e ∈ on.after, Region.binds md e = true ∧ e.on = i)
 (hsel : ∀ (j : Nat) (o : Oper) cs b, ops[j]? = some o → o.op ≠ .select cs b) (hQ : ∀ c a w, Q (.panic c) (a.put oi.dst v) w → Q (.panic c) a w) (fuel : Nat) :
 ∀ (listed : Array Bool) (a : Act) (w : World), (∀ j oj, ops[j]? = some oj → j ≠ i → listed.getD j true = false → (∀ e ∈ oj.after, Region.binds md e = true → e.on ≠ i) → oi.apart ops oj = true) →
  i ∈ Region.ready md ops listed → YieldsIf P ops S oi v a → S w → listed.getD p true = false → wpAnyP P md ops Q S p fuel (listed.setIfInBounds i true) (a.put oi.dst v) w → wpAnyP P md ops Q S p (fuel + 1) listed a w := by
 induction fuel with
 | zero =>
  intro listed a w _ hr hy hS hp H
  exact ZQ42
 | succ fuel ih =>
  intro listed a w hfree hr hy hS hp H
  refine ⟨(fun h => by rw [h] at hr; cases hr), fun j hj => ?_⟩
  by_cases hji : j = i
  · subst hji
    exact hy.wpOp hi hS ⟨fun _ => hS, H⟩
  obtain ⟨hjun, oj, hoj, hall⟩ := mem_ready.1 hj
  have hiun := getD_flip (mem_ready.1 hr).1
  have hno : ∀ e ∈ oj.after, Region.binds md e = true → e.on ≠ i := fun e he hb heq => by
   exact ZQ108
  have hjp : j ≠ p := fun e => by
   subst e
   obtain ⟨e, he, hb, heq⟩ := hwait oj hoj
   exact hno e he hb heq
  have h2 := wpOp_putIf hoj (hfree j oj hoj hji hjun hno) (fun cs b => hsel i oi cs b hi) (fun cs b => hsel j oj cs b hoj) hQ hy (H.2 j (ready_mono hj hji))
  refine wpOp_mono (fun a' w' h3 => ?_) h2
  have hp' : (listed.setIfInBounds j true).getD p true = false := by
   rw [getD_set_ne true hjp]
   exact hp
  have hS' := h3.2.1 (by
   rw [Array.setIfInBounds_comm _ _ (Ne.symm hji), getD_set_ne true hin]
   exact hp')
  refine ⟨fun _ => hS', ih (listed.setIfInBounds j true) a' w' (fun k ok hk hki hun hno' => ?_) (ready_mono hr (Ne.symm hji)) h3.1 hS' hp' ?_⟩
  · refine hfree k ok hk hki ?_ hno'
    by_cases hjk : j = k
    · rw [← hjk]; exact hjun
    · rw [getD_set_ne true hjk] at hun
      exact hun
  · rw [Array.setIfInBounds_comm _ _ hji]
    exact h3.2.2
theorem wpAnyP.take {i : Nat} {oi : Oper} {v : Value} {fuel : Nat} {listed : Array Bool} {a : Act} {w : World} (hi : ops[i]? = some oi) (hB : (decide (i ≠ p) && waitsB md ops p i && Region.noSelect ops && Region.free md ops listed i && (Region.ready md ops listed).contains i && (listed.getD p true == false)) = true)
 (hQ : ∀ c a w, Q (.panic c) (a.put oi.dst v) w → Q (.panic c) a w) (hy : YieldsIf P ops S oi v a) (hS : S w) (h : wpAnyP P md ops Q S p fuel (listed.setIfInBounds i true) (a.put oi.dst v) w) : wpAnyP P md ops Q S p (fuel + 1) listed a w := by
 simp only [Bool.and_eq_true, decide_eq_true_eq, beq_iff_eq] at hB
 obtain ⟨⟨⟨⟨⟨h1, h2⟩, h3⟩, h4⟩, h5⟩, h6⟩ := hB
 refine wpAnyP.first hi h1 (fun on hon => ?_) (Region.noSelect_spec h3) hQ fuel listed a w (Region.free_spec hi h4) (by simpa using h5) hy hS h6 h
 unfold waitsB at h2
 rw [hon] at h2
 obtain ⟨e, he, hb⟩ := Array.any_eq_true'.1 h2
 rw [Bool.and_eq_true, beq_iff_eq] at hb
 exact ⟨e, he, hb⟩
theorem wpAnyP.takeU {i : Nat} {oi : Oper} {v : Value} {fuel : Nat} {listed : Array Bool} {a : Act} {w : World} (hi : ops[i]? = some oi) (hB : (decide (i ≠ p) && Region.noSelect ops && Region.free md ops listed i && (Region.ready md ops listed).contains i) = true)
 (hQ : ∀ c a w, Q (.panic c) (a.put oi.dst v) w → Q (.panic c) a w) (hy : YieldsIf P ops (fun _ => True) oi v a) (hS : listed.getD p true = false → S w) (h : wpAnyP P md ops Q S p fuel (listed.setIfInBounds i true) (a.put oi.dst v) w) : wpAnyP P md ops Q S p (fuel + 1) listed a w := by
 simp only [Bool.and_eq_true, decide_eq_true_eq] at hB
 obtain ⟨⟨⟨h1, h3⟩, h4⟩, h5⟩ := hB
 exact wpAnyP.firstU hi h1 (Region.noSelect_spec h3) hQ fuel listed a w (Region.free_spec hi h4) (by simpa using h5) hy hS h
theorem wpAnyP.takeF {i : Nat} {oi : Oper} {v : Value} {fuel : Nat} {listed : Array Bool} {a : Act} {w : World} (hi : ops[i]? = some oi) (hB : (decide (i ≠ p) && Region.noSelect ops && Region.free md ops listed i && (Region.ready md ops listed).contains i && (listed.getD p true == true)) = true)
 (hQ : ∀ c a w, Q (.panic c) (a.put oi.dst v) w → Q (.panic c) a w) (hy : YieldsIf P ops (fun _ => True) oi v a) (h : wpAnyP P md ops Q S p fuel (listed.setIfInBounds i true) (a.put oi.dst v) w) : wpAnyP P md ops Q S p (fuel + 1) listed a w := by
 rw [Bool.and_eq_true] at hB
 obtain ⟨h1, h2⟩ := hB
 rw [beq_iff_eq] at h2
 exact wpAnyP.takeU hi h1 hQ hy (fun e => by rw [h2] at e; cases e) h
theorem wpAnyP.oneF {i : Nat} {o : Oper} {fuel : Nat} {listed : Array Bool} {a : Act} {w : World} (ho : ops[i]? = some o) (hg : o.guard = none) (hB : (decide (Region.ready md ops listed = [i]) && ((listed.setIfInBounds i true).getD p true == true)) = true)
 (h : ∀ K : Act → World → Prop, Hid (∀ a' w', wpAnyP P md ops Q S p fuel (listed.setIfInBounds i true) a' w' → K a' w') → o.wp P a w K Q) : wpAnyP P md ops Q S p (fuel + 1) listed a w := by
 rw [Bool.and_eq_true, beq_iff_eq] at hB
 have hR := of_decide_eq_true hB.1
 refine ⟨(fun h0 => by rw [hR] at h0; cases h0), fun j hj => ?_⟩
 rw [hR, List.mem_singleton] at hj
 subst hj
 have hw : Region.wanted o (yielded ops a.tmps) = true := by simp [Region.wanted, hg]
 unfold wpOp
 simp only [ho, hw, if_true]
 exact Or.inl (h _ (Lib.hid fun a' w' hW => ⟨(fun e => by rw [hB.2] at e; cases e), hW⟩))
theorem wpAnyP.one {i : Nat} {o : Oper} {fuel : Nat} {listed : Array Bool} {a : Act} {w : World} (ho : ops[i]? = some o) (hg : o.guard = none) (hB : decide (Region.ready md ops listed = [i]) = true)
 (h : ∀ K : Act → World → Prop, Hid (∀ a' w', ((listed.setIfInBounds i true).getD p true = false → S w') → (((listed.setIfInBounds i true).getD p true = false → S w') → wpAnyP P md ops Q S p fuel (listed.setIfInBounds i true) a' w') → K a' w') → o.wp P a w K Q) : wpAnyP P md ops Q S p (fuel + 1) listed a w := by
 have hB := of_decide_eq_true hB
 refine ⟨(fun h0 => by rw [hB] at h0; cases h0), fun j hj => ?_⟩
 rw [hB, List.mem_singleton] at hj
 subst hj
 have hw : Region.wanted o (yielded ops a.tmps) = true := by simp [Region.wanted, hg]
 unfold wpOp
 simp only [ho, hw, if_true]
 exact Or.inl (h _ (Lib.hid fun a' w' hS hW => ⟨hS, hW hS⟩))
theorem wpAnyP.tk (i : Nat) {oi : Oper} {v : Value} {fuel : Nat} {listed : Array Bool} {a : Act} {w : World} {q : Prop} (hi : ops[i]? = some oi) (k : q) (hB : (decide (i ≠ p) && waitsB md ops p i && Region.noSelect ops && Region.free md ops listed i && (Region.ready md ops listed).contains i && (listed.getD p true == false)) = true := by decide +kernel)
 (hQ : ∀ c a w, Q (.panic c) (a.put oi.dst v) w → Q (.panic c) a w := by exact fun _ _ _ h => h) (hy : YieldsIf P ops S oi v a := by (refine Or.inl ⟨by rfl, ?_⟩; intro w hSw; (try dsimp only at hSw); go_simp; try with_reducible rfl)) (hS : S w := by assumption) (h : q → wpAnyP P md ops Q S p fuel (listed.setIfInBounds i true) (a.put oi.dst v) w := by (intro hq; (try simp only [Act.put, List.setIfInBounds_toArray, List.set_cons_zero, List.set_cons_succ]); exact hq)) : wpAnyP P md ops Q S p (fuel + 1) listed a w :=
 wpAnyP.take hi hB hQ hy hS (h k)
theorem wpAnyP.tkU (i : Nat) {oi : Oper} {v : Value} {fuel : Nat} {listed : Array Bool} {a : Act} {w : World} {q : Prop} (hi : ops[i]? = some oi) (k : q) (hB : (decide (i ≠ p) && Region.noSelect ops && Region.free md ops listed i && (Region.ready md ops listed).contains i) = true := by decide +kernel)
 (hQ : ∀ c a w, Q (.panic c) (a.put oi.dst v) w → Q (.panic c) a w := by exact fun _ _ _ h => h) (hy : YieldsIf P ops (fun _ => True) oi v a := by (refine Or.inl ⟨by rfl, ?_⟩; intro w hSw; go_simp; try with_reducible rfl)) (hS : listed.getD p true = false → S w := by exact fun _ => by assumption) (h : q → wpAnyP P md ops Q S p fuel (listed.setIfInBounds i true) (a.put oi.dst v) w := by (intro hq; (try simp only [Act.put, List.setIfInBounds_toArray, List.set_cons_zero, List.set_cons_succ]); exact hq)) : wpAnyP P md ops Q S p (fuel + 1) listed a w :=
 wpAnyP.takeU hi hB hQ hy hS (h k)
theorem wpAnyP.tkF (i : Nat) {oi : Oper} {v : Value} {fuel : Nat} {listed : Array Bool} {a : Act} {w : World} {q : Prop} (hi : ops[i]? = some oi) (k : q) (hB : (decide (i ≠ p) && Region.noSelect ops && Region.free md ops listed i && (Region.ready md ops listed).contains i && (listed.getD p true == true)) = true := by decide +kernel)
 (hQ : ∀ c a w, Q (.panic c) (a.put oi.dst v) w → Q (.panic c) a w := by exact fun _ _ _ h => h) (hy : YieldsIf P ops (fun _ => True) oi v a := by (refine Or.inl ⟨by rfl, ?_⟩; intro w hSw; go_simp; try with_reducible rfl)) (h : q → wpAnyP P md ops Q S p fuel (listed.setIfInBounds i true) (a.put oi.dst v) w := by (intro hq; (try simp only [Act.put, List.setIfInBounds_toArray, List.set_cons_zero, List.set_cons_succ]); exact hq)) : wpAnyP P md ops Q S p (fuel + 1) listed a w :=
 wpAnyP.takeF hi hB hQ hy (h k)
theorem wpAnyP.on (i : Nat) {o : Oper} {fuel : Nat} {listed : Array Bool} {a : Act} {w : World} (ho : ops[i]? = some o) (h : ∀ K : Act → World → Prop, Hid (∀ a' w', ((listed.setIfInBounds i true).getD p true = false → S w') → (((listed.setIfInBounds i true).getD p true = false → S w') → wpAnyP P md ops Q S p fuel (listed.setIfInBounds i true) a' w') → K a' w') → o.wp P a w K Q) (hg : o.guard = none := by rfl) (hB : decide (Region.ready md ops listed = [i]) = true := by kernel_rfl) : wpAnyP P md ops Q S p (fuel + 1) listed a w :=
 wpAnyP.one ho hg hB h
theorem wpAnyP.onF (i : Nat) {o : Oper} {fuel : Nat} {listed : Array Bool} {a : Act} {w : World} (ho : ops[i]? = some o) (h : ∀ K : Act → World → Prop, Hid (∀ a' w', wpAnyP P md ops Q S p fuel (listed.setIfInBounds i true) a' w' → K a' w') → o.wp P a w K Q) (hg : o.guard = none := by rfl) (hB : (decide (Region.ready md ops listed = [i]) && ((listed.setIfInBounds i true).getD p true == true)) = true := by kernel_rfl) : wpAnyP P md ops Q S p (fuel + 1) listed a w :=
 wpAnyP.oneF ho hg hB h
theorem wpAnyP.two {i j : Nat} {oi oj : Oper} {fuel : Nat} {listed : Array Bool} {a : Act} {w : World} (hi : ops[i]? = some oi) (hj : ops[j]? = some oj) (hg : oi.guard = none) (hg' : oj.guard = none) (hB : decide (Region.ready md ops listed = [i, j]) = true)
 (h : ∀ K : Act → World → Prop, Hid (∀ a' w', ((listed.setIfInBounds i true).getD p true = false → S w') → (((listed.setIfInBounds i true).getD p true = false → S w') → wpAnyP P md ops Q S p fuel (listed.setIfInBounds i true) a' w') → K a' w') → oi.wp P a w K Q)
 (h' : ∀ K : Act → World → Prop, Hid (∀ a' w', ((listed.setIfInBounds j true).getD p true = false → S w') → (((listed.setIfInBounds j true).getD p true = false → S w') → wpAnyP P md ops Q S p fuel (listed.setIfInBounds j true) a' w') → K a' w') → oj.wp P a w K Q) : wpAnyP P md ops Q S p (fuel + 1) listed a w := by
 have hB := of_decide_eq_true hB
 refine ⟨(fun h0 => by rw [hB] at h0; cases h0), fun k hk => ?_⟩
 rw [hB] at hk
 have hw : ∀ o : Oper, o.guard = none → Region.wanted o (yielded ops a.tmps) = true := fun o hg => by simp [Region.wanted, hg]
 rcases List.mem_cons.1 hk with rfl | hk
 · unfold wpOp
   simp only [hi, hw oi hg, if_true]
   exact Or.inl (h _ (Lib.hid fun a' w' hS hW => ⟨hS, hW hS⟩))
 · rw [List.mem_singleton] at hk
   subst hk
   unfold wpOp
   simp only [hj, hw oj hg', if_true]
   exact Or.inl (h' _ (Lib.hid fun a' w' hS hW => ⟨hS, hW hS⟩))
theorem wpAnyP.last {n : Nat} {o : Oper} {fuel : Nat} {listed : Array Bool} {a : Act} {w : World} (ho : ops[n]? = some o) (hB : (decide (Region.ready md ops listed = [n]) && decide (Region.ready md ops (listed.setIfInBounds n true) = []) && ((listed.setIfInBounds n true).getD p true == true)) = true)
 (h : wpList P ops Q [o] a w) : wpAnyP P md ops Q S p (fuel + 1) listed a w := by
 simp only [Bool.and_eq_true, decide_eq_true_eq, beq_iff_eq] at hB
 obtain ⟨⟨h1, h2⟩, h3⟩ := hB
 refine ⟨(fun h0 => by rw [h1] at h0; cases h0), fun j hj => ?_⟩
 rw [h1, List.mem_singleton] at hj
 subst hj
 have hw : wpOp P ops Q j (wpList P ops Q []) a w := by
  unfold wpOp
  simp only [ho]
  exact h
 refine wpOp_mono (fun a' w' hK => ⟨(fun e => by rw [h3] at e; cases e), ?_⟩) hw
 cases fuel with
 | zero => exact ⟨h2, hK⟩
 | succ fuel => exact ⟨fun _ => hK, fun i hi => by rw [h2] at hi; cases hi⟩
theorem wp_region_P {id : Nat} {a : Act} {w : World} (p : Nat) (S : World → Prop) (hm : P.follows .mixedOrders = true) (hS : S w.drew) (h : S w.drew → wpAnyP P .any ops Q S p ops.size (Array.replicate ops.size false) a w.drew) : (Code.region id ops true).wp P Q a w :=
 wp_region_any hm (wpAnyP.any _ _ _ _ (h hS))
end
end Go.Proofs.YtdlcglndhhndpaaGreat
