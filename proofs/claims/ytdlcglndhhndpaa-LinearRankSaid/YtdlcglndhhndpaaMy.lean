
/- Walk over LinearRank. Conditions stand in the theorem. -/
import Derived.Test.YtdlcglndhhndpaaMx
import Derived.Test.YtdlcglndhhndpaaMu
import Derived.Test.YtdlcglndhhndpaaMv
namespace Go.Proofs.Ytdlcglndhhndpaa
open Go.RowKit
set_option linter.unusedVariables false
set_option linter.unusedSimpArgs false
set_option maxRecDepth 100000

set_option maxHeartbeats 4000000 in
theorem linearRank_walk (A : Option Addr) (n cap : Nat) (l : List Rv) (i k : Int) (w : World) (hl : RdR w w.heap.size A n cap l) (hi : 0 ≤ i ∧ i ≤ 255) (hk : 0 ≤ k ∧ k ≤ 255) :
    Calls Try.prog 6 #[.slice A n cap, .int .u8 i, .int .u8 k] w fun e w' => e = .returned (.bool true) ∧ Below w.heap.size w w' := by
  have hcap := hl.caps
  have hlen := hl.len
  have K := (St.start w).addR hl
  have HL0 := Lib.hid hl
  clear hl
  cases h1 : few6R 3 1 l
  case false =>
    clear hlen
    go_enter Try.func6, Try.ntmps6
    go_wp2_with fail
    refine (small6_any _).mono ?_
    rintro e W ⟨rfl, hb⟩
    replace K := K.keep hb; clear hb
    go_wp2_with fail
    refine (fewR_is h1 _ _ _ _ ?qa).mono ?_
    case qa => exact K.getR (by repeat (first | with_reducible exact List.mem_cons_self | with_reducible apply List.mem_cons_of_mem))
    rintro e W ⟨rfl, hb⟩
    replace K := K.keep hb; clear hb
    (go_wp2_with fail; go_ret; exact ⟨rfl, K.1⟩)
  cases h2 : rightL (n : Int) l
  case false =>
    clear hlen
    go_enter Try.func6, Try.ntmps6
    go_wp2_with fail
    refine (small6_any _).mono ?_
    rintro e W ⟨rfl, hb⟩
    replace K := K.keep hb; clear hb
    go_wp2_with fail
    refine (fewR_is h1 _ _ _ _ ?qa).mono ?_
    case qa => exact K.getR (by repeat (first | with_reducible exact List.mem_cons_self | with_reducible apply List.mem_cons_of_mem))
    rintro e W ⟨rfl, hb⟩
    replace K := K.keep hb; clear hb
    go_wp2_with fail
    refine (right_is h2 _ _ _ _ ?qa).mono ?_
    case qa => exact K.getR (by repeat (first | with_reducible exact List.mem_cons_self | with_reducible apply List.mem_cons_of_mem))
    rintro e W ⟨rfl, hb⟩
    replace K := K.keep hb; clear hb
    (go_wp2_with fail; go_ret; exact ⟨rfl, K.1⟩)
  have hn3 := only_n h1 hlen
  obtain ⟨f, hR, hH, hfn, hE⟩ := rank_agree h2 h1 hlen
  obtain ⟨rk, hrk⟩ : ∃ rk : Int, rk = (n : Int) - (f : Int) := ⟨_, rfl⟩
  rw [← hrk] at hR hH
  obtain ⟨bz, E, hS, hK, hz3, hE0⟩ : ∃ (bz : Bool) (E : Int), solL (n : Int) l = ((solL (n : Int) l).1, E) ∧ kerL (n : Int) l = ((kerL (n : Int) l).1, !bz) ∧ (rk == (n : Int)) = bz ∧ (E == 0) = bz := by
    rcases hE with ⟨h0, g1, g2⟩ | ⟨h0, g1, g2⟩
    · exact ⟨true, 0, by rw [← g1], by rw [show (!true) = (kerL (n : Int) l).2 from g2.symm], by rw [beq_iff_eq]; omega, rfl⟩
    · exact ⟨false, 16, by rw [← g1], by rw [show (!false) = (kerL (n : Int) l).2 from g2.symm], by rw [beq_eq_false_iff_ne]; omega, rfl⟩
  have z1 : decide (rk < 0) = false := decide_eq_false (by omega)
  have z2 : decide ((n : Int) < rk) = false := decide_eq_false (by omega)
  have z4 : (bz != bz) = false := by cases bz <;> rfl
  have z5 : (bz == !bz) = false := by cases bz <;> rfl
  have z6 : (rk != rk) = false := by simp
  have Hrk := Lib.hid hrk
  have Hfn := Lib.hid hfn
  clear hrk hE hfn
  generalize (solL (n : Int) l).1 = sl at *
  generalize (kerL (n : Int) l).1 = kl at *
  by_cases hn0 : n = 0
  case pos =>
    have hnn : ((n : Int) == 0) = true := by rw [hn0]; rfl
    clear hn0
    go_enter Try.func6, Try.ntmps6
    go_wp2_with fail
    refine (small6_any _).mono ?_
    rintro e W ⟨rfl, hb⟩
    replace K := K.keep hb; clear hb
    go_wp2_with fail
    refine (fewR_is h1 _ _ _ _ ?qa).mono ?_
    case qa => exact K.getR (by repeat (first | with_reducible exact List.mem_cons_self | with_reducible apply List.mem_cons_of_mem))
    rintro e W ⟨rfl, hb⟩
    replace K := K.keep hb; clear hb
    go_wp2_with fail
    refine (right_is h2 _ _ _ _ ?qa).mono ?_
    case qa => exact K.getR (by repeat (first | with_reducible exact List.mem_cons_self | with_reducible apply List.mem_cons_of_mem))
    rintro e W ⟨rfl, hb⟩
    replace K := K.keep hb; clear hb
    go_wp2_with fail
    refine (rank_is hR _ _ _ _ ?qa).mono ?_
    case qa => exact K.getR (by repeat (first | with_reducible exact List.mem_cons_self | with_reducible apply List.mem_cons_of_mem))
    rintro e W ⟨rfl, hb⟩
    replace K := K.keep hb; clear hb
    go_wp2_with fail
    refine (solve_is hS _ _ _ _ ?qa).mono ?_
    case qa => exact K.getR (by repeat (first | with_reducible exact List.mem_cons_self | with_reducible apply List.mem_cons_of_mem))
    rintro e W ⟨A1, c1, rfl, hr, hb⟩
    have hcap1 := hr.caps
    replace K := K.keep hb; clear hb
    clear hr
    go_wp2_with fail
    refine (kernel_is hK _ _ _ _ ?qa).mono ?_
    case qa => exact K.getR (by repeat (first | with_reducible exact List.mem_cons_self | with_reducible apply List.mem_cons_of_mem))
    rintro e W ⟨A2, c2, rfl, hr, hb⟩
    have hcap2 := hr.caps
    replace K := K.keep hb; clear hb
    clear hr
    go_wp2_with fail
    refine (homog_any _ n cap l _ (K.getR (by repeat (first | with_reducible exact List.mem_cons_self | with_reducible apply List.mem_cons_of_mem))) (by omega)).mono ?_
    rintro e W5 ⟨A6, c6, rfl, hr6, hb⟩
    rw [List.length_map, hlen] at hr6 ⊢
    have hcap6 := hr6.caps
    replace K := (K.keep hb).addR hr6
    clear hb hr6
    go_wp2_with fail
    refine (rank_is hH _ _ _ _ ?qa).mono ?_
    case qa => exact K.getR (by repeat (first | with_reducible exact List.mem_cons_self | with_reducible apply List.mem_cons_of_mem))
    rintro e W ⟨rfl, hb⟩
    replace K := K.keep hb; clear hb
    (go_wp2_with fail; go_ret; exact ⟨rfl, K.1⟩)
  have hnn : ((n : Int) == 0) = false := by rw [beq_eq_false_iff_ne]; omega
  have hnz : ¬ (n : Int) = 0 := by omega
  have hnz2 : ¬ n = 0 := hn0
  obtain ⟨ea, ha⟩ := tmod_nat hi.1 (show 0 < n by omega)
  obtain ⟨eb, hb0⟩ := tmod_nat hk.1 (show 0 < n by omega)
  generalize i.toNat % n = a at *
  generalize k.toNat % n = b at *
  have wi : IntKind.i64.wrap i = i := IntWalk.i64_in _ (by omega)
  have wk : IntKind.i64.wrap k = k := IntWalk.i64_in _ (by omega)
  have wa : IntKind.i64.wrap (a : Int) = (a : Int) := IntWalk.i64_in _ (by omega)
  have wb : IntKind.i64.wrap (b : Int) = (b : Int) := IntWalk.i64_in _ (by omega)
  obtain ⟨v, rv, hon, hlv⟩ := rdR_raw HL0.out rfl
  obtain ⟨eo, off, hA, hbB, hcell⟩ := rr_cells rv (show 0 < n by omega)
  subst hA
  have HCl := Lib.hid (fun W (h : Below w.heap.size w W) j (hj : j < n) => (⟨(h.cell (p := ⟨eo, off + j * 5, none⟩) hbB).trans (hcell j hj).1, (h.cell (p := ⟨eo, off + j * 5 + 1, none⟩) hbB).trans (hcell j hj).2.1, (h.cell (p := ⟨eo, off + j * 5 + 2, none⟩) hbB).trans (hcell j hj).2.2.1, (h.cell (p := ⟨eo, off + j * 5 + 3, none⟩) hbB).trans (hcell j hj).2.2.2.1, (h.cell (p := ⟨eo, off + j * 5 + 4, none⟩) hbB).trans (hcell j hj).2.2.2.2⟩ : W.cell? ⟨eo, off + j * 5, none⟩ = some (.slice (v j).A (v j).n (v j).c) ∧ W.cell? ⟨eo, off + j * 5 + 1, none⟩ = some (.int .i64 (v j).y.s) ∧ W.cell? ⟨eo, off + j * 5 + 2, none⟩ = some (.slice (v j).y.A (v j).y.n (v j).y.c) ∧ W.cell? ⟨eo, off + j * 5 + 3, none⟩ = some (.int .i64 (v j).y.t) ∧ W.cell? ⟨eo, off + j * 5 + 4, none⟩ = some (.slice (v j).y.B (v j).y.m (v j).y.d)))
  obtain ⟨f', f1, f2, p1, p2, p3, p4, p5, p6, p7, p8, p9, p10, p11⟩ := rank_put h2 h1 hlen hlv ha hb0
  have hff : (f : Int) = (f' : Int) := by
    rw [hR] at p1
    have := congrArg Prod.fst p1
    have h3 : rk = (n : Int) - (f' : Int) := this
    have := Hrk.out
    omega
  obtain ⟨rt, hrt⟩ : ∃ rt : Int, rt = (n : Int) - (f1 : Int) := ⟨_, rfl⟩
  obtain ⟨ru, hru⟩ : ∃ ru : Int, ru = (n : Int) - (f2 : Int) := ⟨_, rfl⟩
  rw [← hrt] at p2
  rw [← hru] at p3
  have hrk := Hrk.out
  have y1 : decide (rt ≤ rk) = true := decide_eq_true (by omega)
  have y2 : decide (ru ≤ rk) = true := decide_eq_true (by omega)
  have y3 : decide (rk - 1 ≤ ru) = true := decide_eq_true (by omega)
  have y4 : decide (ru < (n : Int)) = true := decide_eq_true (by omega)
  have y5 : IntKind.i64.wrap (rk - 1) = rk - 1 := IntWalk.i64_in _ (by omega)
  have y6 : a = b ∨ decide (rt < (n : Int)) = true := by
    rcases p11 with h | h
    · exact Or.inl h
    · exact Or.inr (decide_eq_true (by omega))
  obtain ⟨hra1, hra2, hra3⟩ := right_row h2 (hlv a ha)
  obtain ⟨hfa1, hfa2⟩ := few_row (d := 1) h1 (hlv a ha)
  have HY6 := Lib.hid y6
  have hai : (a : Int) < (n : Int) := by omega
  have hbi : (b : Int) < (n : Int) := by omega
  have ha0 : (0 : Int) ≤ (a : Int) := by omega
  have hbz : (0 : Int) ≤ (b : Int) := by omega
  have hlva := hlv a ha
  clear p1 p4 p5 p6 p7 p8 p9 p10 p11 hff hrt hru hrk y6 hcell
  go_enter Try.func6, Try.ntmps6
  go_wp2_with fail
  refine (small6_any _).mono ?_
  rintro e W ⟨rfl, hb⟩
  replace K := K.keep hb; clear hb
  go_wp2_with fail
  refine (fewR_is h1 _ _ _ _ ?qa).mono ?_
  case qa => exact K.getR (by repeat (first | with_reducible exact List.mem_cons_self | with_reducible apply List.mem_cons_of_mem))
  rintro e W ⟨rfl, hb⟩
  replace K := K.keep hb; clear hb
  go_wp2_with fail
  refine (right_is h2 _ _ _ _ ?qa).mono ?_
  case qa => exact K.getR (by repeat (first | with_reducible exact List.mem_cons_self | with_reducible apply List.mem_cons_of_mem))
  rintro e W ⟨rfl, hb⟩
  replace K := K.keep hb; clear hb
  go_wp2_with fail
  refine (rank_is hR _ _ _ _ ?qa).mono ?_
  case qa => exact K.getR (by repeat (first | with_reducible exact List.mem_cons_self | with_reducible apply List.mem_cons_of_mem))
  rintro e W ⟨rfl, hb⟩
  replace K := K.keep hb; clear hb
  go_wp2_with fail
  refine (solve_is hS _ _ _ _ ?qa).mono ?_
  case qa => exact K.getR (by repeat (first | with_reducible exact List.mem_cons_self | with_reducible apply List.mem_cons_of_mem))
  rintro e W ⟨A1, c1, rfl, hr, hb⟩
  have hcap1 := hr.caps
  replace K := K.keep hb; clear hb
  clear hr
  go_wp2_with fail
  refine (kernel_is hK _ _ _ _ ?qa).mono ?_
  case qa => exact K.getR (by repeat (first | with_reducible exact List.mem_cons_self | with_reducible apply List.mem_cons_of_mem))
  rintro e W ⟨A2, c2, rfl, hr, hb⟩
  have hcap2 := hr.caps
  replace K := K.keep hb; clear hb
  clear hr
  go_wp2_with fail
  refine (homog_any _ n cap l _ (K.getR (by repeat (first | with_reducible exact List.mem_cons_self | with_reducible apply List.mem_cons_of_mem))) (by omega)).mono ?_
  rintro e W5 ⟨A6, c6, rfl, hr6, hb⟩
  rw [List.length_map, hlen] at hr6 ⊢
  have hcap6 := hr6.caps
  replace K := (K.keep hb).addR hr6
  clear hb hr6
  go_wp2_with fail
  refine (rank_is hH _ _ _ _ ?qa).mono ?_
  case qa => exact K.getR (by repeat (first | with_reducible exact List.mem_cons_self | with_reducible apply List.mem_cons_of_mem))
  rintro e W ⟨rfl, hb⟩
  replace K := K.keep hb; clear hb
  have Kd := Lib.hid K
  go_upto_region 16 with (at_builtin; refine ((Kd.out.new #[] 45).appW (X := [(_, #[], _)]) (OwL.empty 5 Rr.cs 45 _) rr_sized rfl _ _ 22 rfl _ 88 Try.underlying22 row_made rfl rfl _ n cap (ofF n v) rfl (rv.up (flat_lasts _) (Kd.out.new #[] 45).1) (by simp; omega) (by omega) ?_); intro v1 X1 W1 ho1 K1; rw [List.nil_append] at ho1; obtain ⟨g1, gc1, J1, hv1, hX1, hgc1⟩ := ho1.blk (show 0 < n by omega); subst hv1 hX1)
  have K1 : St w [(g1, recA Rr.cs n v J1, 45)] _ W1 := K1
  have K1 := (K1.fam (I := fun i => i < n) (P := fun i => (v i).on) (S := fun _ => oldS w) (fun i hi => K1.okRow (v i) (hon i hi))).less (D' := [rrF n v (fun _ => oldS w)]) (fun z hz => by rw [List.mem_singleton.1 hz]; exact List.mem_cons_self)
  obtain ⟨c0, c1, c2, c3, c4⟩ := HCl.out _ K1.1 b hb0
  go_upto_region 17 with (refine K1.storeRR rfl rfl _ _ _ rfl g1 a n (v b) rfl rfl ha (Upd.head _) row_size ?_; intro W2 K2)
  have K2 := (K2.rrPut (S := fun _ => oldS w) List.mem_cons_self a (v b) (oldS w) (K2.okRow (v b) (hon b hb0))).less (D' := [rrF n (putF v a (v b)) (putF (fun _ => oldS w) a (oldS w))]) (fun z hz => by rw [List.mem_singleton.1 hz]; exact List.mem_cons_self)
  clear c0 c1 c2 c3 c4 K1 ho1
  have Kd2 := Lib.hid K2
  go_upto_region 18 with (at_builtin; refine ((Kd2.out.new #[] 45).appW (X := [(_, #[], _)]) (L := [(g1, recA Rr.cs n (putF v a (v b)) J1, 45)]) (OwL.empty 5 Rr.cs 45 _) rr_sized rfl _ _ 22 rfl _ 88 Try.underlying22 row_made rfl rfl _ n cap (ofF n v) rfl (rv.up (flat_lasts _) (Kd2.out.new #[] 45).1) (by simp; omega) (by omega) ?_); intro v3 X3 W3 ho3 K3; rw [List.nil_append] at ho3; obtain ⟨g2, gc2, J2, hv3, hX3, hgc2⟩ := ho3.blk (show 0 < n by omega); subst hv3 hX3)
  have K3 : St w [(g2, recA Rr.cs n v J2, 45), (g1, recA Rr.cs n (putF v a (v b)) J1, 45)] _ W3 := K3
  have K3 := K3.fam (I := fun i => i < n) (P := fun i => (v i).on) (S := fun _ => oldS w) (fun i hi => K3.okRow (v i) (hon i hi))
  clear ho3 K2 Kd2
  have HS := Lib.hid (fun V (u : Nat → Rr) D' (h : St w [(g2, recA Rr.cs n u J2, 45), (g1, recA Rr.cs n (putF v a (v b)) J1, 45)] D' V) => (show ((V.cell? ⟨eo, off + a * 5, none⟩ = some (.slice (v a).A (v a).n (v a).c) ∧ V.cell? ⟨eo, off + a * 5 + 1, none⟩ = some (.int .i64 (v a).y.s) ∧ V.cell? ⟨eo, off + a * 5 + 2, none⟩ = some (.slice (v a).y.A (v a).y.n (v a).y.c) ∧ V.cell? ⟨eo, off + a * 5 + 3, none⟩ = some (.int .i64 (v a).y.t) ∧ V.cell? ⟨eo, off + a * 5 + 4, none⟩ = some (.slice (v a).y.B (v a).y.m (v a).y.d)) ∧ (V.cell? ⟨g2, a * 5, none⟩ = some (cellD V ⟨g2, a * 5, none⟩) ∧ V.cell? ⟨g2, a * 5 + 1, none⟩ = some (cellD V ⟨g2, a * 5 + 1, none⟩) ∧ V.cell? ⟨g2, a * 5 + 2, none⟩ = some (cellD V ⟨g2, a * 5 + 2, none⟩) ∧ V.cell? ⟨g2, a * 5 + 3, none⟩ = some (cellD V ⟨g2, a * 5 + 3, none⟩) ∧ V.cell? ⟨g2, a * 5 + 4, none⟩ = some (cellD V ⟨g2, a * 5 + 4, none⟩)) ∧ ∀ j, V.frozen? ⟨g2, j, none⟩ = false) from by
    have cr := h.cellRR (g := g2) (v := u) (n := n) ha (by repeat (first | with_reducible exact List.mem_cons_self | with_reducible apply List.mem_cons_of_mem))
    exact ⟨HCl.out V h.1 a ha, ⟨cellD_iff.2 (by rw [cr.1.1]; rfl), cellD_iff.2 (by rw [cr.1.2.1]; rfl), cellD_iff.2 (by rw [cr.1.2.2.1]; rfl), cellD_iff.2 (by rw [cr.1.2.2.2.1]; rfl), cellD_iff.2 (by rw [cr.1.2.2.2.2]; rfl)⟩, cr.2⟩))
  have HNum := Lib.hid (fun V (h : St w [(g2, recA Rr.cs n v J2, 45), (g1, recA Rr.cs n (putF v a (v b)) J1, 45)] [rrF n v (fun _ => oldS w), rrF n (putF v a (v b)) (putF (fun _ => oldS w) a (oldS w))] V) => ((number6_any 0 V (by decide)).mono fun e V2 ⟨s31, A31, n31, c31, l31, t31, B31, m31, d31, k31, he, ⟨hra, hrb⟩, ho, ⟨hfa, hfb⟩, hbb⟩ => (⟨⟨s31, A31, n31, c31, l31, t31, B31, m31, d31, k31⟩, he, by rw [Rat.intCast_zero] at ho; exact ho, h.retF hbb hra hrb hfa hfb⟩ : ∃ y : Rw, e = Ending.returned (.agg #[.int .i64 y.s, .slice y.A y.n y.c, .int .i64 y.t, .slice y.B y.m y.d]) ∧ StdF y.s y.l y.t y.k 0 ∧ St w [(g2, recA Rr.cs n v J2, 45), (g1, recA Rr.cs n (putF v a (v b)) J1, 45)] (⟨rdP y.B y.m y.d y.k, rdS y.B y.m⟩ :: ⟨rdP y.A y.n y.c y.l, rdS y.A y.n⟩ :: [rrF n v (fun _ => oldS w), rrF n (putF v a (v b)) (putF (fun _ => oldS w) a (oldS w))]) V2)))
  have hna : (v a).n = n := by rw [← (hon a ha).1.len]; exact hra1
  have HTim := Lib.hid (fun V (y : Rw) (hy : StdF y.s y.l y.t y.k 0) (h : St w [(g2, recA Rr.cs n v J2, 45), (g1, recA Rr.cs n (putF v a (v b)) J1, 45)] (⟨rdP y.B y.m y.d y.k, rdS y.B y.m⟩ :: ⟨rdP y.A y.n y.c y.l, rdS y.A y.n⟩ :: [rrF n v (fun _ => oldS w), rrF n (putF v a (v b)) (putF (fun _ => oldS w) a (oldS w))]) V) => ((times_any 0 (v a).A (v a).n (v a).c (v a).a (v a).y.s (v a).y.t y.s y.t (v a).y.A (v a).y.B y.A y.B (v a).y.n (v a).y.c (v a).y.m (v a).y.d y.n y.c y.m y.d (v a).y.l (v a).y.k y.l y.k V ((hon a ha).1.up fE_lasts h.1) ((hon a ha).2.1.up (flat_lasts _) h.1) ((hon a ha).2.2.up (flat_lasts _) h.1) (h.rd (by repeat (first | with_reducible exact List.mem_cons_self | with_reducible apply List.mem_cons_of_mem))) (h.rd (by repeat (first | with_reducible exact List.mem_cons_self | with_reducible apply List.mem_cons_of_mem))) hy fitsF_zero (v a).y.fv rfl hra3 hra2 (fun x hx => ((few_pt (hra3 x hx) (hfa2 x hx)).mul Pt.zero (by omega)).1) ((few_pt hra2 hfa1).mul Pt.zero (by omega)).1 (by omega)).mono fun e V2 ⟨x, he, hx1, hx2, hx3, hbb⟩ => (⟨x, he, hx3, h.addX hbb hx2⟩ : ∃ x : Rr, e = Ending.returned (.tuple #[.agg #[.slice x.A x.n x.c, .int .i64 x.y.s, .slice x.y.A x.y.n x.y.c, .int .i64 x.y.t, .slice x.y.B x.y.m x.y.d], .bool true]) ∧ x.rv = (⟨(v a).a.map fun y : Fv => fvQ (y.rat * 0), fvQ ((v a).y.fv.rat * 0)⟩ : Rv) ∧ St w [(g2, recA Rr.cs n v J2, 45), (g1, recA Rr.cs n (putF v a (v b)) J1, 45)] (⟨x.on, betS V V2⟩ :: ⟨rdP y.B y.m y.d y.k, rdS y.B y.m⟩ :: ⟨rdP y.A y.n y.c y.l, rdS y.A y.n⟩ :: [rrF n v (fun _ => oldS w), rrF n (putF v a (v b)) (putF (fun _ => oldS w) a (oldS w))]) V2)))
  have HSet := Lib.hid (fun V D' (x : Rr) (h : St w [(g2, recA Rr.cs n v J2, 45), (g1, recA Rr.cs n (putF v a (v b)) J1, 45)] D' V) => h.setRR (g := g2) x ha (Upd.head _))
  clear hna
  have K0 := K3.drew
  have ek0 := HCl.out _ K3.1 a ha
  clear K3
  go_region_with (first
    | (go_at_call 27; (with_reducible refine (HNum.out _ K0).mono ?_); rintro e w5 ⟨y1, rfl, ho1, k5⟩; have ek1 := HCl.out _ k5.1 a ha)
    | (go_at_call 22; (with_reducible refine (HTim.out _ y1 ho1 k5).mono ?_); rintro e w6 ⟨x1, rfl, hx1, k6⟩; have kz := HSet.out _ _ x1 k6; have ek2 := k6.cellRR (g := g2) (v := v) (n := n) ha (by repeat (first | with_reducible exact List.mem_cons_self | with_reducible apply List.mem_cons_of_mem))))
  all_goals
    have k7 := kz.rrPut (n := n) (u := v) (S := fun _ => oldS w) (by repeat (first | with_reducible exact List.mem_cons_self | with_reducible apply List.mem_cons_of_mem)) a x1 _ (kz.okAt (by repeat (first | with_reducible exact List.mem_cons_self | with_reducible apply List.mem_cons_of_mem)))
    have r1 := k7.rdRR (g := g1) (cap := gc1) (u := putF v a (v b)) (S := putF (fun _ => oldS w) a (oldS w)) (by repeat (first | with_reducible exact List.mem_cons_self | with_reducible apply List.mem_cons_of_mem)) (by repeat (first | with_reducible exact List.mem_cons_self | with_reducible apply List.mem_cons_of_mem)) (by omega) hgc1
    have r2 := k7.rdRR (g := g2) (cap := gc2) (u := putF v a x1) (by repeat (first | with_reducible exact List.mem_cons_self | with_reducible apply List.mem_cons_of_mem)) List.mem_cons_self (by omega) hgc2
    rw [putF_rv] at r1 r2
    rw [hx1] at r2
    have hbl := k7.1
    have Hbl := Lib.hid hbl
    clear kz k5 k6 k7 K0 HS HNum HTim HSet ho1 hx1 hbl HCl ek0 ek1 ek2
    obtain ⟨lt, hlt, p2⟩ : ∃ lt, lt = ofF n (putF (fun i => (v i).rv) a (v b).rv) ∧ rankL (n : Int) lt = (rt, 0) := ⟨_, rfl, p2⟩
    obtain ⟨lu, hlu, p3⟩ : ∃ lu, lu = ofF n (putF (fun i => (v i).rv) a ⟨(v a).a.map fun y => fvQ (y.rat * 0), fvQ ((v a).y.fv.rat * 0)⟩) ∧ rankL (n : Int) lu = (ru, 0) := ⟨_, rfl, p3⟩
    rw [← hlt] at r1
    rw [← hlu] at r2
    have K := ((St.start _).addR r1).addR r2
    clear r1 r2 hlt hlu hlv hon rv hra1 hra2 hra3 hfa1 hfa2 hlva
    go_wp2_with fail
    refine (rank_is p2 _ _ _ _ ?qa).mono ?_
    case qa => exact K.getR (by repeat (first | with_reducible exact List.mem_cons_self | with_reducible apply List.mem_cons_of_mem))
    rintro e W ⟨rfl, hb⟩
    replace K := K.keep hb; clear hb
    go_wp2_with fail
    refine (rank_is p3 _ _ _ _ ?qa).mono ?_
    case qa => exact K.getR (by repeat (first | with_reducible exact List.mem_cons_self | with_reducible apply List.mem_cons_of_mem))
    rintro e W ⟨rfl, hb⟩
    replace K := K.keep hb; clear hb
    rcases HY6.out with h | h
    · subst h
      go_wp2_with fail
      go_ret
      exact ⟨rfl, Hbl.out.trans (K.1.mono Hbl.out.size)⟩
    · obtain ⟨be, hbe⟩ : ∃ be, ((a : Int) == (b : Int)) = be := ⟨_, rfl⟩
      cases be
      · go_wp2_with fail
        go_ret
        exact ⟨rfl, Hbl.out.trans (K.1.mono Hbl.out.size)⟩
      · go_wp2_with fail
        go_ret
        exact ⟨rfl, Hbl.out.trans (K.1.mono Hbl.out.size)⟩
end Go.Proofs.Ytdlcglndhhndpaa
