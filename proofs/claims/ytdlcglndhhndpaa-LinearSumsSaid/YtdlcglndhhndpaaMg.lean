
/- Walk over LinearSums. Conditions stand in the theorem. -/
import Derived.Test.YtdlcglndhhndpaaMu
import Derived.Test.YtdlcglndhhndpaaMn
import Derived.Test.YtdlcglndhhndpaaMj
namespace Go.Proofs.Ytdlcglndhhndpaa
open Go.RowKit
set_option linter.unusedVariables false
set_option linter.unusedSimpArgs false
set_option maxRecDepth 100000

theorem swapX {A B : List Blk} {b : Blk} : (B ++ (b :: (A ++ []))).Perm (A ++ (b :: (B ++ []))) := by
  rw [List.append_nil, List.append_nil]
  exact List.perm_middle.trans ((List.perm_append_comm.cons b).trans List.perm_middle.symm)
theorem addO1_ok {x y : Rat} (h : addK x y = true) : addO1 x (some y) = some (x + y) := by show (if addK x y = true then some (x + y) else none) = _; rw [if_pos h]
theorem addE1_ok {x y : Rat} (h : addK x y = true) : addE1 x (some y) = 0 := by show (if addK x y = true then (0 : Int) else 6) = _; rw [if_pos h]
theorem solve_isN {N E : Int} {l : List Rv} {r : List Fv} {n : Nat} (h : solL N l = (r, E)) (hn : r.length = n) (A : Option Addr) (m cap : Nat) (w : World) (hl : RdR w w.heap.size A m cap l) : Calls Try.prog 14 #[.slice A m cap, .int .i64 N] w fun e w' => ∃ A' c, e = .returned (.tuple #[.slice A' n c, .int .i64 E]) ∧ RdF w' w'.heap.size A' n c r ∧ Below w.heap.size w w' := by
  subst hn
  exact solve_is h A m cap w hl
set_option maxHeartbeats 4000000 in
theorem linearSums_walk (A : Option Addr) (n cap : Nat) (l : List Rv) (Ax : Option Addr) (nx cx : Nat) (x : List Fv) (w : World) (hl : RdR w w.heap.size A n cap l) (hx : RdF w w.heap.size Ax nx cx x) :
    Calls Try.prog 5 #[.slice A n cap, .slice Ax nx cx] w fun e w' => e = .returned (.bool true) ∧ Below w.heap.size w w' := by
  have hcap := hl.caps
  have hcx := hx.caps
  have hlen := hl.len
  have hlx := hx.len
  have K := ((St.start w).addR hl).addF hx
  have HL := Lib.hid hl
  have HLx := Lib.hid hx
  clear hl hx
  cases h1 : few6R 3 1 l
  case false =>
    clear hlen hlx
    go_enter Try.func5, Try.ntmps5
    go_wp2_with fail
    refine (small6_any _).mono ?_
    rintro e W ⟨rfl, hb⟩
    replace K := K.keep hb; clear hb
    go_wp2_with fail
    refine (fewR_is h1 _ _ _ _ ?qa).mono ?_
    case qa => exact K.getR (by repeat (first | with_reducible exact List.mem_cons_self | with_reducible apply List.mem_cons_of_mem))
    rintro e W ⟨rfl, hb⟩
    replace K := K.keep hb; clear hb
    (go_wp2_with fail; go_ret; exact ⟨rfl, K.1⟩)
  cases h2 : few6L 3 1 x
  case false =>
    clear hlen hlx
    go_enter Try.func5, Try.ntmps5
    go_wp2_with fail
    refine (small6_any _).mono ?_
    rintro e W ⟨rfl, hb⟩
    replace K := K.keep hb; clear hb
    go_wp2_with fail
    refine (fewR_is h1 _ _ _ _ ?qa).mono ?_
    case qa => exact K.getR (by repeat (first | with_reducible exact List.mem_cons_self | with_reducible apply List.mem_cons_of_mem))
    rintro e W ⟨rfl, hb⟩
    replace K := K.keep hb; clear hb
    go_wp2_with fail
    refine (fewF_is h2 _ _ _ _ ?qa).mono ?_
    case qa => exact K.getQ (by repeat (first | with_reducible exact List.mem_cons_self | with_reducible apply List.mem_cons_of_mem))
    rintro e W ⟨rfl, hb⟩
    replace K := K.keep hb; clear hb
    (go_wp2_with fail; go_ret; exact ⟨rfl, K.1⟩)
  cases h3 : rightL (n : Int) l
  case false =>
    clear hlen hlx
    go_enter Try.func5, Try.ntmps5
    go_wp2_with fail
    refine (small6_any _).mono ?_
    rintro e W ⟨rfl, hb⟩
    replace K := K.keep hb; clear hb
    go_wp2_with fail
    refine (fewR_is h1 _ _ _ _ ?qa).mono ?_
    case qa => exact K.getR (by repeat (first | with_reducible exact List.mem_cons_self | with_reducible apply List.mem_cons_of_mem))
    rintro e W ⟨rfl, hb⟩
    replace K := K.keep hb; clear hb
    go_wp2_with fail
    refine (fewF_is h2 _ _ _ _ ?qa).mono ?_
    case qa => exact K.getQ (by repeat (first | with_reducible exact List.mem_cons_self | with_reducible apply List.mem_cons_of_mem))
    rintro e W ⟨rfl, hb⟩
    replace K := K.keep hb; clear hb
    go_wp2_with fail
    refine (right_is h3 _ _ _ _ ?qa).mono ?_
    case qa => exact K.getR (by repeat (first | with_reducible exact List.mem_cons_self | with_reducible apply List.mem_cons_of_mem))
    rintro e W ⟨rfl, hb⟩
    replace K := K.keep hb; clear hb
    (go_wp2_with fail; go_ret; exact ⟨rfl, K.1⟩)
  by_cases hnn : n = nx
  case neg =>
    have hd : ((nx : Int) != (n : Int)) = true := by simp; omega
    clear hlen hlx hnn
    go_enter Try.func5, Try.ntmps5
    go_wp2_with fail
    refine (small6_any _).mono ?_
    rintro e W ⟨rfl, hb⟩
    replace K := K.keep hb; clear hb
    go_wp2_with fail
    refine (fewR_is h1 _ _ _ _ ?qa).mono ?_
    case qa => exact K.getR (by repeat (first | with_reducible exact List.mem_cons_self | with_reducible apply List.mem_cons_of_mem))
    rintro e W ⟨rfl, hb⟩
    replace K := K.keep hb; clear hb
    go_wp2_with fail
    refine (fewF_is h2 _ _ _ _ ?qa).mono ?_
    case qa => exact K.getQ (by repeat (first | with_reducible exact List.mem_cons_self | with_reducible apply List.mem_cons_of_mem))
    rintro e W ⟨rfl, hb⟩
    replace K := K.keep hb; clear hb
    go_wp2_with fail
    refine (right_is h3 _ _ _ _ ?qa).mono ?_
    case qa => exact K.getR (by repeat (first | with_reducible exact List.mem_cons_self | with_reducible apply List.mem_cons_of_mem))
    rintro e W ⟨rfl, hb⟩
    replace K := K.keep hb; clear hb
    (go_wp2_with fail; go_ret; exact ⟨rfl, K.1⟩)
  subst hnn
  have hd : ((n : Int) != (n : Int)) = false := by simp
  have hn3 := only_n h1 hlen
  obtain ⟨V, hV⟩ : ∃ V : Nat → Rv, ∀ i, i < n → l[i]? = some (V i) := ⟨fun i => (l[i]?).getD ⟨[], fvQ 0⟩, fun i hi => by
    show l[i]? = some ((l[i]?).getD ⟨[], fvQ 0⟩)
    rw [List.getElem?_eq_getElem (by omega)]
    rfl⟩
  obtain ⟨Y, hY⟩ : ∃ Y : Nat → Fv, ∀ i, i < n → x[i]? = some (Y i) := ⟨fun i => (x[i]?).getD (fvQ 0), fun i hi => by
    show x[i]? = some ((x[i]?).getD (fvQ 0))
    rw [List.getElem?_eq_getElem (by omega)]
    rfl⟩
  have HV0 := Lib.hid hV
  have HY0 := Lib.hid hY
  have HfY := Lib.hid (show ∀ i, i < n → fewV 1 (Y i) = true from fun i hi => by
    unfold few6L at h2
    rw [Bool.and_eq_true, List.all_eq_true] at h2
    exact h2.2 _ (List.mem_of_getElem? (hY i hi)))
  have Hrow := Lib.hid (show ∀ i, i < n → (V i).a.length = n ∧ (V i).b.ok = true ∧ Pt 1 (V i).b.rat from fun i hi => by
    obtain ⟨q1, q2, q3⟩ := right_row h3 (hV i hi)
    obtain ⟨w1, w2⟩ := few_row (d := 1) h1 (hV i hi)
    exact ⟨q1, q2, few_pt q2 w1⟩)
  have HLaw := Lib.hid (fun hok : ∀ i, i < n → (Y i).ok = true => sums_law (Y := Y) h3 h1 hlen hV hok (fun i hi => few_pt (d := 1) (hok i hi) (by
    unfold few6L at h2
    rw [Bool.and_eq_true, List.all_eq_true] at h2
    exact h2.2 _ (List.mem_of_getElem? (hY i hi)))))
  clear hV hY
  go_enter Try.func5, Try.ntmps5
  go_wp2_with fail
  refine (small6_any _).mono ?_
  rintro e W ⟨rfl, hb⟩
  replace K := K.keep hb; clear hb
  go_wp2_with fail
  refine (fewR_is h1 _ _ _ _ ?qa).mono ?_
  case qa => exact K.getR (by repeat (first | with_reducible exact List.mem_cons_self | with_reducible apply List.mem_cons_of_mem))
  rintro e W ⟨rfl, hb⟩
  replace K := K.keep hb; clear hb
  go_wp2_with fail
  refine (fewF_is h2 _ _ _ _ ?qa).mono ?_
  case qa => exact K.getQ (by repeat (first | with_reducible exact List.mem_cons_self | with_reducible apply List.mem_cons_of_mem))
  rintro e W ⟨rfl, hb⟩
  replace K := K.keep hb; clear hb
  go_wp2_with fail
  refine (right_is h3 _ _ _ _ ?qa).mono ?_
  case qa => exact K.getR (by repeat (first | with_reducible exact List.mem_cons_self | with_reducible apply List.mem_cons_of_mem))
  rintro e W ⟨rfl, hb⟩
  replace K := K.keep hb; clear hb
  clear hlen hlx
  go_wp2_with fail
  go_loopg [9, 7, 8] n (fun gk s9 s7 s8 wr => ∃ (k : Nat) (u1 : Nat → Rr) (S1 : Nat → Nat → Prop) (u2 : Nat → Rr) (S2 : Nat → Nat → Prop) (X1 X2 : List Blk), k ≤ n ∧ gk = n - k ∧ s9 = .int .i64 k ∧ Hid (∀ j, j < k → (Y j).ok = true ∧ (u1 j).rv = ⟨(V j).a, Y j⟩ ∧ (u2 j).rv = ⟨(V j).a, fvQ ((V j).b.rat + (Y j).rat)⟩) ∧ OwL 5 Rr.cs 45 s7 (ofF k u1) X1 ∧ OwL 5 Rr.cs 45 s8 (ofF k u2) X2 ∧ St w (X1 ++ (X2 ++ [])) [rrF k u1 S1, rrF k u2 S2] wr)
  case atStart =>
    exact ⟨0, fun _ => Rr.zero, fun _ _ => False, fun _ => Rr.zero, fun _ _ => False, [], [], Nat.zero_le _, rfl, rfl, Lib.hid (fun j h => absurd h (by omega)), OwL.nil, OwL.nil, ((K.rrNew (u := fun _ => Rr.zero) (S := fun _ _ => False)).rrNew (u := fun _ => Rr.zero) (S := fun _ _ => False)).less (by simp only [List.mem_cons, List.not_mem_nil, or_false, forall_eq_or_imp, forall_eq, true_or, or_true, and_self])⟩
  clear K
  obtain ⟨k, u1, S1, u2, S2, X1, X2, hk, rfl, rfl, HU, ho1, ho2, K⟩ := hrel
  have Ho1 := Lib.hid ho1
  have Ho2 := Lib.hid ho2
  obtain ⟨Ah1, nh1, ch1, hvs1⟩ := ho1.shape
  obtain ⟨Ah2, nh2, ch2, hvs2⟩ := ho2.shape
  subst hvs1 hvs2
  clear ho1 ho2
  by_cases hlt : k < n
  case neg =>
    have e : n = k := by omega
    subst e
    obtain ⟨Bo1, do1, hv1, hr1⟩ := Ho1.out.rdR K (by repeat (first | with_reducible exact List.mem_cons_self | with_reducible apply List.mem_cons_of_mem)) (by omega)
    obtain ⟨Bo2, do2, hv2, hr2⟩ := Ho2.out.rdR K.front (by repeat (first | with_reducible exact List.mem_cons_self | with_reducible apply List.mem_cons_of_mem)) (by omega)
    injection hv1 with i1 i2 i3
    injection hv2 with i4 i5 i6
    have i2 := i2.symm
    have i5 := i5.symm
    subst i1 i2 i3 i4 i5 i6
    rw [ofF_congr (fun j hj => (HU.out j hj).2.1)] at hr1
    rw [ofF_congr (fun j hj => (HU.out j hj).2.2)] at hr2
    obtain ⟨E, hE6, p0, po, ph, g3, g4⟩ := HLaw.out (fun i hi => (HU.out i hi).1)
    have hlen2 := HL.out.len
    have hcap1 := hr1.caps
    have hcap2 := hr2.caps
    have Hbl := Lib.hid K.1
    obtain ⟨lo, hlo⟩ : ∃ lo, lo = valR n V Y := ⟨_, rfl⟩
    obtain ⟨ls, hls⟩ : ∃ ls, ls = valR n V fun i => fvQ ((V i).b.rat + (Y i).rat) := ⟨_, rfl⟩
    rw [← hlo] at po g4
    rw [← hls] at g3 g4
    have w1 : (ofF n fun j => (⟨(V j).a, Y j⟩ : Rv)) = lo := hlo.symm
    have w2 : (ofF n fun j => (⟨(V j).a, fvQ ((V j).b.rat + (Y j).rat)⟩ : Rv)) = ls := hls.symm
    rw [w1] at hr1
    rw [w2] at hr2
    clear w1 w2
    have K := (((St.start _).addR (HL.out.up rE_lasts K.1)).addR hr1).addR hr2
    clear hr1 hr2 hlo hls HU Ho1 Ho2 HLaw hlt
    have hEE : (E != E) = false := by simp
    have q0 : solL (n : Int) l = ((solL (n : Int) l).1, E) := by rw [← p0]
    have qo : solL (n : Int) lo = ((solL (n : Int) lo).1, E) := by rw [← po]
    have qh : solL (n : Int) (l.map homR) = ((solL (n : Int) (l.map homR)).1, E) := by rw [← ph]
    rcases g3 with h6 | hE
    · have qs : solL (n : Int) ls = ((solL (n : Int) ls).1, 6) := by rw [← h6]
      obtain ⟨be, hbe⟩ : ∃ be, (E != 0) = be := ⟨_, rfl⟩
      clear g4 p0 po ph h6
      generalize (solL (n : Int) l).1 = x0 at *
      generalize (solL (n : Int) lo).1 = xo at *
      generalize (solL (n : Int) ls).1 = xsu at *
      generalize (solL (n : Int) (l.map homR)).1 = xh at *
      go_wp2_with fail
      refine (solve_isN q0 rfl _ _ _ _ ?qa).mono ?_
      case qa => exact K.getR (by repeat (first | with_reducible exact List.mem_cons_self | with_reducible apply List.mem_cons_of_mem))
      rintro e W ⟨A21, c21, rfl, hr, hb⟩
      have hcap21 := hr.caps
      replace K := (K.keep hb).addF hr
      clear hb hr
      go_wp2_with fail
      refine (solve_isN qo rfl _ _ _ _ ?qa).mono ?_
      case qa => exact K.getR (by repeat (first | with_reducible exact List.mem_cons_self | with_reducible apply List.mem_cons_of_mem))
      rintro e W ⟨A22, c22, rfl, hr, hb⟩
      have hcap22 := hr.caps
      replace K := (K.keep hb).addF hr
      clear hb hr
      go_wp2_with fail
      refine (solve_isN qs rfl _ _ _ _ ?qa).mono ?_
      case qa => exact K.getR (by repeat (first | with_reducible exact List.mem_cons_self | with_reducible apply List.mem_cons_of_mem))
      rintro e W ⟨A23, c23, rfl, hr, hb⟩
      have hcap23 := hr.caps
      replace K := (K.keep hb).addF hr
      clear hb hr
      go_wp2_with fail
      refine (homog_any _ _ cap l _ (K.getR (by repeat (first | with_reducible exact List.mem_cons_self | with_reducible apply List.mem_cons_of_mem))) (by omega)).mono ?_
      rintro e W5 ⟨A6, c6, rfl, hr6, hb⟩
      rw [List.length_map, hlen2] at hr6 ⊢
      have hcap6 := hr6.caps
      replace K := (K.keep hb).addR hr6
      clear hb hr6
      go_wp2_with fail
      refine (solve_isN qh rfl _ _ _ _ ?qa).mono ?_
      case qa => exact K.getR (by repeat (first | with_reducible exact List.mem_cons_self | with_reducible apply List.mem_cons_of_mem))
      rintro e W ⟨A24, c24, rfl, hr, hb⟩
      have hcap24 := hr.caps
      replace K := (K.keep hb).addF hr
      clear hb hr
      cases be
      · (go_wp2_with fail; go_ret; exact ⟨rfl, Hbl.out.trans (K.1.mono Hbl.out.size)⟩)
      · (go_wp2_with fail; go_ret; exact ⟨rfl, Hbl.out.trans (K.1.mono Hbl.out.size)⟩)
    have hE6b : (E != 6) = true := by rw [bne_iff_ne]; exact hE6
    by_cases hE0 : E = 0
    case neg =>
      have qs : solL (n : Int) ls = ((solL (n : Int) ls).1, E) := by rw [← hE]
      have hbe : (E != 0) = true := by rw [bne_iff_ne]; exact hE0
      clear g4 p0 po ph hE hE0
      generalize (solL (n : Int) l).1 = x0 at *
      generalize (solL (n : Int) lo).1 = xo at *
      generalize (solL (n : Int) ls).1 = xsu at *
      generalize (solL (n : Int) (l.map homR)).1 = xh at *
      go_wp2_with fail
      refine (solve_isN q0 rfl _ _ _ _ ?qa).mono ?_
      case qa => exact K.getR (by repeat (first | with_reducible exact List.mem_cons_self | with_reducible apply List.mem_cons_of_mem))
      rintro e W ⟨A21, c21, rfl, hr, hb⟩
      have hcap21 := hr.caps
      replace K := (K.keep hb).addF hr
      clear hb hr
      go_wp2_with fail
      refine (solve_isN qo rfl _ _ _ _ ?qa).mono ?_
      case qa => exact K.getR (by repeat (first | with_reducible exact List.mem_cons_self | with_reducible apply List.mem_cons_of_mem))
      rintro e W ⟨A22, c22, rfl, hr, hb⟩
      have hcap22 := hr.caps
      replace K := (K.keep hb).addF hr
      clear hb hr
      go_wp2_with fail
      refine (solve_isN qs rfl _ _ _ _ ?qa).mono ?_
      case qa => exact K.getR (by repeat (first | with_reducible exact List.mem_cons_self | with_reducible apply List.mem_cons_of_mem))
      rintro e W ⟨A23, c23, rfl, hr, hb⟩
      have hcap23 := hr.caps
      replace K := (K.keep hb).addF hr
      clear hb hr
      go_wp2_with fail
      refine (homog_any _ _ cap l _ (K.getR (by repeat (first | with_reducible exact List.mem_cons_self | with_reducible apply List.mem_cons_of_mem))) (by omega)).mono ?_
      rintro e W5 ⟨A6, c6, rfl, hr6, hb⟩
      rw [List.length_map, hlen2] at hr6 ⊢
      have hcap6 := hr6.caps
      replace K := (K.keep hb).addR hr6
      clear hb hr6
      go_wp2_with fail
      refine (solve_isN qh rfl _ _ _ _ ?qa).mono ?_
      case qa => exact K.getR (by repeat (first | with_reducible exact List.mem_cons_self | with_reducible apply List.mem_cons_of_mem))
      rintro e W ⟨A24, c24, rfl, hr, hb⟩
      have hcap24 := hr.caps
      replace K := (K.keep hb).addF hr
      clear hb hr
      (go_wp2_with fail; go_ret; exact ⟨rfl, Hbl.out.trans (K.1.mono Hbl.out.size)⟩)
    obtain ⟨s, t, hfit, u0, u1, u2, u3⟩ := g4 hE0 (by rw [hE, hE0])
    have Hfit := Lib.hid hfit
    clear g4 p0 po ph hE hE0 q0 qo qh hEE hE6b hE6 hfit
    go_wp2_with fail
    refine (solve_isN u0 ofF_len _ _ _ _ ?qa).mono ?_
    case qa => exact K.getR (by repeat (first | with_reducible exact List.mem_cons_self | with_reducible apply List.mem_cons_of_mem))
    rintro e W ⟨A21, c21, rfl, hr, hb⟩
    have hcap21 := hr.caps
    replace K := (K.keep hb).addF hr
    clear hb hr
    go_wp2_with fail
    refine (solve_isN u1 ofF_len _ _ _ _ ?qa).mono ?_
    case qa => exact K.getR (by repeat (first | with_reducible exact List.mem_cons_self | with_reducible apply List.mem_cons_of_mem))
    rintro e W ⟨A22, c22, rfl, hr, hb⟩
    have hcap22 := hr.caps
    replace K := (K.keep hb).addF hr
    clear hb hr
    go_wp2_with fail
    refine (solve_isN u2 ofF_len _ _ _ _ ?qa).mono ?_
    case qa => exact K.getR (by repeat (first | with_reducible exact List.mem_cons_self | with_reducible apply List.mem_cons_of_mem))
    rintro e W ⟨A23, c23, rfl, hr, hb⟩
    have hcap23 := hr.caps
    replace K := (K.keep hb).addF hr
    clear hb hr
    go_wp2_with fail
    refine (homog_any _ _ cap l _ (K.getR (by repeat (first | with_reducible exact List.mem_cons_self | with_reducible apply List.mem_cons_of_mem))) (by omega)).mono ?_
    rintro e W5 ⟨A6, c6, rfl, hr6, hb⟩
    rw [List.length_map, hlen2] at hr6 ⊢
    have hcap6 := hr6.caps
    replace K := (K.keep hb).addR hr6
    clear hb hr6
    go_wp2_with fail
    refine (solve_isN u3 ofF_len _ _ _ _ ?qa).mono ?_
    case qa => exact K.getR (by repeat (first | with_reducible exact List.mem_cons_self | with_reducible apply List.mem_cons_of_mem))
    rintro e W ⟨A24, c24, rfl, hr, hb⟩
    have hcap24 := hr.caps
    replace K := (K.keep hb).addF hr
    clear hb hr
    have L1 := Lib.hid (K.getQ (A := A21) (by repeat (first | with_reducible exact List.mem_cons_self | with_reducible apply List.mem_cons_of_mem)))
    have L2 := Lib.hid (K.getQ (A := A22) (by repeat (first | with_reducible exact List.mem_cons_self | with_reducible apply List.mem_cons_of_mem)))
    have L3 := Lib.hid (K.getQ (A := A23) (by repeat (first | with_reducible exact List.mem_cons_self | with_reducible apply List.mem_cons_of_mem)))
    have L4 := Lib.hid (K.getQ (A := A24) (by repeat (first | with_reducible exact List.mem_cons_self | with_reducible apply List.mem_cons_of_mem)))
    have HBl := Lib.hid (Hbl.out.trans (K.1.mono Hbl.out.size))
    clear K Hbl HL HLx HV0 HY0 HfY Hrow hcap6 u0 u1 u2 u3
    obtain ⟨w0, hw0⟩ : ∃ w0, w0 = w := ⟨_, rfl⟩
    subst hw0
    obtain ⟨w, hw⟩ : ∃ w, w = W := ⟨_, rfl⟩
    subst hw
    go_wp2_with fail
    go_loopg [20] n (fun gk s20 wr => ∃ k : Nat, k ≤ n ∧ gk = n - k ∧ s20 = .int .i64 k ∧ Below w.heap.size w wr)
    case atStart => exact ⟨0, Nat.zero_le _, rfl, rfl, Below.refl _ _⟩
    obtain ⟨k, hk, rfl, rfl, hbw⟩ := hrel
    by_cases hlt : k < n
    case neg =>
      go_wp2
      go_ret
      exact ⟨rfl, HBl.out.trans (hbw.mono HBl.out.size)⟩
    have K := (St.start w).keep hbw
    obtain ⟨eb5, off5, A5, n5, c5, B5, m5, d5, a, hA5, hbB5, hx5, ⟨z0, z1, z2, z3⟩, r5, q5⟩ := L1.out.atF hlt
    subst hA5
    have Ex5 := Lib.hid (fun W (h : Below w.heap.size w W) => (⟨(h.cell (p := ⟨eb5, off5 + k * 4, none⟩) hbB5).trans z0, (h.cell (p := ⟨eb5, off5 + k * 4 + 1, none⟩) hbB5).trans z1, (h.cell (p := ⟨eb5, off5 + k * 4 + 2, none⟩) hbB5).trans z2, (h.cell (p := ⟨eb5, off5 + k * 4 + 3, none⟩) hbB5).trans z3⟩ : W.cell? ⟨eb5, off5 + k * 4, none⟩ = some (.int .i64 (a).s) ∧ W.cell? ⟨eb5, off5 + k * 4 + 1, none⟩ = some (.slice A5 n5 c5) ∧ W.cell? ⟨eb5, off5 + k * 4 + 2, none⟩ = some (.int .i64 (a).t) ∧ W.cell? ⟨eb5, off5 + k * 4 + 3, none⟩ = some (.slice B5 m5 d5)))
    have hki : (k : Int) < (n : Int) := by omega
    have hk0 : (0 : Int) ≤ (k : Int) := by omega
    have hcap5 := r5.caps
    have hcbp5 := q5.caps
    replace K := (K.oldRd r5).oldRd q5
    have Hx5 := Lib.hid hx5
    clear hx5 z0 z1 z2 z3 r5 q5
    obtain ⟨eb6, off6, A6, n6, c6, B6, m6, d6, b, hA6, hbB6, hx6, ⟨z0, z1, z2, z3⟩, r6, q6⟩ := L2.out.atF hlt
    subst hA6
    have Ex6 := Lib.hid (fun W (h : Below w.heap.size w W) => (⟨(h.cell (p := ⟨eb6, off6 + k * 4, none⟩) hbB6).trans z0, (h.cell (p := ⟨eb6, off6 + k * 4 + 1, none⟩) hbB6).trans z1, (h.cell (p := ⟨eb6, off6 + k * 4 + 2, none⟩) hbB6).trans z2, (h.cell (p := ⟨eb6, off6 + k * 4 + 3, none⟩) hbB6).trans z3⟩ : W.cell? ⟨eb6, off6 + k * 4, none⟩ = some (.int .i64 (b).s) ∧ W.cell? ⟨eb6, off6 + k * 4 + 1, none⟩ = some (.slice A6 n6 c6) ∧ W.cell? ⟨eb6, off6 + k * 4 + 2, none⟩ = some (.int .i64 (b).t) ∧ W.cell? ⟨eb6, off6 + k * 4 + 3, none⟩ = some (.slice B6 m6 d6)))
    have hki : (k : Int) < (n : Int) := by omega
    have hk0 : (0 : Int) ≤ (k : Int) := by omega
    have hcap6 := r6.caps
    have hcbp6 := q6.caps
    replace K := (K.oldRd r6).oldRd q6
    have Hx6 := Lib.hid hx6
    clear hx6 z0 z1 z2 z3 r6 q6
    obtain ⟨eb7, off7, A7, n7, c7, B7, m7, d7, c, hA7, hbB7, hx7, ⟨z0, z1, z2, z3⟩, r7, q7⟩ := L3.out.atF hlt
    subst hA7
    have Ex7 := Lib.hid (fun W (h : Below w.heap.size w W) => (⟨(h.cell (p := ⟨eb7, off7 + k * 4, none⟩) hbB7).trans z0, (h.cell (p := ⟨eb7, off7 + k * 4 + 1, none⟩) hbB7).trans z1, (h.cell (p := ⟨eb7, off7 + k * 4 + 2, none⟩) hbB7).trans z2, (h.cell (p := ⟨eb7, off7 + k * 4 + 3, none⟩) hbB7).trans z3⟩ : W.cell? ⟨eb7, off7 + k * 4, none⟩ = some (.int .i64 (c).s) ∧ W.cell? ⟨eb7, off7 + k * 4 + 1, none⟩ = some (.slice A7 n7 c7) ∧ W.cell? ⟨eb7, off7 + k * 4 + 2, none⟩ = some (.int .i64 (c).t) ∧ W.cell? ⟨eb7, off7 + k * 4 + 3, none⟩ = some (.slice B7 m7 d7)))
    have hki : (k : Int) < (n : Int) := by omega
    have hk0 : (0 : Int) ≤ (k : Int) := by omega
    have hcap7 := r7.caps
    have hcbp7 := q7.caps
    replace K := (K.oldRd r7).oldRd q7
    have Hx7 := Lib.hid hx7
    clear hx7 z0 z1 z2 z3 r7 q7
    obtain ⟨eb8, off8, A8, n8, c8, B8, m8, d8, d, hA8, hbB8, hx8, ⟨z0, z1, z2, z3⟩, r8, q8⟩ := L4.out.atF hlt
    subst hA8
    have Ex8 := Lib.hid (fun W (h : Below w.heap.size w W) => (⟨(h.cell (p := ⟨eb8, off8 + k * 4, none⟩) hbB8).trans z0, (h.cell (p := ⟨eb8, off8 + k * 4 + 1, none⟩) hbB8).trans z1, (h.cell (p := ⟨eb8, off8 + k * 4 + 2, none⟩) hbB8).trans z2, (h.cell (p := ⟨eb8, off8 + k * 4 + 3, none⟩) hbB8).trans z3⟩ : W.cell? ⟨eb8, off8 + k * 4, none⟩ = some (.int .i64 (d).s) ∧ W.cell? ⟨eb8, off8 + k * 4 + 1, none⟩ = some (.slice A8 n8 c8) ∧ W.cell? ⟨eb8, off8 + k * 4 + 2, none⟩ = some (.int .i64 (d).t) ∧ W.cell? ⟨eb8, off8 + k * 4 + 3, none⟩ = some (.slice B8 m8 d8)))
    have hki : (k : Int) < (n : Int) := by omega
    have hk0 : (0 : Int) ≤ (k : Int) := by omega
    have hcap8 := r8.caps
    have hcbp8 := q8.caps
    replace K := (K.oldRd r8).oldRd q8
    have Hx8 := Lib.hid hx8
    clear hx8 z0 z1 z2 z3 r8 q8
    have ea : a = fvQ (s k) := (Option.some.inj ((ofF_get hlt).symm.trans Hx5.out)).symm
    have eb : b = fvQ (t k) := (Option.some.inj ((ofF_get hlt).symm.trans Hx6.out)).symm
    have ec : c = fvQ (s k + t k) := (Option.some.inj ((ofF_get hlt).symm.trans Hx7.out)).symm
    have ed : d = fvQ 0 := (Option.some.inj ((ofF_get (f := fun _ => fvQ 0) hlt).symm.trans Hx8.out)).symm
    obtain ⟨fa, fb⟩ := Hfit.out k hlt
    have HAd := Lib.hid (fun W g1 g2 g3 g4 => qAdd (s k) a.s a.t b.s b.t A5 B5 A6 B6 n5 c5 m5 d5 n6 c6 m6 d6 a.l a.m b.l b.m W g1 g2 g3 g4 (by rw [ea]; exact fvQ_std _) fa (some (t k)) (by rw [eb]; exact fvQ_std _) (fun _ h => by cases h; exact fb))
    obtain ⟨o, ho⟩ : ∃ o, o = addO1 (s k) (some (t k)) := ⟨_, rfl⟩
    obtain ⟨ev, hev⟩ : ∃ ev, ev = addE1 (s k) (some (t k)) := ⟨_, rfl⟩
    rw [← ho, ← hev] at HAd
    have Hcase := Lib.hid (show (ev = 0 ∧ o = some (s k + t k)) ∨ ev = 6 from by
      cases hak : addK (s k) (t k)
      · right
        rw [hev]
        show (if addK (s k) (t k) = true then (0 : Int) else 6) = 6
        rw [hak]
        rfl
      · left
        exact ⟨by rw [hev, addE1_ok hak], by rw [ho, addO1_ok hak]⟩)
    have Hc := Lib.hid ec
    have HQ8 := Lib.hid (show (d.s == 0) = true from by rw [ed]; rfl)
    clear ea eb ec ed fa fb ho hev hbw
    have r := trivial
    go_upto_region 28 with (first | ((first | (apply K.alloc; rfl; rfl; (first | with_reducible exact big_zero | with_reducible exact frac_zero)) | (apply K.box; rfl; rfl; rfl)); clear K r; (first | ((fail_if_success revert b0); intro W b0 K) | ((fail_if_success revert b1); intro W b1 K) | ((fail_if_success revert b2); intro W b2 K) | ((fail_if_success revert b3); intro W b3 K) | ((fail_if_success revert b4); intro W b4 K) | ((fail_if_success revert b5); intro W b5 K) | ((fail_if_success revert b6); intro W b6 K) | ((fail_if_success revert b7); intro W b7 K)); have r := K.rawS) | (apply K.storeA; rfl; rfl; rfl; rfl; rfl; (repeat (first | with_reducible exact Upd.head _ | with_reducible apply Upd.tail)); (first | with_reducible exact big_size | with_reducible exact frac_size); rfl; rfl; rfl; clear K r; intro W K; have r := K.rawS))
    obtain ⟨RR, HR0⟩ := K.hideZ 40
    go_cut [22, 21] from 152 to 162 (fun e p wx => ∃ g s8 A8 n8 c8 l8 t8 B8 m8 d8 k8, e = .int .i64 ev ∧ p = .pointer (some ⟨g, 0, none⟩) ∧ OptF s8 l8 t8 k8 (o) ∧ (FrA w.heap.size A8 ∧ FrA w.heap.size B8) ∧ RR g #[.int .i64 s8, .slice A8 n8 c8, .int .i64 t8, .slice B8 m8 d8] A8 n8 c8 l8 B8 m8 d8 k8 wx)
    case first =>
      obtain ⟨gz1, hgz1, KA⟩ := K.newZ #[.int .i64 0, .slice none 0 0, .int .i64 0, .slice none 0 0] 40
      have rA := KA.raw
      have Kd := K.drew
      have KAd := KA.drew
      have HBd := Lib.hid (K.bel.size)
      have eA5 := Ex5.out _ KA.1
      have eK5 := Ex5.out _ K.1
      have eA6 := Ex6.out _ KA.1
      have eK6 := Ex6.out _ K.1
      simp only [Raw, RawC, RawZ, and_true, true_and, Nat.zero_add, Nat.reduceAdd] at rA
      go_region_with (first
        | (go_at_call 24; (with_reducible refine (HAd.out _ ?qa ?qb ?qc ?qd).mono ?_); (case qa => (first | with_reducible exact Kd.rd (by repeat (first | with_reducible exact List.mem_cons_self | with_reducible apply List.mem_cons_of_mem)) | with_reducible exact KAd.rd (by repeat (first | with_reducible exact List.mem_cons_self | with_reducible apply List.mem_cons_of_mem)))); (case qb => (first | with_reducible exact Kd.rd (by repeat (first | with_reducible exact List.mem_cons_self | with_reducible apply List.mem_cons_of_mem)) | with_reducible exact KAd.rd (by repeat (first | with_reducible exact List.mem_cons_self | with_reducible apply List.mem_cons_of_mem)))); (case qc => (first | with_reducible exact Kd.rd (by repeat (first | with_reducible exact List.mem_cons_self | with_reducible apply List.mem_cons_of_mem)) | with_reducible exact KAd.rd (by repeat (first | with_reducible exact List.mem_cons_self | with_reducible apply List.mem_cons_of_mem)))); (case qd => (first | with_reducible exact Kd.rd (by repeat (first | with_reducible exact List.mem_cons_self | with_reducible apply List.mem_cons_of_mem)) | with_reducible exact KAd.rd (by repeat (first | with_reducible exact List.mem_cons_self | with_reducible apply List.mem_cons_of_mem)))); rintro e W ⟨s31, A31, n31, c31, l31, t31, B31, m31, d31, k31, rfl, ⟨hra, hrb⟩, hs31, ⟨hfa, hfb⟩, hb⟩; have hF31 := Lib.hid (hfa.mono (C := w.heap.size) (by first | exact Kd.bel.size | exact KAd.bel.size)); have hG31 := Lib.hid (hfb.mono (C := w.heap.size) (by first | exact Kd.bel.size | exact KAd.bel.size)); (first | with_reducible replace K := Kd.retF hb hra hrb hfa hfb | with_reducible replace K := KAd.retF hb hra hrb hfa hfb); clear r rA KA hra hrb hfa hfb hb; have r := K.raw; have z := K.rawz; try (simp only [Raw, RawC, RawZ, and_true, true_and, Nat.zero_add, Nat.reduceAdd] at r z)))
      all_goals
        go_wp2_with fail
        go_meet
        first
          | with_reducible exact ⟨_, s31, A31, n31, c31, l31, t31, B31, m31, d31, k31, rfl, rfl, hs31, ⟨hF31.out, hG31.out⟩, (HR0 _ _ _ _ _ _ _ _ _ _ _).2 (K.new #[.int .i64 s31, .slice A31 n31 c31, .int .i64 t31, .slice B31 m31 d31] 40)⟩
          | with_reducible exact ⟨_, s31, A31, n31, c31, l31, t31, B31, m31, d31, k31, rfl, rfl, hs31, ⟨hF31.out, hG31.out⟩, (HR0 _ _ _ _ _ _ _ _ _ _ _).2 (K.set4Z (u0 := .int .i64 s31) (u1 := .slice A31 n31 c31) (u2 := .int .i64 t31) (u3 := .slice B31 m31 d31) (by repeat (first | with_reducible exact Upd.head _ | with_reducible apply Upd.tail)))⟩
          | exact ⟨_, s31, A31, n31, c31, l31, t31, B31, m31, d31, k31, rfl, rfl, hs31, ⟨hF31.out, hG31.out⟩, (HR0 _ _ _ _ _ _ _ _ _ _ _).2 (K.new #[.int .i64 s31, .slice A31 n31 c31, .int .i64 t31, .slice B31 m31 d31] 40)⟩
          | exact ⟨_, s31, A31, n31, c31, l31, t31, B31, m31, d31, k31, rfl, rfl, hs31, ⟨hF31.out, hG31.out⟩, (HR0 _ _ _ _ _ _ _ _ _ _ _).2 (K.set4Z (u0 := .int .i64 s31) (u1 := .slice A31 n31 c31) (u2 := .int .i64 t31) (u3 := .slice B31 m31 d31) (by repeat (first | with_reducible exact Upd.head _ | with_reducible apply Upd.tail)))⟩
    obtain ⟨gb9, s9, A9, n9, c9, l9, t9, B9, m9, d9, k9, rfl, rfl, hs9, ⟨hF9, hG9⟩, hk9⟩ := hcut
    replace K := (HR0 _ _ _ _ _ _ _ _ _ _ _).1 hk9
    clear r hk9 HR0
    have r := K.rawS
    clear HAd r
    have K2 := K.less (D' := [⟨rdP B9 m9 d9 k9, rdS B9 m9⟩, ⟨rdP A9 n9 c9 l9, rdS A9 n9⟩, ⟨rdP B7 m7 d7 c.m, oldS w⟩, ⟨rdP A7 n7 c7 c.l, oldS w⟩]) (by simp only [List.mem_cons, List.not_mem_nil, or_false, forall_eq_or_imp, forall_eq, true_or, or_true, and_self])
    obtain ⟨ι, f, hne, hfw, hfk, hfc⟩ := cls_st2 (fun W => St w [(gb9, #[.int .i64 s9, .slice A9 n9 c9, .int .i64 t9, .slice B9 m9 d9], 40)] [⟨rdP B9 m9 d9 k9, rdS B9 m9⟩, ⟨rdP A9 n9 c9 l9, rdS A9 n9⟩, ⟨rdP B7 m7 d7 c.m, oldS w⟩, ⟨rdP A7 n7 c7 c.l, oldS w⟩] W) _ K2 (fun W h => h.drew)
    have QC := Lib.hid (fun q => (gsame_any s9 t9 c.s c.t A9 B9 A7 B7 n9 c9 m9 d9 n7 c7 m7 d7 l9 k9 c.l c.m (f q) ((hfk q).rd (by repeat (first | with_reducible exact List.mem_cons_self | with_reducible apply List.mem_cons_of_mem))) ((hfk q).rd (by repeat (first | with_reducible exact List.mem_cons_self | with_reducible apply List.mem_cons_of_mem))) ((hfk q).rd (by repeat (first | with_reducible exact List.mem_cons_self | with_reducible apply List.mem_cons_of_mem))) ((hfk q).rd (by repeat (first | with_reducible exact List.mem_cons_self | with_reducible apply List.mem_cons_of_mem)))).mono fun e w'' ⟨he, hb⟩ => (⟨he, hfc _ ((hfk q).keep hb)⟩ : e = Ending.returned (.bool (sameF s9 l9 t9 k9 c.s c.l c.t c.m)) ∧ ∃ s, w'' = f s))
    have QZ := Lib.hid (fun q => (zero6_any d.s d.t A8 B8 n8 c8 m8 d8 (f q)).mono fun e w'' ⟨he, hb⟩ => (⟨by rw [he, HQ8.out], hfc _ ((hfk q).keep hb)⟩ : e = Ending.returned (.bool true) ∧ ∃ s, w'' = f s))
    have z1 := fun q => (Ex7.out (f q) (hfk q).1).1
    have z2 := fun q => (Ex7.out (f q) (hfk q).1).2.1
    have z3 := fun q => (Ex7.out (f q) (hfk q).1).2.2.1
    have z4 := fun q => (Ex7.out (f q) (hfk q).1).2.2.2
    have y1 := fun q => (Ex8.out (f q) (hfk q).1).1
    have y2 := fun q => (Ex8.out (f q) (hfk q).1).2.1
    have y3 := fun q => (Ex8.out (f q) (hfk q).1).2.2.1
    have y4 := fun q => (Ex8.out (f q) (hfk q).1).2.2.2
    have x1 := fun q => ((hfk q).blk (b := gb9) (cs := #[.int .i64 s9, .slice A9 n9 c9, .int .i64 t9, .slice B9 m9 d9]) (t := 40) (by repeat (first | with_reducible exact List.mem_cons_self | with_reducible apply List.mem_cons_of_mem))).cell (j := 0) rfl
    have x2 := fun q => ((hfk q).blk (b := gb9) (cs := #[.int .i64 s9, .slice A9 n9 c9, .int .i64 t9, .slice B9 m9 d9]) (t := 40) (by repeat (first | with_reducible exact List.mem_cons_self | with_reducible apply List.mem_cons_of_mem))).cell (j := 1) rfl
    have x3 := fun q => ((hfk q).blk (b := gb9) (cs := #[.int .i64 s9, .slice A9 n9 c9, .int .i64 t9, .slice B9 m9 d9]) (t := 40) (by repeat (first | with_reducible exact List.mem_cons_self | with_reducible apply List.mem_cons_of_mem))).cell (j := 2) rfl
    have x4 := fun q => ((hfk q).blk (b := gb9) (cs := #[.int .i64 s9, .slice A9 n9 c9, .int .i64 t9, .slice B9 m9 d9]) (t := 40) (by repeat (first | with_reducible exact List.mem_cons_self | with_reducible apply List.mem_cons_of_mem))).cell (j := 3) rfl
    have Hfw := Lib.hid hfw
    have Hfk := Lib.hid (fun q => (hfk q).1)
    clear hfw hfk hfc K K2 hF9 hG9
    rcases Hcase.out with ⟨e0, e1⟩ | e0
    · subst e0
      rw [e1] at hs9
      have hsm : sameF s9 l9 t9 k9 c.s c.l c.t c.m = true := by
        rw [show sameF s9 l9 t9 k9 c.s c.l c.t c.m = decide ((⟨s9, l9, t9, k9⟩ : Fv) = c) from fv_same ⟨s9, l9, t9, k9⟩ c]
        rw [show (⟨s9, l9, t9, k9⟩ : Fv) = c from (show StdF s9 l9 t9 k9 (s k + t k) from hs9).fv.trans Hc.out.symm]
        exact decide_eq_true rfl
      rw [hsm] at QC
      clear hs9 hsm e1 Hcase
      go_upto_region 29 with fail
      refine wp_region_cls2 (C := fun w' => ∃ n, w' = f n) (by kernel_rfl) (by kernel_rfl) Hfw.out ?_
      repeat (first
        | go_big_quiet_skip
        | (go_big_quiet_want; go_big_quiet_op; first | go_big_quiet_on | go_big_quiet_call (first | (go_at_call 25; with_reducible exact QC.out _) | (go_at_call 18; with_reducible exact QZ.out _))))
      refine wpQuiet_nil ?_
      rintro _ ⟨nq, rfl⟩
      have hB := Hfk.out nq
      clear QC QZ z1 z2 z3 z4 y1 y2 y3 y4 x1 x2 x3 x4
      go_wp2_with fail
      go_roundg (n - (k + 1))
      case rel => exact ⟨k + 1, by omega, rfl, by go_num, hB⟩
      case measure => omega
    · subst e0
      clear hs9 Hcase
      go_upto_region 29 with fail
      refine wp_region_cls2 (C := fun w' => ∃ n, w' = f n) (by kernel_rfl) (by kernel_rfl) Hfw.out ?_
      repeat (first
        | go_big_quiet_skip
        | (go_big_quiet_want; go_big_quiet_op; first | go_big_quiet_on | go_big_quiet_call (first | (go_at_call 25; with_reducible exact QC.out _) | (go_at_call 18; with_reducible exact QZ.out _))))
      refine wpQuiet_nil ?_
      rintro _ ⟨nq, rfl⟩
      have hB := Hfk.out nq
      clear QC QZ z1 z2 z3 z4 y1 y2 y3 y4 x1 x2 x3 x4
      go_wp2_with fail
      go_roundg (n - (k + 1))
      case rel => exact ⟨k + 1, by omega, rfl, by go_num, hB⟩
      case measure => omega
  obtain ⟨eb, off, A0, n0, c0, A1, n1, c1, A3, n3, c3, z, hA, hbB, hz, ⟨z0, z1, z2, z3, z4⟩, r0, r1, r3⟩ := HL.out.atR hlt
  subst hA
  have hzV : z = V k := by
    rw [HV0.out k hlt] at hz
    exact (Option.some.inj hz).symm
  subst hzV
  have hcap0 := r0.caps
  have hcap1 := r1.caps
  have hcap3 := r3.caps
  have Ex5 := Lib.hid (fun W (h : Below w.heap.size w W) => (⟨(h.cell (p := ⟨eb, off + k * 5, none⟩) hbB).trans z0, (h.cell (p := ⟨eb, off + k * 5 + 1, none⟩) hbB).trans z1, (h.cell (p := ⟨eb, off + k * 5 + 2, none⟩) hbB).trans z2, (h.cell (p := ⟨eb, off + k * 5 + 3, none⟩) hbB).trans z3, (h.cell (p := ⟨eb, off + k * 5 + 4, none⟩) hbB).trans z4⟩ : W.cell? ⟨eb, off + k * 5, none⟩ = some (.slice A0 n0 c0) ∧ W.cell? ⟨eb, off + k * 5 + 1, none⟩ = some (.int .i64 (V k).b.s) ∧ W.cell? ⟨eb, off + k * 5 + 2, none⟩ = some (.slice A1 n1 c1) ∧ W.cell? ⟨eb, off + k * 5 + 3, none⟩ = some (.int .i64 (V k).b.t) ∧ W.cell? ⟨eb, off + k * 5 + 4, none⟩ = some (.slice A3 n3 c3)))
  have Hr0 := Lib.hid r0
  replace K := (K.oldRd r1).oldRd r3
  clear z0 z1 z2 z3 z4 r0 r1 r3 hz
  obtain ⟨eb6, off6, A6, n6, c6, B6, m6, d6, y, hA6, hbB6, hx6, ⟨z0, z1, z2, z3⟩, r6, q6⟩ := HLx.out.atF hlt
  subst hA6
  have Ex6 := Lib.hid (fun W (h : Below w.heap.size w W) => (⟨(h.cell (p := ⟨eb6, off6 + k * 4, none⟩) hbB6).trans z0, (h.cell (p := ⟨eb6, off6 + k * 4 + 1, none⟩) hbB6).trans z1, (h.cell (p := ⟨eb6, off6 + k * 4 + 2, none⟩) hbB6).trans z2, (h.cell (p := ⟨eb6, off6 + k * 4 + 3, none⟩) hbB6).trans z3⟩ : W.cell? ⟨eb6, off6 + k * 4, none⟩ = some (.int .i64 (y).s) ∧ W.cell? ⟨eb6, off6 + k * 4 + 1, none⟩ = some (.slice A6 n6 c6) ∧ W.cell? ⟨eb6, off6 + k * 4 + 2, none⟩ = some (.int .i64 (y).t) ∧ W.cell? ⟨eb6, off6 + k * 4 + 3, none⟩ = some (.slice B6 m6 d6)))
  have hki : (k : Int) < (n : Int) := by omega
  have hk0 : (0 : Int) ≤ (k : Int) := by omega
  have hcap6 := r6.caps
  have hcbp6 := q6.caps
  replace K := (K.oldRd r6).oldRd q6
  have Hx6 := Lib.hid hx6
  clear hx6 z0 z1 z2 z3 r6 q6
  have hyY : y = Y k := by
    have := Hx6.out
    rw [HY0.out k hlt] at this
    exact (Option.some.inj this).symm
  obtain ⟨e1, e2, e3, e4⟩ := Ex6.out _ K.1
  have HRt := Lib.hid (fun W a b => fRight_any y.s y.t A6 B6 n6 c6 m6 d6 y.l y.m W a b)
  have hrt : rightF y.s y.l y.t y.m = y.ok := rfl
  rw [hrt] at HRt
  cases hok : y.ok
  case false =>
    rw [hok] at HRt
    clear hrt hok hyY
    go_wp2_with fail
    refine (HRt.out _ (K.rd (by repeat (first | with_reducible exact List.mem_cons_self | with_reducible apply List.mem_cons_of_mem))) (K.rd (by repeat (first | with_reducible exact List.mem_cons_self | with_reducible apply List.mem_cons_of_mem)))).mono ?_
    rintro e W ⟨rfl, hb⟩
    replace K := K.keep hb
    clear hb
    go_wp2_with fail
    go_ret
    exact ⟨rfl, K.1⟩
  rw [hok] at HRt
  obtain ⟨q1, q2, q3⟩ := Hrow.out k hlt
  have hfy : Pt 1 y.rat := few_pt (d := 1) hok (by rw [hyY]; exact HfY.out k hlt)
  obtain ⟨hsz, fz⟩ := fv_std q2
  obtain ⟨hsy, fy⟩ := fv_std hok
  have hak := (q3.add hfy (by omega)).1
  have HAd := Lib.hid (fun W g1 g2 g3 g4 => qAdd (V k).b.rat (V k).b.s (V k).b.t y.s y.t A1 A3 A6 B6 n1 c1 n3 c3 n6 c6 m6 d6 (V k).b.l (V k).b.m y.l y.m W g1 g2 g3 g4 hsz fz (some y.rat) hsy (fun _ h => by cases h; exact fy))
  rw [addO1_ok hak, addE1_ok hak] at HAd
  obtain ⟨pr, hpr⟩ : ∃ pr, pr = (V k).b.rat + y.rat := ⟨_, rfl⟩
  rw [← hpr] at HAd
  have Hpr := Lib.hid hpr
  have HyY := Lib.hid hyY
  have Hok := Lib.hid hok
  clear hrt hok hyY hsz fz hsy fy hak hpr hfy q1 q2 q3
  go_wp2_with fail
  refine (HRt.out _ (K.rd (by repeat (first | with_reducible exact List.mem_cons_self | with_reducible apply List.mem_cons_of_mem))) (K.rd (by repeat (first | with_reducible exact List.mem_cons_self | with_reducible apply List.mem_cons_of_mem)))).mono ?_
  rintro e W ⟨rfl, hb⟩
  replace K := K.keep hb
  clear hb e1 e2 e3 e4 HRt
  have r := trivial
  go_upto_region 12 with (first | ((first | (apply K.alloc; rfl; rfl; (first | with_reducible exact big_zero | with_reducible exact frac_zero)) | (apply K.box; rfl; rfl; rfl)); clear K r; (first | ((fail_if_success revert b0); intro W b0 K) | ((fail_if_success revert b1); intro W b1 K) | ((fail_if_success revert b2); intro W b2 K) | ((fail_if_success revert b3); intro W b3 K) | ((fail_if_success revert b4); intro W b4 K) | ((fail_if_success revert b5); intro W b5 K) | ((fail_if_success revert b6); intro W b6 K) | ((fail_if_success revert b7); intro W b7 K)); have r := K.rawS) | (apply K.storeA; rfl; rfl; rfl; rfl; rfl; (repeat (first | with_reducible exact Upd.head _ | with_reducible apply Upd.tail)); (first | with_reducible exact big_size | with_reducible exact frac_size); rfl; rfl; rfl; clear K r; intro W K; have r := K.rawS))
  obtain ⟨RR, HR0⟩ := K.hideZ 40
  go_cut [11, 10] from 60 to 71 (fun e p wx => ∃ g s8 A8 n8 c8 l8 t8 B8 m8 d8 k8, e = .int .i64 0 ∧ p = .pointer (some ⟨g, 0, none⟩) ∧ OptF s8 l8 t8 k8 (some pr) ∧ (FrA w.heap.size A8 ∧ FrA w.heap.size B8) ∧ RR g #[.int .i64 s8, .slice A8 n8 c8, .int .i64 t8, .slice B8 m8 d8] A8 n8 c8 l8 B8 m8 d8 k8 wx)
  case first =>
    obtain ⟨gz1, hgz1, KA⟩ := K.newZ #[.int .i64 0, .slice none 0 0, .int .i64 0, .slice none 0 0] 40
    have rA := KA.raw
    have Kd := K.drew
    have KAd := KA.drew
    have HBd := Lib.hid (K.bel.size)
    have eA5 := Ex5.out _ KA.1
    have eK5 := Ex5.out _ K.1
    have eA6 := Ex6.out _ KA.1
    have eK6 := Ex6.out _ K.1
    simp only [Raw, RawC, RawZ, and_true, true_and, Nat.zero_add, Nat.reduceAdd] at rA
    go_region_with (first
      | (go_at_call 24; (with_reducible refine (HAd.out _ ?qa ?qb ?qc ?qd).mono ?_); (case qa => (first | with_reducible exact Kd.rd (by repeat (first | with_reducible exact List.mem_cons_self | with_reducible apply List.mem_cons_of_mem)) | with_reducible exact KAd.rd (by repeat (first | with_reducible exact List.mem_cons_self | with_reducible apply List.mem_cons_of_mem)))); (case qb => (first | with_reducible exact Kd.rd (by repeat (first | with_reducible exact List.mem_cons_self | with_reducible apply List.mem_cons_of_mem)) | with_reducible exact KAd.rd (by repeat (first | with_reducible exact List.mem_cons_self | with_reducible apply List.mem_cons_of_mem)))); (case qc => (first | with_reducible exact Kd.rd (by repeat (first | with_reducible exact List.mem_cons_self | with_reducible apply List.mem_cons_of_mem)) | with_reducible exact KAd.rd (by repeat (first | with_reducible exact List.mem_cons_self | with_reducible apply List.mem_cons_of_mem)))); (case qd => (first | with_reducible exact Kd.rd (by repeat (first | with_reducible exact List.mem_cons_self | with_reducible apply List.mem_cons_of_mem)) | with_reducible exact KAd.rd (by repeat (first | with_reducible exact List.mem_cons_self | with_reducible apply List.mem_cons_of_mem)))); rintro e W ⟨s31, A31, n31, c31, l31, t31, B31, m31, d31, k31, rfl, ⟨hra, hrb⟩, hs31, ⟨hfa, hfb⟩, hb⟩; have hF31 := Lib.hid (hfa.mono (C := w.heap.size) (by first | exact Kd.bel.size | exact KAd.bel.size)); have hG31 := Lib.hid (hfb.mono (C := w.heap.size) (by first | exact Kd.bel.size | exact KAd.bel.size)); (first | with_reducible replace K := Kd.retF hb hra hrb hfa hfb | with_reducible replace K := KAd.retF hb hra hrb hfa hfb); clear r rA KA hra hrb hfa hfb hb; have r := K.raw; have z := K.rawz; try (simp only [Raw, RawC, RawZ, and_true, true_and, Nat.zero_add, Nat.reduceAdd] at r z)))
    all_goals
      go_wp2_with fail
      go_meet
      first
        | with_reducible exact ⟨_, s31, A31, n31, c31, l31, t31, B31, m31, d31, k31, rfl, rfl, hs31, ⟨hF31.out, hG31.out⟩, (HR0 _ _ _ _ _ _ _ _ _ _ _).2 (K.new #[.int .i64 s31, .slice A31 n31 c31, .int .i64 t31, .slice B31 m31 d31] 40)⟩
        | with_reducible exact ⟨_, s31, A31, n31, c31, l31, t31, B31, m31, d31, k31, rfl, rfl, hs31, ⟨hF31.out, hG31.out⟩, (HR0 _ _ _ _ _ _ _ _ _ _ _).2 (K.set4Z (u0 := .int .i64 s31) (u1 := .slice A31 n31 c31) (u2 := .int .i64 t31) (u3 := .slice B31 m31 d31) (by repeat (first | with_reducible exact Upd.head _ | with_reducible apply Upd.tail)))⟩
        | exact ⟨_, s31, A31, n31, c31, l31, t31, B31, m31, d31, k31, rfl, rfl, hs31, ⟨hF31.out, hG31.out⟩, (HR0 _ _ _ _ _ _ _ _ _ _ _).2 (K.new #[.int .i64 s31, .slice A31 n31 c31, .int .i64 t31, .slice B31 m31 d31] 40)⟩
        | exact ⟨_, s31, A31, n31, c31, l31, t31, B31, m31, d31, k31, rfl, rfl, hs31, ⟨hF31.out, hG31.out⟩, (HR0 _ _ _ _ _ _ _ _ _ _ _).2 (K.set4Z (u0 := .int .i64 s31) (u1 := .slice A31 n31 c31) (u2 := .int .i64 t31) (u3 := .slice B31 m31 d31) (by repeat (first | with_reducible exact Upd.head _ | with_reducible apply Upd.tail)))⟩
  obtain ⟨gb9, s9, A9, n9, c9, l9, t9, B9, m9, d9, k9, rfl, rfl, hs9, ⟨hF9, hG9⟩, hk9⟩ := hcut
  replace K := (HR0 _ _ _ _ _ _ _ _ _ _ _).1 hk9
  clear r hk9 HR0
  have r := K.rawS
  have Hs9 := Lib.hid (show StdF s9 l9 t9 k9 pr from hs9)
  clear hs9 HAd r
  replace K := K.mid
  have HS15 := Lib.hid (fun W (h : Below w.heap.size w W) => (show (W.cell? ⟨eb, off + k * 5, none⟩ = some (.slice A0 n0 c0) ∧ W.cell? ⟨eb6, off6 + k * 4, none⟩ = some (.int .i64 y.s) ∧ W.cell? ⟨eb6, off6 + k * 4 + 1, none⟩ = some (.slice A6 n6 c6) ∧ W.cell? ⟨eb6, off6 + k * 4 + 2, none⟩ = some (.int .i64 y.t) ∧ W.cell? ⟨eb6, off6 + k * 4 + 3, none⟩ = some (.slice B6 m6 d6)) from ⟨(Ex5.out W h).1, (Ex6.out W h)⟩))
  go_upto_region 15 with fail
  have K0 := K.drew
  have s0 := HS15.out _ K0.1
  clear K
  refine wp_region_T 13 (fun V => (V.cell? ⟨eb, off + k * 5, none⟩ = some (.slice A0 n0 c0) ∧ V.cell? ⟨eb6, off6 + k * 4, none⟩ = some (.int .i64 y.s) ∧ V.cell? ⟨eb6, off6 + k * 4 + 1, none⟩ = some (.slice A6 n6 c6) ∧ V.cell? ⟨eb6, off6 + k * 4 + 2, none⟩ = some (.int .i64 y.t) ∧ V.cell? ⟨eb6, off6 + k * 4 + 3, none⟩ = some (.slice B6 m6 d6))) (by kernel_rfl) s0 (fun hSh => ?_)
  clear s0
  refine wpAnyT.take (i := 0) (v := ?_) rfl (by decide +kernel) (fun _ _ _ h => h) (Or.inl ⟨by rfl, ?_⟩) (by assumption) ?_
  rotate_left
  · intro w hSw
    try dsimp only at hSw
    go_simp
    try with_reducible rfl
  try simp only [Act.put, List.setIfInBounds_toArray, List.set_cons_zero, List.set_cons_succ]
  refine wpAnyT.take (i := 1) (v := ?_) rfl (by decide +kernel) (fun _ _ _ h => h) (Or.inl ⟨by rfl, ?_⟩) (by assumption) ?_
  rotate_left
  · intro w hSw
    try dsimp only at hSw
    go_simp
    try with_reducible rfl
  try simp only [Act.put, List.setIfInBounds_toArray, List.set_cons_zero, List.set_cons_succ]
  refine wpAnyT.take (i := 2) (v := ?_) rfl (by decide +kernel) (fun _ _ _ h => h) (Or.inl ⟨by rfl, ?_⟩) (by assumption) ?_
  rotate_left
  · intro w hSw
    try dsimp only at hSw
    go_simp
    try with_reducible rfl
  try simp only [Act.put, List.setIfInBounds_toArray, List.set_cons_zero, List.set_cons_succ]
  refine wpAnyT.take (i := 3) (v := ?_) rfl (by decide +kernel) (fun _ _ _ h => h) (Or.inl ⟨by rfl, ?_⟩) (by assumption) ?_
  rotate_left
  · intro w hSw
    try dsimp only at hSw
    go_simp
    try with_reducible rfl
  try simp only [Act.put, List.setIfInBounds_toArray, List.set_cons_zero, List.set_cons_succ]
  refine wpAnyT.take (i := 4) (v := ?_) rfl (by decide +kernel) (fun _ _ _ h => h) (Or.inl ⟨by rfl, ?_⟩) (by assumption) ?_
  rotate_left
  · intro w hSw
    try dsimp only at hSw
    go_simp
    try with_reducible rfl
  try simp only [Act.put, List.setIfInBounds_toArray, List.set_cons_zero, List.set_cons_succ]
  refine wpAnyT.take (i := 5) (v := ?_) rfl (by decide +kernel) (fun _ _ _ h => h) (Or.inl ⟨by rfl, ?_⟩) (by assumption) ?_
  rotate_left
  · intro w hSw
    try dsimp only at hSw
    go_simp
    try with_reducible rfl
  try simp only [Act.put, List.setIfInBounds_toArray, List.set_cons_zero, List.set_cons_succ]
  refine wpAnyT.take (i := 6) (v := ?_) rfl (by decide +kernel) (fun _ _ _ h => h) (Or.inl ⟨by rfl, ?_⟩) (by assumption) ?_
  rotate_left
  · intro w hSw
    try dsimp only at hSw
    go_simp
    try with_reducible rfl
  try simp only [Act.put, List.setIfInBounds_toArray, List.set_cons_zero, List.set_cons_succ]
  refine wpAnyT.take (i := 7) (v := ?_) rfl (by decide +kernel) (fun _ _ _ h => h) (Or.inl ⟨by rfl, ?_⟩) (by assumption) ?_
  rotate_left
  · intro w hSw
    try dsimp only at hSw
    go_simp
    try with_reducible rfl
  try simp only [Act.put, List.setIfInBounds_toArray, List.set_cons_zero, List.set_cons_succ]
  refine wpAnyT.take (i := 8) (v := ?_) rfl (by decide +kernel) (fun _ _ _ h => h) (Or.inl ⟨by rfl, ?_⟩) (by assumption) ?_
  rotate_left
  · intro w hSw
    try dsimp only at hSw
    go_simp
    try with_reducible rfl
  try simp only [Act.put, List.setIfInBounds_toArray, List.set_cons_zero, List.set_cons_succ]
  refine wpAnyT.take (i := 9) (v := ?_) rfl (by decide +kernel) (fun _ _ _ h => h) (Or.inl ⟨by rfl, ?_⟩) (by assumption) ?_
  rotate_left
  · intro w hSw
    try dsimp only at hSw
    go_simp
    try with_reducible rfl
  try simp only [Act.put, List.setIfInBounds_toArray, List.set_cons_zero, List.set_cons_succ]
  refine wpAnyT.one (i := 10) rfl rfl (by kernel_rfl) (fun KK hKK => ?_)
  go_simp
  refine hKK.out _ _ (by assumption) (fun hSh => ?_)
  clear hKK KK
  try simp only [Act.put, List.setIfInBounds_toArray, List.set_cons_zero, List.set_cons_succ]
  refine wpAnyT.one (i := 11) rfl rfl (by kernel_rfl) (fun KK hKK => ?_)
  refine K0.litOp _ _ rfl _ rfl _ _ (run_litR _ _ _ _ _ _ _ _ _ _ _ _) ?_
  intro g W6 k6
  refine hKK.out _ _ (HS15.out _ k6.1) (fun hSh => ?_)
  clear hKK KK
  try simp only [Act.put, List.setIfInBounds_toArray, List.set_cons_zero, List.set_cons_succ]
  replace k6 := k6.mid
  refine wpAnyT.one (i := 12) rfl rfl (by kernel_rfl) (fun KK hKK => ?_)
  refine k6.appOp Ho1.out rr_sized _ _ 22 rfl _ 88 Try.underlying22 row_made rfl rfl (⟨A0, n0, c0, (V k).a, ⟨y.s, A6, n6, c6, y.l, y.t, B6, m6, d6, y.m⟩⟩ : Rr) g _ (by exact List.mem_cons_self) rfl (by rw [ofF_len]; omega) (by omega) ?_
  intro v8 X8 W8 ho8 k8
  replace k8 := k8.cutm
  refine hKK.out _ _ (HS15.out _ k8.1) (fun hSh => ?_)
  clear hKK KK
  try simp only [Act.put, List.setIfInBounds_toArray, List.set_cons_zero, List.set_cons_succ]
  refine wpAnyT.last rfl (by kernel_rfl) ?_
  rw [ofF_put] at ho8
  have hy1 : (⟨(⟨A0, n0, c0, (V k).a, ⟨y.s, A6, n6, c6, y.l, y.t, B6, m6, d6, y.m⟩⟩ : Rr).on, _⟩ : Hl).ok (X8 ++ ((gb9, #[.int .i64 s9, .slice A9 n9 c9, .int .i64 t9, .slice B9 m9 d9], 40) :: (X2 ++ []))) W8 := (k8.okOld fun V h1 h2 => Hr0.out.keep fE_lasts h1 (fun p hp => cell_of (h2 _ hp))).and ((k8.okAt (x := ⟨rdP A6 n6 c6 y.l, oldS w⟩) (by repeat (first | with_reducible exact List.mem_cons_self | with_reducible apply List.mem_cons_of_mem))).and (k8.okAt (x := ⟨rdP B6 m6 d6 y.m, oldS w⟩) (by repeat (first | with_reducible exact List.mem_cons_self | with_reducible apply List.mem_cons_of_mem))))
  replace k8 := k8.rrAdd (u := u1) (S := S1) (by repeat (first | with_reducible exact List.mem_cons_self | with_reducible apply List.mem_cons_of_mem)) _ _ hy1
  have Ho8 := Lib.hid ho8
  obtain ⟨Ah8, nh8, ch8, hvs8⟩ := ho8.shape
  subst hvs8
  clear k6 K0 ho8 Ho1 hSh hy1
  have HS16 := Lib.hid (fun W (h : Below w.heap.size w W) (hB : Hb W gb9 #[.int .i64 s9, .slice A9 n9 c9, .int .i64 t9, .slice B9 m9 d9] 40) => (show (W.cell? ⟨eb, off + k * 5, none⟩ = some (.slice A0 n0 c0) ∧ W.cell? ⟨gb9, 0, none⟩ = some (.int .i64 s9) ∧ W.cell? ⟨gb9, 1, none⟩ = some (.slice A9 n9 c9) ∧ W.cell? ⟨gb9, 2, none⟩ = some (.int .i64 t9) ∧ W.cell? ⟨gb9, 3, none⟩ = some (.slice B9 m9 d9)) from ⟨(Ex5.out W h).1, hB.cell rfl, hB.cell rfl, hB.cell rfl, hB.cell rfl⟩))
  replace k8 := k8.perm swapX
  go_upto_region 16 with fail
  have K0 := k8.drew
  have s0 := HS16.out _ K0.1 (K0.blk (by repeat (first | with_reducible exact List.mem_cons_self | with_reducible apply List.mem_cons_of_mem | with_reducible apply List.mem_append_right)))
  clear k8
  refine wp_region_T 10 (fun V => (V.cell? ⟨eb, off + k * 5, none⟩ = some (.slice A0 n0 c0) ∧ V.cell? ⟨gb9, 0, none⟩ = some (.int .i64 s9) ∧ V.cell? ⟨gb9, 1, none⟩ = some (.slice A9 n9 c9) ∧ V.cell? ⟨gb9, 2, none⟩ = some (.int .i64 t9) ∧ V.cell? ⟨gb9, 3, none⟩ = some (.slice B9 m9 d9))) (by kernel_rfl) s0 (fun hSh => ?_)
  clear s0
  refine wpAnyT.take (i := 0) (v := ?_) rfl (by decide +kernel) (fun _ _ _ h => h) (Or.inl ⟨by rfl, ?_⟩) (by assumption) ?_
  rotate_left
  · intro w hSw
    try dsimp only at hSw
    go_simp
    try with_reducible rfl
  try simp only [Act.put, List.setIfInBounds_toArray, List.set_cons_zero, List.set_cons_succ]
  refine wpAnyT.take (i := 1) (v := ?_) rfl (by decide +kernel) (fun _ _ _ h => h) (Or.inl ⟨by rfl, ?_⟩) (by assumption) ?_
  rotate_left
  · intro w hSw
    try dsimp only at hSw
    go_simp
    try with_reducible rfl
  try simp only [Act.put, List.setIfInBounds_toArray, List.set_cons_zero, List.set_cons_succ]
  refine wpAnyT.take (i := 2) (v := ?_) rfl (by decide +kernel) (fun _ _ _ h => h) (Or.inl ⟨by rfl, ?_⟩) (by assumption) ?_
  rotate_left
  · intro w hSw
    try dsimp only at hSw
    go_simp
    try with_reducible rfl
  try simp only [Act.put, List.setIfInBounds_toArray, List.set_cons_zero, List.set_cons_succ]
  refine wpAnyT.take (i := 3) (v := ?_) rfl (by decide +kernel) (fun _ _ _ h => h) (Or.inl ⟨by rfl, ?_⟩) (by assumption) ?_
  rotate_left
  · intro w hSw
    try dsimp only at hSw
    go_simp
    try with_reducible rfl
  try simp only [Act.put, List.setIfInBounds_toArray, List.set_cons_zero, List.set_cons_succ]
  refine wpAnyT.take (i := 4) (v := ?_) rfl (by decide +kernel) (fun _ _ _ h => h) (Or.inl ⟨by rfl, ?_⟩) (by assumption) ?_
  rotate_left
  · intro w hSw
    try dsimp only at hSw
    go_simp
    try with_reducible rfl
  try simp only [Act.put, List.setIfInBounds_toArray, List.set_cons_zero, List.set_cons_succ]
  refine wpAnyT.take (i := 5) (v := ?_) rfl (by decide +kernel) (fun _ _ _ h => h) (Or.inl ⟨by rfl, ?_⟩) (by assumption) ?_
  rotate_left
  · intro w hSw
    try dsimp only at hSw
    go_simp
    try with_reducible rfl
  try simp only [Act.put, List.setIfInBounds_toArray, List.set_cons_zero, List.set_cons_succ]
  refine wpAnyT.take (i := 6) (v := ?_) rfl (by decide +kernel) (fun _ _ _ h => h) (Or.inl ⟨by rfl, ?_⟩) (by assumption) ?_
  rotate_left
  · intro w hSw
    try dsimp only at hSw
    go_simp
    try with_reducible rfl
  try simp only [Act.put, List.setIfInBounds_toArray, List.set_cons_zero, List.set_cons_succ]
  refine wpAnyT.one (i := 7) rfl rfl (by kernel_rfl) (fun KK hKK => ?_)
  go_simp
  refine hKK.out _ _ (by assumption) (fun hSh => ?_)
  clear hKK KK
  try simp only [Act.put, List.setIfInBounds_toArray, List.set_cons_zero, List.set_cons_succ]
  refine wpAnyT.one (i := 8) rfl rfl (by kernel_rfl) (fun KK hKK => ?_)
  refine K0.litOp _ _ rfl _ rfl _ _ (run_litR _ _ _ _ _ _ _ _ _ _ _ _) ?_
  intro g W6 k6
  refine hKK.out _ _ (HS16.out _ k6.1 (k6.blk (by repeat (first | with_reducible exact List.mem_cons_self | with_reducible apply List.mem_cons_of_mem | with_reducible apply List.mem_append_right)))) (fun hSh => ?_)
  clear hKK KK
  try simp only [Act.put, List.setIfInBounds_toArray, List.set_cons_zero, List.set_cons_succ]
  replace k6 := k6.mid
  refine wpAnyT.one (i := 9) rfl rfl (by kernel_rfl) (fun KK hKK => ?_)
  refine k6.appOp Ho2.out rr_sized _ _ 22 rfl _ 88 Try.underlying22 row_made rfl rfl (⟨A0, n0, c0, (V k).a, ⟨s9, A9, n9, c9, l9, t9, B9, m9, d9, k9⟩⟩ : Rr) g _ (by exact List.mem_cons_self) rfl (by rw [ofF_len]; omega) (by omega) ?_
  intro v9 X9 W9 ho9 k9'
  replace k9' := k9'.cutm
  refine hKK.out _ _ (HS16.out _ k9'.1 (k9'.blk (by repeat (first | with_reducible exact List.mem_cons_self | with_reducible apply List.mem_cons_of_mem | with_reducible apply List.mem_append_right)))) (fun hSh => ?_)
  clear hKK KK
  try simp only [Act.put, List.setIfInBounds_toArray, List.set_cons_zero, List.set_cons_succ]
  refine wpAnyT.last rfl (by kernel_rfl) ?_
  rw [ofF_put] at ho9
  have hy2 : (⟨(⟨A0, n0, c0, (V k).a, ⟨s9, A9, n9, c9, l9, t9, B9, m9, d9, k9⟩⟩ : Rr).on, _⟩ : Hl).ok (X9 ++ ((gb9, #[.int .i64 s9, .slice A9 n9 c9, .int .i64 t9, .slice B9 m9 d9], 40) :: (X8 ++ []))) W9 := (k9'.okOld fun V h1 h2 => Hr0.out.keep fE_lasts h1 (fun p hp => cell_of (h2 _ hp))).and (k9'.okR (x := ⟨s9, A9, n9, c9, l9, t9, B9, m9, d9, k9⟩) (by repeat (first | with_reducible exact List.mem_cons_self | with_reducible apply List.mem_cons_of_mem)) (by repeat (first | with_reducible exact List.mem_cons_self | with_reducible apply List.mem_cons_of_mem)))
  replace k9' := k9'.rrAdd (u := u2) (S := S2) (by repeat (first | with_reducible exact List.mem_cons_self | with_reducible apply List.mem_cons_of_mem)) _ _ hy2
  have Ho9 := Lib.hid ho9
  obtain ⟨Ah9, nh9, ch9, hvs9⟩ := ho9.shape
  subst hvs9
  have HU2 := Lib.hid (show ∀ j, j < k + 1 → (Y j).ok = true ∧ (putF u1 k (⟨A0, n0, c0, (V k).a, ⟨y.s, A6, n6, c6, y.l, y.t, B6, m6, d6, y.m⟩⟩ : Rr) j).rv = ⟨(V j).a, Y j⟩ ∧ (putF u2 k (⟨A0, n0, c0, (V k).a, ⟨s9, A9, n9, c9, l9, t9, B9, m9, d9, k9⟩⟩ : Rr) j).rv = ⟨(V j).a, fvQ ((V j).b.rat + (Y j).rat)⟩ from fun j hj => by
    by_cases e : j = k
    · rw [e, putF_same, putF_same, ← HyY.out]
      refine ⟨Hok.out, rfl, ?_⟩
      show (⟨(V k).a, ⟨s9, l9, t9, k9⟩⟩ : Rv) = _
      rw [Hs9.out.fv, Hpr.out]
    · rw [putF_other e, putF_other e]; exact HU.out j (by omega))
  have HK := Lib.hid (⟨_, _, (k9'.cutm).front.less (fun z hz => (List.mem_cons.1 hz).elim (fun e => by rw [e]; exact (by repeat (first | with_reducible exact List.mem_cons_self | with_reducible apply List.mem_cons_of_mem))) (fun hz => by rw [List.mem_singleton.1 hz]; exact (by repeat (first | with_reducible exact List.mem_cons_self | with_reducible apply List.mem_cons_of_mem))))⟩ : ∃ Sa Sb, St w (X8 ++ (X9 ++ [])) [rrF (k + 1) (putF u1 k ⟨A0, n0, c0, (V k).a, ⟨y.s, A6, n6, c6, y.l, y.t, B6, m6, d6, y.m⟩⟩) Sa, rrF (k + 1) (putF u2 k ⟨A0, n0, c0, (V k).a, ⟨s9, A9, n9, c9, l9, t9, B9, m9, d9, k9⟩⟩) Sb] W9)
  clear k9' k6 K0 ho9 Ho2 hSh hy2 HU
  go_wp2_with fail
  go_roundg (n - (k + 1))
  case rel =>
    obtain ⟨Sa, Sb, hK⟩ := HK.out
    exact ⟨k + 1, _, Sa, _, Sb, X8, X9, hlt, rfl, by go_num, HU2, Ho8.out, Ho9.out, hK⟩
  case measure => omega
end Go.Proofs.Ytdlcglndhhndpaa
