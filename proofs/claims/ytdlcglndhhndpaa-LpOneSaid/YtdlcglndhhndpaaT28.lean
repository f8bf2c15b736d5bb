/- Laws and walks laid together; the conditions stand in each theorem. -/
import Derived.Test.YtdlcglndhhndpaaT27
import Derived.Test.YtdlcglndhhndpaaT26
set_option linter.unusedSimpArgs false
set_option linter.unusedVariables false
namespace Go.Proofs.Ytdlcglndhhndpaa
open Go.RowKit
theorem ZQ5 {p : Prop} (h : p := by
  first
    | (go_loopg [37] N (fun gk s37 wr => ∃ (j : Nat) (v : Nat → Rw) (x : Nat → Rat), j ≤ N ∧ gk = N - j ∧ s37 = .int .i64 j ∧ Hid (∀ u, u < m → isQ (v u) (x u)) ∧ Hid (PutX G.free (G.a rr) m N j x0 x) ∧ St w0 ((g, rwA m v [], 40) :: (Ld ++ L1)) (⟨rwP m v, rwS m v⟩ :: (Dd ++ D)) wr)
       case atStart => exact ⟨0, v1, x0, Nat.zero_le _, rfl, rfl, HV1, Lib.hid (PutX.zero _ _ _ _ _), K⟩
       case round =>
         clear K HV1
         obtain ⟨j, v2, x2, hj, rfl, rfl, HV2, HP, K⟩ := hrel
         by_cases hlt : j < N
         · have hji : (j : Int) < (N : Int) := by omega
           have hj0 : (0 : Int) ≤ (j : Int) := by omega
           have hlf := HOk.out.lf j hlt
           obtain ⟨vb, vo, hA, hvb, hcc⟩ := RdI.cellAt (HFR.out _ _ _ (by repeat (first | exact List.sublist_append_left _ _ | apply List.Sublist.cons)) K).2 hlt
           subst hA
           rw [gi_ofF hlt] at hcc
           by_cases hge : N ≤ G.free j
           · obtain ⟨u, hu⟩ : ∃ u, G.free j = N + u := ⟨G.free j - N, by omega⟩
             have hum : u < m := by omega
             have hgi : ((G.free j : Nat) : Int) ≥ (N : Int) := by omega
             have hgd : decide (N ≤ G.free j) = true := decide_eq_true hge
             have hws : IntKind.i64.wrap (((G.free j : Nat) : Int) - (N : Int)) = (u : Int) := by
               rw [IntWalk.i64_in _ (by omega)]
               omega
             have Hu := Lib.hid hu
             have hui : (u : Int) < (m : Int) := by omega
             have hu0 : (0 : Int) ≤ (u : Int) := by omega
             obtain ⟨hb, hc, rb, cp, x, hx, hcap1, hcap2, hW⟩ := HD.out.elem (L := ((g, rwA m v2 [], 40) :: (Ld ++ L1))) (by repeat (first | exact List.sublist_append_left _ _ | apply List.Sublist.cons)) Hrm.out hlt
             obtain ⟨⟨y1, y2⟩, ⟨y3, y4, y5, y6⟩, hK⟩ := hW _ _ K
             replace K := hK (fun x hx => by first | exact List.mem_append_left _ hx | exact List.mem_cons_of_mem _ (List.mem_append_left _ hx) | exact List.mem_cons_of_mem _ (List.mem_cons_of_mem _ (List.mem_append_left _ hx)) | exact List.mem_cons_of_mem _ (List.mem_cons_of_mem _ (List.mem_cons_of_mem _ (List.mem_append_left _ hx))))
             have HX := Lib.hid hx
             have HP2 := Lib.hid (HP.out.put (fun i hi e => by have := HOk.out.jf i j (by omega) hlt e; omega) hu)
             have Hum := Lib.hid hum
             clear hW hK hx hu hlf HP hvb
             have hB := K.blk (b := g) (cs := rwA m v2 []) (t := 40) ZMB
             have d0 : wr.cell? ⟨g, u * 4, none⟩ = some (.int .i64 (v2 u).s) := hB.cell (rwA_get (j := 0) Hum.out (by omega))
             have d1 : wr.cell? ⟨g, u * 4 + 1, none⟩ = some (.slice (v2 u).A (v2 u).n (v2 u).c) := hB.cell (rwA_get (j := 1) Hum.out (by omega))
             have d2 : wr.cell? ⟨g, u * 4 + 2, none⟩ = some (.int .i64 (v2 u).t) := hB.cell (rwA_get (j := 2) Hum.out (by omega))
             have d3 : wr.cell? ⟨g, u * 4 + 3, none⟩ = some (.slice (v2 u).B (v2 u).m (v2 u).d) := hB.cell (rwA_get (j := 3) Hum.out (by omega))
             have zz := K.thaw (g := g) (cs := rwA m v2 []) (t := 40) ZMB
             have HK := Lib.hid (((K.setR (v := v2) (J := []) (t := 40) x Hum.out (Upd.head _)).rwPut (v := v2) x u ZMB ZMB ZMB).lessS (D' := ⟨rwP m (putF v2 u x), rwS m (putF v2 u x)⟩ :: (Dd ++ D)) (by repeat (first | with_reducible exact List.Sublist.refl _ | with_reducible apply List.Sublist.cons_cons | with_reducible apply List.Sublist.cons)))
             clear hB K
             go_wp2_with fail
             have HV3 := Lib.hid (show ∀ i, i < m → isQ (putF v2 u x i) (putF x2 u (G.a rr j) i) from fun i hi => by
               by_cases e : i = u
               · rw [e, putF_same, putF_same]; exact HX.out
               · rw [putF_other e, putF_other e]; exact HV2.out i hi)
             clear HX HV2
             go_roundg (N - (j + 1))
             case rel => exact ⟨j + 1, _, _, hlt, rfl, by go_num, HV3, HP2, HK.out⟩
             case measure => omega
           · have hgi : ¬ ((G.free j : Nat) : Int) ≥ (N : Int) := by omega
             have hgd : decide (N ≤ G.free j) = false := decide_eq_false hge
             have HP2 := Lib.hid (HP.out.skip (fun h => hge h.1))
             clear hlf HP hvb
             go_wp2_with fail
             go_roundg (N - (j + 1))
             case rel => exact ⟨j + 1, _, _, hlt, rfl, by go_num, HV2, HP2, K⟩
             case measure => omega
         · have e : j = N := by omega
           have HP2 := Lib.hid (show PutX G.free (G.a rr) m N N x0 x2 from by have := HP.out; rw [e] at this; exact this)
           have HE := Lib.hid (show ConP w0 Ld L1 Dd D m (yC N G rr) (.returned (.slice (some ⟨g, 0, none⟩) m m)) wr from ⟨g, v2, rfl, Lib.hid (HEND.out v2 x2 HV2.out HP2.out), K⟩)
           clear K HP HV2 HEND
           go_wp2_with fail
           go_ret
           exact HE.out)
    | fail) : p := h
def PutX (f : Nat → Nat) (val : Nat → Rat) (n lo k : Nat) (x0 x : Nat → Rat) : Prop := ∀ u, u < n → x u = match idxP f (lo + u) k with
  | some i => val i
  | none => x0 u
theorem PutX.zero (f : Nat → Nat) (val : Nat → Rat) (n lo : Nat) (x0 : Nat → Rat) : PutX f val n lo 0 x0 x0 := fun u _ => rfl
theorem PutX.skip {f : Nat → Nat} {val : Nat → Rat} {n lo k : Nat} {x0 x : Nat → Rat} (h : PutX f val n lo k x0 x) (hf : ¬ (lo ≤ f k ∧ f k < lo + n)) : PutX f val n lo (k + 1) x0 x := fun u hu => by
  rw [h u hu, idxP]
  cases e : idxP f (lo + u) k with
  | some i => rfl
  | none =>
    rw [if_neg (by omega)]
theorem PutX.put {f : Nat → Nat} {val : Nat → Rat} {n lo k : Nat} {x0 x : Nat → Rat} (h : PutX f val n lo k x0 x) (hinj : ∀ i, i < k → f i ≠ f k) {v : Nat} (hv : f k = lo + v) : PutX f val n lo (k + 1) x0 (putF x v (val k)) := fun u hu => by
  rw [idxP]
  by_cases e : u = v
  · subst e
    rw [putF_same, idxP_out (fun i hi => by rw [← hv]; exact hinj i hi), ← hv, if_pos rfl]
  · rw [putF_other e, h u hu]
    cases e2 : idxP f (lo + u) k with
    | some i => rfl
    | none => rw [if_neg (by omega)]
section
variable {m N db : Nat} {b : Bool} {G : Dc} {Ld : List Blk} {Dd : List Hl} {w0 W : World} {L1 : List Blk} {D : List Hl}
theorem DicL.ownA (h : DicL m N db b G Ld Dd) (hm : m ≤ 1000) : ∃ A c, ∀ (L : List Blk) (W : World) (D : List Hl), Ld.Sublist L → St w0 L D W → W.cell? ⟨db, 7, none⟩ = some (.slice A m c) ∧ RdI W W.heap.size A m c (ofF m (fun i => ((G.own i : Nat) : Int))) := by
  obtain ⟨hR, hO, hF, gv, hd, Y, V, Xr, Xo, Xf, Xs, h1, h2, h3, h4, h5, rfl, -⟩ := h
  refine ⟨hO.A, hO.c, fun L W D hs K => ?_⟩
  have hmem := hs.subset List.mem_cons_self
  have hsub : Xo.Sublist L := ((List.sublist_append_left Xo _).trans ((List.sublist_append_right Xr _).trans (List.sublist_cons_self _ _))).trans hs
  exact ZQ59
theorem DicL.freeA (h : DicL m N db b G Ld Dd) (hN : N ≤ 1000) : ∃ A c, ∀ (L : List Blk) (W : World) (D : List Hl), Ld.Sublist L → St w0 L D W → W.cell? ⟨db, 8, none⟩ = some (.slice A N c) ∧ RdI W W.heap.size A N c (ofF N (fun i => ((G.free i : Nat) : Int))) := by
  obtain ⟨hR, hO, hF, gv, hd, Y, V, Xr, Xo, Xf, Xs, h1, h2, h3, h4, h5, rfl, -⟩ := h
  refine ⟨hF.A, hF.c, fun L W D hs K => ?_⟩
  have hmem := hs.subset List.mem_cons_self
  have hsub : Xf.Sublist L := ((List.sublist_append_left Xf _).trans ((List.sublist_append_right Xo _).trans ((List.sublist_append_right Xr _).trans (List.sublist_cons_self _ _)))).trans hs
  exact ZQ58
def ConP (w0 : World) (Ld L1 : List Blk) (Dd D : List Hl) (n : Nat) (x : Nat → Rat) (e : Ending) (W' : World) : Prop :=
  ∃ (g : Nat) (v : Nat → Rw), e = Ending.returned (.slice (some ⟨g, 0, none⟩) n n) ∧ Hid (∀ j, j < n → isQ (v j) (x j)) ∧ St w0 ((g, rwA n v [], 40) :: (Ld ++ L1)) (⟨rwP n v, rwS n v⟩ :: (Dd ++ D)) W'
set_option maxRecDepth 100000 in
set_option maxHeartbeats 8000000 in
theorem contradiction_any (HL : DicL m N db b G Ld Dd) (K : St w0 (Ld ++ L1) (Dd ++ D) W) (hOk : G.Ok m N) (hm : m ≤ 1000) (hN : N ≤ 1000) {rr : Nat} (hr : rr < m) :
    Calls Try.prog 70 #[.pointer (some ⟨db, 0, none⟩), .int .i64 N, .int .i64 rr] W (ConP w0 Ld L1 Dd D m (yC N G rr)) := by
  have HD := Lib.hid HL
  have HOk := Lib.hid hOk
  have Hrm := Lib.hid hr
  obtain ⟨A0, k0, hrows⟩ := HL.rowsR (L := Ld ++ L1) (by repeat (first | exact List.sublist_append_left _ _ | apply List.Sublist.cons))
  have cr := hrows _ _ K
  have hri : (rr : Int) < (m : Int) := by omega
  have hr0 : (0 : Int) ≤ (rr : Int) := by omega
  clear hOk HL hrows
  go_enter Try.func70, Try.ntmps70
  go_wp2_with fail
  refine (zeros_any m w0 W _ _ K hm).mono ?_
  rintro e W1 ⟨g, v, rfl, hv, K1⟩
  clear K cr
  have K := K1
  clear K1
  obtain ⟨A1, k1, hown⟩ := HD.out.ownR (L := ((g, rwA m v [], 40) :: (Ld ++ L1))) (by repeat (first | exact List.sublist_append_left _ _ | apply List.Sublist.cons)) hm
  have co := (hown _ _ K).1
  obtain ⟨vb, vo, hA, hvb, hcc⟩ := RdI.cellAt (hown _ _ K).2 Hrm.out
  subst hA
  rw [gi_ofF Hrm.out] at hcc
  have hcp1 := (hown _ _ K).2.caps
  have hlo := HOk.out.lo rr Hrm.out
  clear hown hvb
  obtain ⟨x0, hx0⟩ : ∃ x0 : Nat → Rat, x0 = fun u => if G.own rr = N + u then 1 else 0 := ⟨_, rfl⟩
  have HX0 := Lib.hid hx0
  have HEND := Lib.hid (fun (v : Nat → Rw) (x : Nat → Rat) (h1 : ∀ u, u < m → isQ (v u) (x u)) (h2 : PutX G.free (G.a rr) m N N x0 x) => (show ∀ u, u < m → isQ (v u) (yC N G rr u) from fun u hu => by
    have h3 := h1 u hu
    rw [h2 u hu] at h3
    unfold yC
    by_cases e0 : G.own rr = N + u
    · rw [if_pos e0]
      rw [idxP_out (fun j hj e2 => HOk.out.ne rr j Hrm.out hj (by rw [e0, e2]))] at h3
      rw [hx0] at h3
      simp only [if_pos e0] at h3
      exact h3
    · rw [if_neg e0]
      cases e2 : idxP G.free (N + u) N with
      | some j => rw [e2] at h3; exact h3
      | none =>
        rw [e2, hx0] at h3
        simp only [if_neg e0] at h3
        exact h3))
  clear hx0
  obtain ⟨A2, k2, hfree⟩ := HD.out.freeA (w0 := w0) hN
  have HFR := Lib.hid hfree
  have cf := (hfree _ _ _ (by repeat (first | exact List.sublist_append_left _ _ | apply List.Sublist.cons)) K).1
  clear hfree
  by_cases hge : N ≤ G.own rr
  · obtain ⟨u, hu⟩ : ∃ u, G.own rr = N + u := ⟨G.own rr - N, by omega⟩
    have hum : u < m := by omega
    have hws : IntKind.i64.wrap (((G.own rr : Nat) : Int) - (N : Int)) = (u : Int) := by
      rw [IntWalk.i64_in _ (by omega)]
      omega
    have hui : (u : Int) < (m : Int) := by omega
    have hu0 : (0 : Int) ≤ (u : Int) := by omega
    have hgd : decide ((u : Int) ≥ 0) = true := decide_eq_true hu0
    have HNu := Lib.hid (fun V L5 D5 (h : St w0 L5 D5 V) => (pnumber_any 1 V (by decide)).mono fun e W6 ⟨s7, A7, n7, c7, l7, t7, B7, m7, d7, k7, he, ⟨hra, hrb⟩, ho, ⟨hfa, hfb⟩, hbl⟩ => (⟨⟨s7, A7, n7, c7, l7, t7, B7, m7, d7, k7⟩, he, Lib.hid (⟨ho, by decide +kernel⟩ : isQ ⟨s7, A7, n7, c7, l7, t7, B7, m7, d7, k7⟩ 1), h.retF hbl hra hrb hfa hfb⟩ : ∃ z : Rw, e = Ending.returned (.agg #[.int .i64 z.s, .slice z.A z.n z.c, .int .i64 z.t, .slice z.B z.m z.d]) ∧ Hid (isQ z 1) ∧ St w0 L5 (⟨rdP z.B z.m z.d z.k, rdS z.B z.m⟩ :: ⟨rdP z.A z.n z.c z.l, rdS z.A z.n⟩ :: D5) W6))
    have HV0 := Lib.hid (show ∀ z : Rw, isQ z 1 → ∀ i, i < m → isQ (putF v u z i) (x0 i) from fun z hz i hi => by
      rw [HX0.out]
      by_cases e : i = u
      · rw [e, putF_same]
        simp only [hu, if_true]
        exact hz
      · rw [putF_other e]
        simp only [hu]
        rw [if_neg (by omega)]
        exact hv.out i hi)
    have Hum := Lib.hid hum
    clear hu hlo hv HX0
    go_wp2_with (first
      | (go_at_call 100; refine (HNu.out _ _ _ K).mono ?_; rintro e w3 ⟨z, rfl, gz, K3⟩)
      | (refine K3.storeR rfl rfl _ _ _ rfl g u m z rfl rfl Hum.out ZUA frac_size ?_; clear co cf; intro W8 K8; have cf := (HFR.out _ _ _ (by repeat (first | exact List.sublist_append_left _ _ | apply List.Sublist.cons)) K8).1))
    have HV1 := Lib.hid (HV0.out z gz.out)
    replace K := ((K8.rwPut (v := v) z u ZMB ZMB ZMB).lessS (D' := ⟨rwP m (putF v u z), rwS m (putF v u z)⟩ :: (Dd ++ D)) (by repeat (first | with_reducible exact List.Sublist.refl _ | with_reducible apply List.Sublist.cons_cons | with_reducible apply List.Sublist.cons)))
    obtain ⟨v1, hv1⟩ : ∃ v1, v1 = putF v u z := ⟨_, rfl⟩
    rw [← hv1] at K HV1
    clear hv1 K3 K8 HV0 HNu gz hcc
    exact ZQ5
  · have hws : IntKind.i64.wrap (((G.own rr : Nat) : Int) - (N : Int)) = ((G.own rr : Nat) : Int) - (N : Int) := IntWalk.i64_in _ (by omega)
    have hgi : ¬ ((G.own rr : Nat) : Int) - (N : Int) ≥ 0 := by omega
    have hgd : decide (((G.own rr : Nat) : Int) - (N : Int) ≥ 0) = false := decide_eq_false hgi
    have hgn : decide (N ≤ G.own rr) = false := decide_eq_false hge
    have HV1 := Lib.hid (show ∀ i, i < m → isQ (v i) (x0 i) from fun i hi => by
      rw [HX0.out]
      show isQ (v i) (if G.own rr = N + i then 1 else 0)
      rw [if_neg (by omega)]
      exact hv.out i hi)
    obtain ⟨v1, hv1⟩ : ∃ v1, v1 = v := ⟨_, rfl⟩
    rw [← hv1] at K HV1
    clear hv1 hlo hv HX0
    go_wp2_with fail
    exact ZQ5
end
end Go.Proofs.Ytdlcglndhhndpaa
