/- Laws and walks; conditions stand in each theorem. -/
import Derived.Test.YtdlcglndhhndpaaGreatP28
import Derived.Test.YtdlcglndhhndpaaGreatP27
set_option linter.unusedSimpArgs false
set_option linter.unusedVariables false
set_option maxHeartbeats 8000000
set_option maxRecDepth 100000
namespace Go.Proofs.YtdlcglndhhndpaaGreat
open Go.RowKit
theorem ZQ5 {p : Prop} (h : p := by
 first
  | (go_loopg [37] N (fun gk s37 wr => ∃ (j : Nat) (v : Nat → Rw) (x : Nat → Rat), j ≤ N ∧ gk = N - j ∧ s37 = .int .i64 j ∧ Hid (∀ u, u < m → isQ (v u) (x u)) ∧ Hid (PutX G.free (G.a rr) m N j x0 x) ∧ St w0 ((g, rwA m v [], 50) :: (Ld ++ L1)) (⟨rwP m v, rwS m v⟩ :: (Dd ++ D)) wr)
     case atStart => exact ⟨0, v1, x0, Nat.zero_le _, rfl, rfl, HV1, Lib.hid (PutX.zero _ _ _ _ _), K⟩
     case round =>
      clear K HV1
      obtain ⟨j, v2, x2, hj, rfl, rfl, HV2, HP, K⟩ := hrel
      by_cases hlt : j < N
      · have hji : (j : Int) < (N : Int) := by omega
        have hj0 : (0 : Int) ≤ (j : Int) := by omega
        have hlf := HOk.out.lf j hlt
        obtain ⟨vb, vo, hA, hvb, hcc⟩ := RdI.cellAt (HFR.out _ _ _ (by repeat (first | exact List.sublist_append_left _ _ | apply List.Sublist.cons)) K).2 hlt
        subst hA
        rw [gi_ofF hlt] at hcc
        by_cases hge : N ≤ G.free j
        · obtain ⟨u, hu⟩ : ∃ u, G.free j = N + u := ⟨G.free j - N, by omega⟩
          have hum : u < m := by omega
          have hgi : ((G.free j : Nat) : Int) ≥ (N : Int) := by omega
          have hgd : decide (N ≤ G.free j) = true := decide_eq_true hge
          have hws : IntKind.i64.wrap (((G.free j : Nat) : Int) - (N : Int)) = (u : Int) := by
           rw [IntWalk.i64_in _ (by omega)]
           omega
          have Hu := Lib.hid hu
          have hui : (u : Int) < (m : Int) := by omega
          have hu0 : (0 : Int) ≤ (u : Int) := by omega
          obtain ⟨hb, hc, rb, cp, x, hx, hcap1, hcap2, hW⟩ := HD.out.elem (L := ((g, rwA m v2 [], 50) :: (Ld ++ L1))) (by repeat (first | exact List.sublist_append_left _ _ | apply List.Sublist.cons)) Hrm.out hlt
          obtain ⟨⟨y1, y2⟩, ⟨y3, y4, y5, y6⟩, hK⟩ := hW _ _ K
          replace K := hK (fun x hx => by first | exact List.mem_append_left _ hx | exact List.mem_cons_of_mem _ (List.mem_append_left _ hx) | exact List.mem_cons_of_mem _ (List.mem_cons_of_mem _ (List.mem_append_left _ hx)) | exact List.mem_cons_of_mem _ (List.mem_cons_of_mem _ (List.mem_cons_of_mem _ (List.mem_append_left _ hx))))
          have HX := Lib.hid hx
          have HP2 := Lib.hid (HP.out.put (fun i hi e => by have := HOk.out.jf i j (by omega) hlt e; omega) hu)
          have Hum := Lib.hid hum
          clear hW hK hx hu hlf HP hvb
          have hB := K.blk (b := g) (cs := rwA m v2 []) (t := 50) ZMB
          have d0 : wr.cell? ⟨g, u * 4, none⟩ = some (.int .i64 (v2 u).s) := hB.cell (rwA_get (j := 0) Hum.out (by omega))
          have d1 : wr.cell? ⟨g, u * 4 + 1, none⟩ = some (.slice (v2 u).A (v2 u).n (v2 u).c) := hB.cell (rwA_get (j := 1) Hum.out (by omega))
          have d2 : wr.cell? ⟨g, u * 4 + 2, none⟩ = some (.int .i64 (v2 u).t) := hB.cell (rwA_get (j := 2) Hum.out (by omega))
          have d3 : wr.cell? ⟨g, u * 4 + 3, none⟩ = some (.slice (v2 u).B (v2 u).m (v2 u).d) := hB.cell (rwA_get (j := 3) Hum.out (by omega))
          have zz := K.thaw (g := g) (cs := rwA m v2 []) (t := 50) ZMB
          have HK := Lib.hid (((K.setR (v := v2) (J := []) (t := 50) x Hum.out (Upd.head _)).rwPut (v := v2) x u ZMB ZMB ZMB).lessS (D' := ⟨rwP m (putF v2 u x), rwS m (putF v2 u x)⟩ :: (Dd ++ D)) (by repeat (first | with_reducible exact List.Sublist.refl _ | with_reducible apply List.Sublist.cons_cons | with_reducible apply List.Sublist.cons)))
          clear hB K
          go_wp2_with fail
          have HV3 := Lib.hid (show ∀ i, i < m → isQ (putF v2 u x i) (putF x2 u (G.a rr j) i) from fun i hi => by
           by_cases e : i = u
           · rw [e, putF_same, putF_same]; exact HX.out
           · rw [putF_other e, putF_other e]; exact HV2.out i hi)
          clear HX HV2
          go_roundg (N - (j + 1))
          case rel => exact ⟨j + 1, _, _, hlt, rfl, by go_num, HV3, HP2, HK.out⟩
          case measure => omega
        · have hgi : ¬ ((G.free j : Nat) : Int) ≥ (N : Int) := by omega
          have hgd : decide (N ≤ G.free j) = false := decide_eq_false hge
          have HP2 := Lib.hid (HP.out.skip (fun h => hge h.1))
          clear hlf HP hvb
          go_wp2_with fail
          go_roundg (N - (j + 1))
          case rel => exact ⟨j + 1, _, _, hlt, rfl, by go_num, HV2, HP2, K⟩
          case measure => omega
      · have e : j = N := by omega
        have HP2 := Lib.hid (show PutX G.free (G.a rr) m N N x0 x2 from by have := HP.out; rw [e] at this; exact this)
        have HE := Lib.hid (show ConP w0 Ld L1 Dd D m (yC N G rr) (.returned (.slice (some ⟨g, 0, none⟩) m m)) wr from ⟨g, v2, rfl, Lib.hid (HEND.out v2 x2 HV2.out HP2.out), K⟩)
        clear K HP HV2 HEND
        go_wp2_with fail
        go_ret
        exact HE.out)
  | fail) : p := h
def PutX (f : Nat → Nat) (val : Nat → Rat) (n lo k : Nat) (x0 x : Nat → Rat) : Prop := ∀ u, u < n → x u = match idxP f (lo + u) k with
 | some i => val i
 | none => x0 u
theorem PutX.zero (f : Nat → Nat) (val : Nat → Rat) (n lo : Nat) (x0 : Nat → Rat) : PutX f val n lo 0 x0 x0 := fun u _ => rfl
theorem PutX.skip {f : Nat → Nat} {val : Nat → Rat} {n lo k : Nat} {x0 x : Nat → Rat} (h : PutX f val n lo k x0 x) (hf : ¬ (lo ≤ f k ∧ f k < lo + n)) : PutX f val n lo (k + 1) x0 x := fun u hu => by
 rw [h u hu, idxP]
 cases e : idxP f (lo + u) k with
 | some i => rfl
 | none =>
  rw [if_neg (by omega)]
theorem PutX.put {f : Nat → Nat} {val : Nat → Rat} {n lo k : Nat} {x0 x : Nat → Rat} (h : PutX f val n lo k x0 x) (hinj : ∀ i, i < k → f i ≠ f k) {v : Nat} (hv : f k = lo + v) : PutX f val n lo (k + 1) x0 (putF x v (val k)) := fun u hu => by
 rw [idxP]
 by_cases e : u = v
 · subst e
   rw [putF_same, idxP_out (fun i hi => by rw [← hv]; exact hinj i hi), ← hv, if_pos rfl]
 · rw [putF_other e, h u hu]
   cases e2 : idxP f (lo + u) k with
   | some i => rfl
   | none => rw [if_neg (by omega)]
section
variable {m N db : Nat} {b : Bool} {G : Dc} {Ld : List Blk} {Dd : List Hl} {w0 W : World} {L1 : List Blk} {D : List Hl}
theorem DicL.ownA (h : DicL m N db b G Ld Dd) (hm : m ≤ 1000) : ∃ A c, ∀ (L : List Blk) (W : World) (D : List Hl), Ld.Sublist L → St w0 L D W → W.cell? ⟨db, 7, none⟩ = some (.slice A m c) ∧ RdI W W.heap.size A m c (ofF m (fun i => ((G.own i : Nat) : Int))) := by
 obtain ⟨hR, hO, hF, gv, hd, Y, V, Xr, Xo, Xf, Xs, h1, h2, h3, h4, h5, rfl, -⟩ := h
 refine ⟨hO.A, hO.c, fun L W D hs K => ?_⟩
 have hmem := hs.subset List.mem_cons_self
 have hsub : Xo.Sublist L := ((List.sublist_append_left Xo _).trans ((List.sublist_append_right Xr _).trans (List.sublist_cons_self _ _))).trans hs
 exact ZQ72
theorem DicL.freeA (h : DicL m N db b G Ld Dd) (hN : N ≤ 1000) : ∃ A c, ∀ (L : List Blk) (W : World) (D : List Hl), Ld.Sublist L → St w0 L D W → W.cell? ⟨db, 8, none⟩ = some (.slice A N c) ∧ RdI W W.heap.size A N c (ofF N (fun i => ((G.free i : Nat) : Int))) := by
 obtain ⟨hR, hO, hF, gv, hd, Y, V, Xr, Xo, Xf, Xs, h1, h2, h3, h4, h5, rfl, -⟩ := h
 refine ⟨hF.A, hF.c, fun L W D hs K => ?_⟩
 have hmem := hs.subset List.mem_cons_self
 have hsub : Xf.Sublist L := ((List.sublist_append_left Xf _).trans ((List.sublist_append_right Xo _).trans ((List.sublist_append_right Xr _).trans (List.sublist_cons_self _ _)))).trans hs
 exact ZQ71
def ConP (w0 : World) (Ld L1 : List Blk) (Dd D : List Hl) (n : Nat) (x : Nat → Rat) (e : Ending) (W' : World) : Prop :=
 ∃ (g : Nat) (v : Nat → Rw), e = Ending.returned (.slice (some ⟨g, 0, none⟩) n n) ∧ Hid (∀ j, j < n → isQ (v j) (x j)) ∧ St w0 ((g, rwA n v [], 50) :: (Ld ++ L1)) (⟨rwP n v, rwS n v⟩ :: (Dd ++ D)) W'
theorem contradiction_any (HL : DicL m N db b G Ld Dd) (K : St w0 (Ld ++ L1) (Dd ++ D) W) (hOk : G.Ok m N) (hm : m ≤ 1000) (hN : N ≤ 1000) {rr : Nat} (hr : rr < m) :
 Calls Tryz.prog 63 #[.pointer (some ⟨db, 0, none⟩), .int .i64 N, .int .i64 rr] W (ConP w0 Ld L1 Dd D m (yC N G rr)) := by
 have HD := Lib.hid HL
 have HOk := Lib.hid hOk
 have Hrm := Lib.hid hr
 obtain ⟨A0, k0, hrows⟩ := HL.rowsR (L := Ld ++ L1) (by repeat (first | exact List.sublist_append_left _ _ | apply List.Sublist.cons))
 have cr := hrows _ _ K
 have hri : (rr : Int) < (m : Int) := by omega
 have hr0 : (0 : Int) ≤ (rr : Int) := by omega
 clear hOk HL hrows
 go_enter Tryz.func63, Tryz.ntmps63
 go_wp2_with fail
 refine (zeros_any m w0 W _ _ K hm).mono ?_
 rintro e W1 ⟨g, v, rfl, hv, K1⟩
 clear K cr
 have K := K1
 clear K1
 obtain ⟨A1, k1, hown⟩ := HD.out.ownR (L := ((g, rwA m v [], 50) :: (Ld ++ L1))) (by repeat (first | exact List.sublist_append_left _ _ | apply List.Sublist.cons)) hm
 have co := (hown _ _ K).1
 obtain ⟨vb, vo, hA, hvb, hcc⟩ := RdI.cellAt (hown _ _ K).2 Hrm.out
 subst hA
 rw [gi_ofF Hrm.out] at hcc
 have hcp1 := (hown _ _ K).2.caps
 have hlo := HOk.out.lo rr Hrm.out
 clear hown hvb
 obtain ⟨x0, hx0⟩ : ∃ x0 : Nat → Rat, x0 = fun u => if G.own rr = N + u then 1 else 0 := ⟨_, rfl⟩
 have HX0 := Lib.hid hx0
 have HEND := Lib.hid (fun (v : Nat → Rw) (x : Nat → Rat) (h1 : ∀ u, u < m → isQ (v u) (x u)) (h2 : PutX G.free (G.a rr) m N N x0 x) => (show ∀ u, u < m → isQ (v u) (yC N G rr u) from fun u hu => by
  have h3 := h1 u hu
  rw [h2 u hu] at h3
  unfold yC
  by_cases e0 : G.own rr = N + u
  · rw [if_pos e0]
    rw [idxP_out (fun j hj e2 => HOk.out.ne rr j Hrm.out hj (by rw [e0, e2]))] at h3
    rw [hx0] at h3
    simp only [if_pos e0] at h3
    exact h3
  · rw [if_neg e0]
    cases e2 : idxP G.free (N + u) N with
    | some j => rw [e2] at h3; exact h3
    | none =>
     rw [e2, hx0] at h3
     simp only [if_neg e0] at h3
     exact h3))
 clear hx0
 obtain ⟨A2, k2, hfree⟩ := HD.out.freeA (w0 := w0) hN
 have HFR := Lib.hid hfree
 have cf := (hfree _ _ _ (by repeat (first | exact List.sublist_append_left _ _ | apply List.Sublist.cons)) K).1
 clear hfree
 by_cases hge : N ≤ G.own rr
 · obtain ⟨u, hu⟩ : ∃ u, G.own rr = N + u := ⟨G.own rr - N, by omega⟩
   have hum : u < m := by omega
   have hws : IntKind.i64.wrap (((G.own rr : Nat) : Int) - (N : Int)) = (u : Int) := by
    rw [IntWalk.i64_in _ (by omega)]
    omega
   have hui : (u : Int) < (m : Int) := by omega
   have hu0 : (0 : Int) ≤ (u : Int) := by omega
   have hgd : decide ((u : Int) ≥ 0) = true := decide_eq_true hu0
   have HNu := Lib.hid (fun V L5 D5 (h : St w0 L5 D5 V) => (pnumber_any 1 V (by decide)).mono fun e W6 ⟨s7, A7, n7, c7, l7, t7, B7, m7, d7, k7, he, ⟨hra, hrb⟩, ho, ⟨hfa, hfb⟩, hbl⟩ => (⟨⟨s7, A7, n7, c7, l7, t7, B7, m7, d7, k7⟩, he, Lib.hid (⟨ho, by decide +kernel⟩ : isQ ⟨s7, A7, n7, c7, l7, t7, B7, m7, d7, k7⟩ 1), h.retF hbl hra hrb hfa hfb⟩ : ∃ z : Rw, e = Ending.returned (.agg #[.int .i64 z.s, .slice z.A z.n z.c, .int .i64 z.t, .slice z.B z.m z.d]) ∧ Hid (isQ z 1) ∧ St w0 L5 (⟨rdP z.B z.m z.d z.k, rdS z.B z.m⟩ :: ⟨rdP z.A z.n z.c z.l, rdS z.A z.n⟩ :: D5) W6))
   have HV0 := Lib.hid (show ∀ z : Rw, isQ z 1 → ∀ i, i < m → isQ (putF v u z i) (x0 i) from fun z hz i hi => by
    rw [HX0.out]
    by_cases e : i = u
    · rw [e, putF_same]
      simp only [hu, if_true]
      exact hz
    · rw [putF_other e]
      simp only [hu]
      rw [if_neg (by omega)]
      exact hv.out i hi)
   have Hum := Lib.hid hum
   clear hu hlo hv HX0
   go_wp2_with (first
    | (go_at_call 112; refine (HNu.out _ _ _ K).mono ?_; rintro e w3 ⟨z, rfl, gz, K3⟩)
    | (refine K3.storeR rfl rfl _ _ _ rfl g u m z rfl rfl Hum.out ZUA frac_size ?_; clear co cf; intro W8 K8; have cf := (HFR.out _ _ _ (by repeat (first | exact List.sublist_append_left _ _ | apply List.Sublist.cons)) K8).1))
   have HV1 := Lib.hid (HV0.out z gz.out)
   replace K := ((K8.rwPut (v := v) z u ZMB ZMB ZMB).lessS (D' := ⟨rwP m (putF v u z), rwS m (putF v u z)⟩ :: (Dd ++ D)) (by repeat (first | with_reducible exact List.Sublist.refl _ | with_reducible apply List.Sublist.cons_cons | with_reducible apply List.Sublist.cons)))
   obtain ⟨v1, hv1⟩ : ∃ v1, v1 = putF v u z := ⟨_, rfl⟩
   rw [← hv1] at K HV1
   clear hv1 K3 K8 HV0 HNu gz hcc
   exact ZQ5
 · have hws : IntKind.i64.wrap (((G.own rr : Nat) : Int) - (N : Int)) = ((G.own rr : Nat) : Int) - (N : Int) := IntWalk.i64_in _ (by omega)
   have hgi : ¬ ((G.own rr : Nat) : Int) - (N : Int) ≥ 0 := by omega
   have hgd : decide (((G.own rr : Nat) : Int) - (N : Int) ≥ 0) = false := decide_eq_false hgi
   have hgn : decide (N ≤ G.own rr) = false := decide_eq_false hge
   have HV1 := Lib.hid (show ∀ i, i < m → isQ (v i) (x0 i) from fun i hi => by
    rw [HX0.out]
    show isQ (v i) (if G.own rr = N + i then 1 else 0)
    rw [if_neg (by omega)]
    exact hv.out i hi)
   obtain ⟨v1, hv1⟩ : ∃ v1, v1 = v := ⟨_, rfl⟩
   rw [← hv1] at K HV1
   clear hv1 hlo hv HX0
   go_wp2_with fail
   exact ZQ5
end
theorem mem_dd {Dd D : List Hl} {A : List Hl} {x : Hl} (h : x ∈ Dd) : x ∈ A ++ (Dd ++ D) := List.mem_append_right _ (List.mem_append_left _ h)
theorem addK_zero {q : Rat} (h : fitsF q = true) : addK 0 (-q) = true := by
 unfold fitsF at h
 rw [Bool.and_eq_true] at h
 unfold addK sumK
 have e1 : (0 : Rat).num = 0 := rfl
 have e2 : ((0 : Rat).den : Int) = 1 := rfl
 rw [e1, e2, Rat.neg_num, Rat.neg_den, Int.zero_mul, Int.mul_one, Int.one_mul, Int.zero_add, fits_neg h.1, h.2]
 decide
section
variable {m N db : Nat} {b : Bool} {G : Dc} {Ld : List Blk} {Dd : List Hl} {w0 W : World} {L1 : List Blk} {D : List Hl}
def BestP (w0 : World) (Ld L1 : List Blk) (Dd D : List Hl) (m N : Nat) (x y : Nat → Rat) (e : Ending) (W' : World) : Prop :=
 ∃ (gx gy : Nat) (vx vy : Nat → Rw), e = Ending.returned (.tuple #[.slice (some ⟨gx, 0, none⟩) N N, .slice (some ⟨gy, 0, none⟩) m m]) ∧ Hid (∀ j, j < N → isQ (vx j) (x j)) ∧ Hid (∀ j, j < m → isQ (vy j) (y j)) ∧ St w0 ((gy, rwA m vy [], 50) :: (gx, rwA N vx [], 50) :: (Ld ++ L1)) (⟨rwP m vy, rwS m vy⟩ :: ⟨rwP N vx, rwS N vx⟩ :: (Dd ++ D)) W'
theorem callNeg {w0 : World} {L : List Blk} {D : List Hl} {R : List Value} (hm : ((db, (Value.bool b :: R).toArray, 91) : Blk) ∈ L) {y : Rw} {er : Int} {q : Rat} (hf : fitsF q = true) (G : SubS 0 q y er) {V : World} (K : St w0 L (⟨rdP y.B y.m y.d y.k, rdS y.B y.m⟩ :: ⟨rdP y.A y.n y.c y.l, rdS y.A y.n⟩ :: D) V) :
 Calls Tryz.prog 119 #[.pointer (some ⟨db, 0, none⟩), .agg #[.int .i64 y.s, .slice y.A y.n y.c, .int .i64 y.t, .slice y.B y.m y.d], .int .i64 er] V (FrG w0 L D fun z => z = 0 - q) := by
 have he : er = 0 := by
  have := G.2
  rw [addK_zero hf] at this
  simpa using this
 obtain ⟨L', hU, rfl⟩ := Upd.same hm
 refine (callGot (b' := b) K G.1 (by rw [he]; simp) hU).mono ?_
 rintro e W' ⟨z, zq, h1, h2, h3⟩
 exact ⟨z, zq, h1, Lib.hid ⟨h2.out.1, h2.out.2 he⟩, h3⟩
theorem best_any (HL : DicL m N db b G Ld Dd) (K : St w0 (Ld ++ L1) (Dd ++ D) W) (hOk : G.Ok m N) (hm : m ≤ 1000) (hN : N ≤ 1000) :
 Calls Tryz.prog 64 #[.pointer (some ⟨db, 0, none⟩), .int .i64 N] W (BestP w0 Ld L1 Dd D m N (xB m G) (yB N G)) := by
 have HD := Lib.hid HL
 have HOk := Lib.hid hOk
 obtain ⟨A0, k0, hrows⟩ := HL.rowsR (L := Ld ++ L1) (by repeat (first | exact List.sublist_append_left _ _ | apply List.Sublist.cons))
 have s0 := hrows _ _ K.drew
 have HZ1 := Lib.hid (fun V L D (h : St w0 L D V) => zeros_any N w0 V L D h hN)
 have HZ2 := Lib.hid (fun V L D (h : St w0 L D V) => zeros_any m w0 V L D h hm)
 have HSA := Lib.hid (fun V D v g (h : St w0 ((g, rwA N v [], 50) :: (Ld ++ L1)) D V) => (show V.cell? ⟨db, 1, none⟩ = some (.slice A0 m k0) from hrows _ _ (h.part (List.sublist_cons_self _ _))))
 clear hOk HL hrows
 go_enter Tryz.func64, Tryz.ntmps64
 go_upto_region 1 with fail
 have K0 := K.drew
 clear K
 refine wp_region_T 100 (fun V => V.cell? ⟨db, 1, none⟩ = some (.slice A0 m k0)) (by kernel_rfl) s0 (fun hSh => ?_)
 clear s0
 refine wpAnyT.tkA 0 rfl ?_
 refine wpAnyT.tkA 2 rfl ?_
 refine wpAnyT.tkA 3 rfl ?_
 refine wpAnyT.tkA 4 rfl ?_
 refine wpAnyT.tkA 5 rfl ?_
 refine wpAnyT.tkA 6 rfl ?_
 refine wpAnyT.on 1 rfl fun KK hKK => ?_
 go_simp
 go_at_call 61; refine (HZ1.out _ _ _ K0).mono ?_; rintro e w3 ⟨gx, vx, rfl, hvx, k1⟩
 go_wp2_with fail
 refine hKK.out _ _ ?_ (fun hSh => ?_)
 · exact HSA.out _ _ _ _ k1
 clear hKK KK
 refine ZPT ?_
 refine wpAnyT.on 7 rfl fun KK hKK => ?_
 go_simp
 go_at_call 61; refine (HZ2.out _ _ _ k1).mono ?_; rintro e w4 ⟨gy, vy, rfl, hvy, k2⟩
 go_wp2_with fail
 refine hKK.out _ _ ?_ (fun hSh => ?_)
 · exact HSA.out _ _ _ _ ((k2.part (List.sublist_cons_self _ _)).less (D' := _) (fun x hx => hx))
 clear hKK KK
 refine ZPT ?_
 refine wpAnyT.tkA 8 rfl ?_
 refine wpAnyT.tkA 9 rfl ?_
 refine wpAnyT.done (by kernel_rfl) ?_
 have K := k2
 clear k2 k1 K0 hSh HSA HZ1 HZ2
 obtain ⟨A1, k1, hown⟩ := HD.out.ownA (w0 := w0) hm
 have HOR := Lib.hid hown
 obtain ⟨A2, k2, hfree⟩ := HD.out.freeA (w0 := w0) hN
 have HFR := Lib.hid hfree
 have co := (hown _ _ _ (by repeat (first | exact List.sublist_append_left _ _ | apply List.Sublist.cons)) K).1
 clear hown hfree
 have r := trivial
 go_wp2_with fail
 clear co
 go_loopg [25] m (fun gk s25 wr => ∃ (i : Nat) (v : Nat → Rw) (x : Nat → Rat), i ≤ m ∧ gk = m - i ∧ s25 = .int .i64 i ∧ Hid (∀ u, u < N → isQ (v u) (x u)) ∧ Hid (PutX G.own G.v N 0 i (fun _ => 0) x) ∧ St w0 ((gy, rwA m vy [], 50) :: (gx, rwA N v [], 50) :: (Ld ++ L1)) (⟨rwP m vy, rwS m vy⟩ :: ⟨rwP N v, rwS N v⟩ :: (Dd ++ D)) wr)
 case atStart => exact ⟨0, vx, fun _ => 0, Nat.zero_le _, rfl, rfl, hvx, Lib.hid (PutX.zero _ _ _ _ _), K⟩
 case round =>
  clear K hvx
  obtain ⟨i, v2, x2, hj, rfl, rfl, HV2, HP, K⟩ := hrel
  by_cases hlt : i < m
  · have hji : (i : Int) < (m : Int) := by omega
    have hj0 : (0 : Int) ≤ (i : Int) := by omega
    obtain ⟨vb, vo, hA, hvb, hcc⟩ := RdI.cellAt (HOR.out _ _ _ (by repeat (first | exact List.sublist_append_left _ _ | apply List.Sublist.cons)) K).2 hlt
    subst hA
    rw [gi_ofF hlt] at hcc
    by_cases hge : G.own i < N
    · have hgd : decide (G.own i < N) = true := decide_eq_true hge
      have hui : ((G.own i : Nat) : Int) < (N : Int) := by omega
      have hu0 : (0 : Int) ≤ ((G.own i : Nat) : Int) := by omega
      obtain ⟨hb, hc, x, hx, hcap1, hW⟩ := HD.out.line (L := ((gy, rwA m vy [], 50) :: (gx, rwA N v2 [], 50) :: (Ld ++ L1))) (by repeat (first | exact List.sublist_append_left _ _ | apply List.Sublist.cons)) hlt
      obtain ⟨y1, ⟨y3, y4, y5, y6⟩, hK⟩ := hW _ _ K
      replace K := hK (fun x hx => mem_dd (A := [_, _]) hx)
      have HX := Lib.hid hx
      have HP2 := Lib.hid (HP.out.put (v := G.own i) (fun k hk e => by have := HOk.out.io k i (by omega) hlt e; omega) (by omega))
      obtain ⟨u, hu⟩ : ∃ u, u = G.own i := ⟨_, rfl⟩
      have Hum := Lib.hid hge
      rw [← hu] at HP2 hcc hui hu0 hgd Hum hge
      clear hW hK hx HP hvb hu
      have hB := K.blk (b := gx) (cs := rwA N v2 []) (t := 50) ZMB
      have d0 : wr.cell? ⟨gx, u * 4, none⟩ = some (.int .i64 (v2 u).s) := hB.cell (rwA_get (j := 0) Hum.out (by omega))
      have d1 : wr.cell? ⟨gx, u * 4 + 1, none⟩ = some (.slice (v2 u).A (v2 u).n (v2 u).c) := hB.cell (rwA_get (j := 1) Hum.out (by omega))
      have d2 : wr.cell? ⟨gx, u * 4 + 2, none⟩ = some (.int .i64 (v2 u).t) := hB.cell (rwA_get (j := 2) Hum.out (by omega))
      have d3 : wr.cell? ⟨gx, u * 4 + 3, none⟩ = some (.slice (v2 u).B (v2 u).m (v2 u).d) := hB.cell (rwA_get (j := 3) Hum.out (by omega))
      have zz := K.thaw (g := gx) (cs := rwA N v2 []) (t := 50) ZMB
      have K4 := (K.setR (v := v2) (J := []) (t := 50) x Hum.out (.tail _ (Upd.head _))).rwPut (v := v2) x u ZMB ZMB ZMB
      have HK := Lib.hid ((K4.add (x := ⟨rwP m vy, rwS m vy⟩) (K4.okAt ZMB)).lessS (D' := ⟨rwP m vy, rwS m vy⟩ :: ⟨rwP N (putF v2 u x), rwS N (putF v2 u x)⟩ :: (Dd ++ D)) (by repeat (first | with_reducible exact List.Sublist.refl _ | with_reducible apply List.Sublist.cons_cons | with_reducible apply List.Sublist.cons)))
      clear hB K K4
      go_wp2_with fail
      have HV3 := Lib.hid (show ∀ k, k < N → isQ (putF v2 u x k) (putF x2 u (G.v i) k) from fun k hk => by
       by_cases e : k = u
       · rw [e, putF_same, putF_same]; exact HX.out
       · rw [putF_other e, putF_other e]; exact HV2.out k hk)
      clear HX HV2
      go_roundg (m - (i + 1))
      case rel => exact ⟨i + 1, _, _, hlt, rfl, by go_num, HV3, HP2, HK.out⟩
      case measure => omega
    · have hgd : decide (G.own i < N) = false := decide_eq_false hge
      have hgi : ¬ ((G.own i : Nat) : Int) < (N : Int) := by omega
      have HP2 := Lib.hid (HP.out.skip (fun h => hge (by omega)))
      clear HP hvb
      go_wp2_with fail
      go_roundg (m - (i + 1))
      case rel => exact ⟨i + 1, _, _, hlt, rfl, by go_num, HV2, HP2, K⟩
      case measure => omega
  · have e : i = m := by omega
    have HXE := Lib.hid (show ∀ u, u < N → isQ (v2 u) (xB m G u) from fun u hu => by
     have h1 := HV2.out u hu
     rw [HP.out u hu, Nat.zero_add, e] at h1
     exact h1)
    have cf := (HFR.out _ _ _ (by repeat (first | exact List.sublist_append_left _ _ | apply List.Sublist.cons)) K).1
    clear e HV2 HP
    go_wp2_with fail
    clear cf
    go_loopg [50] N (fun gk s50 wx => ∃ (j : Nat) (vy : Nat → Rw) (y : Nat → Rat), j ≤ N ∧ gk = N - j ∧ s50 = .int .i64 j ∧ Hid (∀ u, u < m → isQ (vy u) (y u)) ∧ Hid (PutX G.free (fun j => 0 - G.c j) m N j (fun _ => 0) y) ∧ St w0 ((gy, rwA m vy [], 50) :: (gx, rwA N v2 [], 50) :: (Ld ++ L1)) (⟨rwP m vy, rwS m vy⟩ :: ⟨rwP N v2, rwS N v2⟩ :: (Dd ++ D)) wx)
    case atStart => exact ⟨0, vy, fun _ => 0, Nat.zero_le _, rfl, rfl, hvy, Lib.hid (PutX.zero _ _ _ _ _), K⟩
    case round =>
     clear K hvy
     obtain ⟨j, vy, y2, hj, rfl, rfl, HV2, HP, K⟩ := hrel
     by_cases hjn : j < N
     · have hji : (j : Int) < (N : Int) := by omega
       have hj0 : (0 : Int) ≤ (j : Int) := by omega
       have hlf := HOk.out.lf j hjn
       obtain ⟨vb, vo, hA, hvb, hcc⟩ := RdI.cellAt (HFR.out _ _ _ (by repeat (first | exact List.sublist_append_left _ _ | apply List.Sublist.cons)) K).2 hjn
       subst hA
       rw [gi_ofF hjn] at hcc
       by_cases hge : N ≤ G.free j
       · obtain ⟨u, hu⟩ : ∃ u, G.free j = N + u := ⟨G.free j - N, by omega⟩
         have hum : u < m := by omega
         have hgi : ((G.free j : Nat) : Int) ≥ (N : Int) := by omega
         have hgd : decide (N ≤ G.free j) = true := decide_eq_true hge
         have hws : IntKind.i64.wrap (((G.free j : Nat) : Int) - (N : Int)) = (u : Int) := by
          rw [IntWalk.i64_in _ (by omega)]
          omega
         have hui : (u : Int) < (m : Int) := by omega
         have hu0 : (0 : Int) ≤ (u : Int) := by omega
         obtain ⟨rb, cp, x, hx, hcap2, hW⟩ := HD.out.goal (L := ((gy, rwA m vy [], 50) :: (gx, rwA N v2 [], 50) :: (Ld ++ L1))) (by repeat (first | exact List.sublist_append_left _ _ | apply List.Sublist.cons)) hjn
         obtain ⟨R, hRm, -⟩ := HD.out.flag (w0 := w0) (L := ((gy, rwA m vy [], 50) :: (gx, rwA N v2 [], 50) :: (Ld ++ L1))) (by repeat (first | exact List.sublist_append_left _ _ | apply List.Sublist.cons))
         have K := (hW _ _ K).2.2 (fun x hx => mem_dd (A := [_, _]) hx)
         have HX := Lib.hid hx
         have HP2 := Lib.hid (HP.out.put (fun i hi e => by have := HOk.out.jf i j (by omega) hjn e; omega) hu)
         have Hum := Lib.hid hum
         have HSA := Lib.hid (fun V D (h : St w0 ((gy, rwA m vy [], 50) :: (gx, rwA N v2 [], 50) :: (Ld ++ L1)) D V) => (show V.cell? ⟨db, 6, none⟩ = some (.slice (some ⟨rb, 0, none⟩) N cp) ∧ (V.cell? ⟨rb, j * 4, none⟩ = some (.int .i64 x.s) ∧ V.cell? ⟨rb, j * 4 + 1, none⟩ = some (.slice x.A x.n x.c) ∧ V.cell? ⟨rb, j * 4 + 2, none⟩ = some (.int .i64 x.t) ∧ V.cell? ⟨rb, j * 4 + 3, none⟩ = some (.slice x.B x.m x.d)) from ⟨(hW _ _ h).1, (hW _ _ h).2.1⟩))
         have HNu := Lib.hid (fun V L5 D5 (h : St w0 L5 D5 V) => (pzero_any V).mono fun e W6 ⟨s7, A7, n7, c7, l7, t7, B7, m7, d7, k7, he, ⟨hra, hrb⟩, ho, ⟨hfa, hfb⟩, hbl⟩ => (⟨⟨s7, A7, n7, c7, l7, t7, B7, m7, d7, k7⟩, he, Lib.hid (⟨ho, fitsF_zero⟩ : isQ ⟨s7, A7, n7, c7, l7, t7, B7, m7, d7, k7⟩ 0), h.retF hbl hra hrb hfa hfb⟩ : ∃ z : Rw, e = Ending.returned (.agg #[.int .i64 z.s, .slice z.A z.n z.c, .int .i64 z.t, .slice z.B z.m z.d]) ∧ Hid (isQ z 0) ∧ St w0 L5 (⟨rdP z.B z.m z.d z.k, rdS z.B z.m⟩ :: ⟨rdP z.A z.n z.c z.l, rdS z.A z.n⟩ :: D5) W6))
         have HSu := Lib.hid (fun V (z : Rw) (hz : isQ z 0) (h : St w0 ((gy, rwA m vy [], 50) :: (gx, rwA N v2 [], 50) :: (Ld ++ L1)) (⟨rdP z.B z.m z.d z.k, rdS z.B z.m⟩ :: ⟨rdP z.A z.n z.c z.l, rdS z.A z.n⟩ :: ⟨rdP x.B x.m x.d x.k, rdS x.B x.m⟩ :: ⟨rdP x.A x.n x.c x.l, rdS x.A x.n⟩ :: ⟨rwP m vy, rwS m vy⟩ :: ⟨rwP N v2, rwS N v2⟩ :: (Dd ++ D)) V) => callSub h hz HX.out ZMB ZMB ZMB ZMB)
         have HGo := Lib.hid (fun V (z y : Rw) (er : Int) (Gs : Hid (SubS 0 (G.c j) y er)) (h : St w0 ((gy, rwA m vy [], 50) :: (gx, rwA N v2 [], 50) :: (Ld ++ L1)) (⟨rdP y.B y.m y.d y.k, rdS y.B y.m⟩ :: ⟨rdP y.A y.n y.c y.l, rdS y.A y.n⟩ :: ⟨rdP z.B z.m z.d z.k, rdS z.B z.m⟩ :: ⟨rdP z.A z.n z.c z.l, rdS z.A z.n⟩ :: ⟨rdP x.B x.m x.d x.k, rdS x.B x.m⟩ :: ⟨rdP x.A x.n x.c x.l, rdS x.A x.n⟩ :: ⟨rwP m vy, rwS m vy⟩ :: ⟨rwP N v2, rwS N v2⟩ :: (Dd ++ D)) V) => callNeg hRm HX.out.2 Gs.out h)
         have hcap3 := (K.rd (A := x.A) (n := x.n) (cap := x.c) (l := x.l) ZMB).caps
         have hcap4 := (K.rd (A := x.B) (n := x.m) (cap := x.d) (l := x.k) ZMB).caps
         clear hW hx hu hlf HP hvb hRm
         go_upto_region 12 with fail
         have K0 := K.drew
         have s0 := HSA.out _ _ K0
         clear K
         refine wp_region_T 21 (fun V => V.cell? ⟨db, 6, none⟩ = some (.slice (some ⟨rb, 0, none⟩) N cp) ∧ (V.cell? ⟨rb, j * 4, none⟩ = some (.int .i64 x.s) ∧ V.cell? ⟨rb, j * 4 + 1, none⟩ = some (.slice x.A x.n x.c) ∧ V.cell? ⟨rb, j * 4 + 2, none⟩ = some (.int .i64 x.t) ∧ V.cell? ⟨rb, j * 4 + 3, none⟩ = some (.slice x.B x.m x.d))) (by kernel_rfl) s0 (fun hSh => ?_)
         clear s0
         refine wpAnyT.tk 0 rfl ?_
         refine wpAnyT.tk 1 rfl ?_
         refine wpAnyT.tk 2 rfl ?_
         refine wpAnyT.tk 3 rfl ?_
         refine wpAnyT.tk 4 rfl ?_
         refine wpAnyT.tk 5 rfl ?_
         refine wpAnyT.tk 6 rfl ?_
         refine wpAnyT.tk 8 rfl ?_
         refine wpAnyT.tk 9 rfl ?_
         refine wpAnyT.tk 10 rfl ?_
         refine wpAnyT.tk 11 rfl ?_
         refine wpAnyT.tk 12 rfl ?_
         refine wpAnyT.tk 13 rfl ?_
         refine wpAnyT.tk 14 rfl ?_
         refine wpAnyT.tk 15 rfl ?_
         refine wpAnyT.on 7 rfl fun KK hKK => ?_
         go_simp
         go_at_call 112; refine (HNu.out _ _ _ K0).mono ?_; rintro e w3 ⟨z0, rfl, g0, k3⟩
         go_wp2_with fail
         refine hKK.out _ _ ?_ (fun hSh => ?_)
         · exact HSA.out _ _ k3
         clear hKK KK
         refine ZPT ?_
         refine wpAnyT.on 16 rfl fun KK hKK => ?_
         go_simp
         go_at_call 42; refine (HSu.out _ _ g0.out k3).mono ?_; rintro e w4 ⟨y1, er, rfl, gy1, k4⟩
         go_wp2_with fail
         refine hKK.out _ _ ?_ (fun hSh => ?_)
         · exact HSA.out _ _ k4
         clear hKK KK
         refine ZPT ?_
         refine wpAnyT.tk 17 rfl ?_
         refine wpAnyT.tk 18 rfl ?_
         refine wpAnyT.on 19 rfl fun KK hKK => ?_
         go_simp
         go_at_call 119; refine (HGo.out _ _ _ _ gy1 k4).mono ?_; rintro e w5 ⟨z, zq, rfl, gz, k5⟩
         go_wp2_with fail
         refine hKK.out _ _ ?_ (fun hSh => ?_)
         · exact HSA.out _ _ k5
         clear hKK KK
         refine ZPT ?_
         refine wpAnyT.tk 20 rfl ?_
         refine wpAnyT.last rfl (by kernel_rfl) ?_
         have HV3 := Lib.hid (show ∀ k, k < m → isQ (putF vy u z k) (putF y2 u (0 - G.c j) k) from fun k hk => by
          by_cases e : k = u
          · rw [e, putF_same, putF_same, ← gz.out.2]; exact gz.out.1
          · rw [putF_other e, putF_other e]; exact HV2.out k hk)
         clear K0 k3 k4 HSA HNu HSu HGo hSh gz gy1 g0 HX HV2
         refine k5.storeR (v := vy) (J := []) (t := 50) rfl rfl _ _ _ rfl gy u m z rfl rfl Hum.out (Upd.head _) frac_size ?_
         intro W8 K8
         clear k5
         have HK := Lib.hid ((K8.rwPut (v := vy) z u ZMB ZMB ZMB).lessS (D' := ⟨rwP m (putF vy u z), rwS m (putF vy u z)⟩ :: ⟨rwP N v2, rwS N v2⟩ :: (Dd ++ D)) (by repeat (first | with_reducible exact List.Sublist.refl _ | with_reducible apply List.Sublist.cons_cons | with_reducible apply List.Sublist.cons)))
         clear K8
         go_wp2_with fail
         go_roundg (N - (j + 1))
         case rel => exact ⟨j + 1, _, _, hjn, rfl, by go_num, HV3, HP2, HK.out⟩
         case measure => omega
       · have hgi : ¬ ((G.free j : Nat) : Int) ≥ (N : Int) := by omega
         have hgd : decide (N ≤ G.free j) = false := decide_eq_false hge
         have HP2 := Lib.hid (HP.out.skip (fun h => hge h.1))
         clear hlf HP hvb
         go_wp2_with fail
         go_roundg (N - (j + 1))
         case rel => exact ⟨j + 1, _, _, hjn, rfl, by go_num, HV2, HP2, K⟩
         case measure => omega
     · have e : j = N := by omega
       have HYE := Lib.hid (show ∀ u, u < m → isQ (vy u) (yB N G u) from fun u hu => by
        have h1 := HV2.out u hu
        rw [HP.out u hu, e] at h1
        exact h1)
       have HE := Lib.hid (show BestP w0 Ld L1 Dd D m N (xB m G) (yB N G) (.returned (.tuple #[.slice (some ⟨gx, 0, none⟩) N N, .slice (some ⟨gy, 0, none⟩) m m])) wr from ⟨gx, gy, v2, vy, rfl, HXE, HYE, K⟩)
       clear K HP HV2 e HXE HYE
       go_wp2_with fail
       exact bodyPost_ret (v := .tuple #[.slice (some ⟨gx, 0, none⟩) N N, .slice (some ⟨gy, 0, none⟩) m m]) (by simp [results, Tryz.results64, go_sem]) rfl HE.out
end
end Go.Proofs.YtdlcglndhhndpaaGreat
