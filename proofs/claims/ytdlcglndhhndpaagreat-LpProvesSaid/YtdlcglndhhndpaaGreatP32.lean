/- Laws and walks; conditions stand in each theorem. -/
import Derived.Test.YtdlcglndhhndpaaGreatP30
import Derived.Test.YtdlcglndhhndpaaGreatP31
import Derived.Test.YtdlcglndhhndpaaGreatP08
import Derived.Test.YtdlcglndhhndpaaGreatP22
set_option linter.unusedSimpArgs false
set_option linter.unusedVariables false
set_option maxHeartbeats 8000000
set_option maxRecDepth 100000
namespace Go.Proofs.YtdlcglndhhndpaaGreat
open Go.RowKit
theorem ZQ68 {p : Prop} (h : p := by
 first
  | (unfold fvR
     rw [h1, Option.map_some, Option.getD_some]
     exact fv_std h2)
  | fail) : p := h
theorem ZQ101 {p : Prop} (h : p := by
 first
  | (go_wp2_with fail
     exact bodyPost_ret (v := .tuple #[.slice none 0 0, .slice none 0 0, .int .i64 6]) (by simp [results, Tryz.results23, go_sem]) rfl HP.out)
  | fail) : p := h
def fvR (l : List Fv) (j : Nat) : Rat := ((l[j]?).map Fv.rat).getD 0
theorem isQ.fv {x : Rw} {q : Rat} (h : isQ x q) : x.fv = fvQ q := by
 obtain ⟨⟨⟨h1, h2⟩, h3, h4⟩, -⟩ := h
 unfold Rw.fv fvQ
 rw [h1, h2, h3, h4]
theorem St.fxOwn {w W : World} {L : List Blk} {D : List Hl} {g n : Nat} {v : Nat → Rw} {t : TypeId} (K : St w ((g, rwA n v [], t) :: L) (⟨rwP n v, rwS n v⟩ :: D) W) (hn : n ≤ 1000) : St w L (⟨fxP (some ⟨g, 0, none⟩) n n v, fxS (some ⟨g, 0, none⟩) n v⟩ :: D) W := by
 have hB := K.blk (b := g) (cs := rwA n v []) (t := t) List.mem_cons_self
 have hP := K.okAt (x := ⟨rwP n v, rwS n v⟩) List.mem_cons_self
 have h1 : fxP (some ⟨g, 0, none⟩) n n v W := by
  refine ⟨⟨ofF_len, Nat.le_refl _, ⟨by omega, by omega⟩, fun _ => ⟨g, 0, rfl, hB.lt, fun k hk => ?_⟩⟩, fun i hi => hP.1 i hi⟩
  rw [ofF_len] at hk
  refine ⟨(v k).cs, ?_, rfl, fun j u hu => ?_⟩
  · have e : (ofF n v)[k]'(by rw [ofF_len]; exact hk) = v k := by
     have := ofF_get (f := v) hk
     exact ZQ38
    rw [e]
    rfl
  · have hj : j < 4 := (List.getElem?_eq_some_iff.1 hu).1
    rw [Nat.zero_add]
    exact hB.cell ((rwA_get (J := []) hk hj).trans hu)
 have hpw := List.pairwise_cons.1 K.2.2.1
 refine ((K.part (List.sublist_cons_self _ _)).less (D' := D) (fun x hx => List.mem_cons_of_mem _ hx)).fxAdd h1 fun b hS p hp e => ?_
 rcases hS with ⟨-, a, ha, rfl⟩ | ⟨i, hi, hS⟩
 · injection ha with ha
   subst ha
   exact hpw.1 p hp e.symm
 · exact (hP.2.1 b ⟨i, hi, hS⟩).2 p (List.mem_cons_of_mem _ hp) e
theorem St.rdOwn {w W : World} {L : List Blk} {D : List Hl} {g n : Nat} {v : Nat → Rw} {t : TypeId} {x : Nat → Rat} (K : St w ((g, rwA n v [], t) :: L) D W) (hm : (⟨rwP n v, rwS n v⟩ : Hl) ∈ D) (hn : n ≤ 1000) (hx : ∀ j, j < n → isQ (v j) (x j)) : RdF W W.heap.size (some ⟨g, 0, none⟩) n n (ofF n fun i => fvQ (x i)) := by
 have ho : OwL 4 Rw.cs t (.slice (some ⟨g, 0, none⟩) n n) (ofF n v) [(g, rwA n v [], t)] := Or.inr ⟨g, n, [], by rw [ofF_len], rfl, by rw [ofF_len]; exact Nat.le_refl _, by unfold maxLen; omega, by rw [List.append_nil, rwA_len]⟩
 obtain ⟨A, cap, e, h⟩ := ho.rdF (L := L) K hm (by omega)
 injection e with e1 e2 e3
 subst e1 e3
 rw [ofF_congr (g := fun i => fvQ (x i)) (fun i hi => (hx i hi).fv)] at h
 exact h
theorem nx_row {p : Nxt} {r s : Int} (h : NxI p r s) : (∃ i, p = .contra i ∧ r = (i : Int)) ∨ (∀ i, p ≠ .contra i) ∧ r = -1 := by
 cases p with
 | best => exact Or.inr ⟨(fun i e => by cases e), h.1⟩
 | contra i => exact Or.inl ⟨i, rfl, h.1⟩
 | endless j => exact Or.inr ⟨(fun i e => by cases e), h.1⟩
 | swap _ _ => exact h.elim
theorem nx_col {m n : Nat} {D : Dc} {r s : Int} (h : NxI (D.pick m n) r s) : (∃ j, D.pick m n = .endless j ∧ s = (j : Int) ∧ endOf m n D = .ray (xR m D j)) ∨ s = -1 ∧ endOf m n D = .best (xB m D) (yB n D) := by
 unfold endOf
 cases hp : D.pick m n with
 | best => rw [hp] at h; exact Or.inr ⟨h.2, rfl⟩
 | contra i => rw [hp] at h; exact Or.inr ⟨h.2, rfl⟩
 | endless j => rw [hp] at h; exact Or.inl ⟨j, rfl, h.2, rfl⟩
 | swap _ _ => rw [hp] at h; exact h.elim
def solO (w' : World) (m n : Nat) (e : Ending) : LpEnd → Prop
 | .full => e = .returned (.tuple #[.slice none 0 0, .slice none 0 0, .int .i64 6])
 | .none y => ∃ A c, e = .returned (.tuple #[.slice none 0 0, .slice A m c, .int .i64 4]) ∧ RdF w' w'.heap.size A m c (ofF m fun i => fvQ (y i)) ∧ ∀ i, i < m → fitsF (y i) = true
 | .ray x => ∃ A c, e = .returned (.tuple #[.slice A n c, .slice none 0 0, .int .i64 3]) ∧ RdF w' w'.heap.size A n c (ofF n fun i => fvQ (x i)) ∧ ∀ i, i < n → fitsF (x i) = true
 | .best x y => ∃ A c A' c', e = .returned (.tuple #[.slice A n c, .slice A' m c', .int .i64 0]) ∧ RdF w' w'.heap.size A n c (ofF n fun i => fvQ (x i)) ∧ RdF w' w'.heap.size A' m c' (ofF m fun i => fvQ (y i)) ∧ (∀ i, i < n → fitsF (x i) = true) ∧ ∀ i, i < m → fitsF (y i) = true
def SolP (w : World) (m n : Nat) (l : List Fv) (ls : List Rv) (e : Ending) (w' : World) : Prop :=
 ∃ E, LpSays m n (rwA2 ls) (rwB2 ls false) (fvR l) E ∧ solO w' m n e E ∧ Below w.heap.size w w'
theorem solve_no (A A' : Option Addr) (n cap m cap' : Nat) (l : List Fv) (ls : List Rv) (w : World) (hl : RdF w w.heap.size A n cap l) (hr : RdR w w.heap.size A' m cap' ls) (hn : n ≤ 20) (hm : m ≤ 40) (hno : (l.all Fv.ok && ls.all (rowF n)) = false) :
 Calls Tryz.prog 23 #[.agg #[.slice A n cap, .slice A' m cap']] w fun e w' => e = .returned (.tuple #[.slice none 0 0, .slice none 0 0, .int .i64 1]) ∧ Below w.heap.size w w' := by
 have HR := Lib.hid (fun W (h : Below w.heap.size w W) => pright_any A A' n cap m cap' l ls W (hl.up fE_lasts h) (hr.up rE_lasts h) hn hm)
 rw [hno] at HR
 have K := St.start w
 clear hl hr hno
 go_enter Tryz.func23, Tryz.ntmps23
 go_wp2_with (first | (first | (apply K.box; rfl; rfl; rfl; clear K; intro W b0 K; have c0 := (K.blk (b := b0) (cs := #[.slice A n cap, .slice A' m cap']) (t := 38) List.mem_cons_self).cell (j := 0) rfl; have c1 := (K.blk (b := b0) (cs := #[.slice A n cap, .slice A' m cap']) (t := 38) List.mem_cons_self).cell (j := 1) rfl)) | (go_at_call 26; refine (HR.out _ K.1).mono ?_; rintro e W' ⟨rfl, hb⟩; replace K := K.keep hb))
 exact bodyPost_ret (v := .tuple #[.slice none 0 0, .slice none 0 0, .int .i64 1]) (by simp [results, Tryz.results23, go_sem]) rfl ⟨rfl, K.1⟩
theorem solve_any (A A' : Option Addr) (n cap m cap' : Nat) (l : List Fv) (ls : List Rv) (w : World) (hl : RdF w w.heap.size A n cap l) (hr : RdR w w.heap.size A' m cap' ls) (hn : n ≤ 20) (hm : m ≤ 40) (hok : (l.all Fv.ok && ls.all (rowF n)) = true) :
 Calls Tryz.prog 23 #[.agg #[.slice A n cap, .slice A' m cap']] w (SolP w m n l ls) := by
 have HR := Lib.hid (fun W (h : Below w.heap.size w W) => pright_any A A' n cap m cap' l ls W (hl.up fE_lasts h) (hr.up rE_lasts h) hn hm)
 rw [hok] at HR
 rw [Bool.and_eq_true] at hok
 have hrow : ∀ (k : Nat) (X : Rv), ls[k]? = some X → rowF n X = true := fun k X h => List.all_eq_true.1 hok.2 _ (List.mem_of_getElem? h)
 have hlen := hl.len
 have hcap := hl.caps
 have hcap' := hr.caps
 obtain ⟨vg, hvg, K⟩ := (St.start w).fxOld hl
 have hc : ∀ j, j < n → isQ (vg j) (fvR l j) := fun j hj => by
  have h1 := hvg j hj
  have h2 : (vg j).fv.ok = true := List.all_eq_true.1 hok.1 _ (List.mem_of_getElem? h1)
  exact ZQ68
 have HC := Lib.hid hc
 have HOp := Lib.hid (fun W L D B cg v c (K : St w L D W) hg hc => opened_any w W L D A A' B n cap m cap' cg ls v c K hr hrow hg hc (by omega) (by omega))
 clear hl hok hc hvg hlen hrow
 go_enter Tryz.func23, Tryz.ntmps23
 go_upto_region 4 with (first | (first | (apply K.box; rfl; rfl; rfl; clear K; intro W b0 K; have c0 := (K.blk (b := b0) (cs := #[.slice A n cap, .slice A' m cap']) (t := 38) List.mem_cons_self).cell (j := 0) rfl; have c1 := (K.blk (b := b0) (cs := #[.slice A n cap, .slice A' m cap']) (t := 38) List.mem_cons_self).cell (j := 1) rfl)) | (go_at_call 26; refine (HR.out _ K.1).mono ?_; rintro e W' ⟨rfl, hb⟩; replace K := K.keep hb; clear c0 c1; have c0 := (K.blk (b := b0) (cs := #[.slice A n cap, .slice A' m cap']) (t := 38) List.mem_cons_self).cell (j := 0) rfl; have c1 := (K.blk (b := b0) (cs := #[.slice A n cap, .slice A' m cap']) (t := 38) List.mem_cons_self).cell (j := 1) rfl))
 clear c0 c1 HR
 have K0 := K.drew
 have HZ1 := Lib.hid (fun V L D (h : St w L D V) => zeros_any n w V L D h (by omega))
 have HSA := Lib.hid (fun V L D (h : St w L D V) (hm : ((b0, #[.slice A n cap, .slice A' m cap'], 38) : Blk) ∈ L) => (⟨(h.blk hm).cell (j := 0) rfl, (h.blk hm).cell (j := 1) rfl⟩ : V.cell? ⟨b0, 0, none⟩ = some (.slice A n cap) ∧ V.cell? ⟨b0, 1, none⟩ = some (.slice A' m cap')))
 have s0 := HSA.out _ _ _ K0 List.mem_cons_self
 clear K hb
 refine wp_region_T 100 (fun V => V.cell? ⟨b0, 0, none⟩ = some (.slice A n cap) ∧ V.cell? ⟨b0, 1, none⟩ = some (.slice A' m cap')) (by kernel_rfl) s0 (fun hSh => ?_)
 clear s0
 refine wpAnyT.tkA 0 rfl ?_
 refine wpAnyT.tkA 1 rfl ?_
 refine wpAnyT.on 2 rfl fun KK hKK => ?_
 go_simp
 go_at_call 61; refine (HZ1.out _ _ _ K0).mono ?_; rintro e w3 ⟨gz, vz, rfl, hvz, k1⟩
 go_wp2_with fail
 refine hKK.out _ _ ?_ (fun hSh => ?_)
 · exact HSA.out _ _ _ k1 ZMB
 clear hKK KK
 refine ZPT ?_
 have k2 := k1.fxOwn (by omega)
 refine wpAnyT.on 3 rfl fun KK hKK => ?_
 go_simp
 go_at_call 60; refine (HOp.out _ _ _ _ _ _ _ k2 List.mem_cons_self hvz.out).mono ?_; rintro e w4 ⟨db1, Ld1, Dd1, rfl, hD1, k3⟩
 go_wp2_with fail
 refine hKK.out _ _ ?_ (fun hSh => ?_)
 · exact HSA.out _ _ _ k3 (List.mem_append_right _ List.mem_cons_self)
 clear hKK KK
 refine ZPT ?_
 refine wpAnyT.tkA 4 rfl ?_
 refine wpAnyT.done (by kernel_rfl) ?_
 have K := k3
 clear k3 k2 k1 K0 hSh HZ1 hvz
 obtain ⟨G0, hG0⟩ : ∃ G0, G0 = opnD n (rwA2 ls) (rwB2 ls false) (fun _ => 0) := ⟨_, rfl⟩
 have hOk0 : G0.Ok m n := by rw [hG0]; exact opn_ok m n _ _ _
 have HG0 := Lib.hid hG0
 change Hid (DicL m n db1 false (opnD n (rwA2 ls) (rwB2 ls false) (fun _ => 0)) Ld1 Dd1) at hD1
 rw [← hG0] at hD1
 clear hG0
 have HS1 := Lib.hid (search_any w _ _ _ m n db1 G0 Ld1 Dd1 hD1.out K hOk0 (by omega) (by omega))
 go_upto_region 6 with (go_at_call 62; refine HS1.out.mono ?_; rintro e w5 ⟨r1, s1, b1, G1, Ld2, Dd2, rfl, hD2, hS, k4⟩)
 have K := k4
 clear k4 HS1
 obtain ⟨R1, hR1, hfl⟩ := hD2.out.flag (w0 := w) (L := Ld2 ++ [(b0, #[.slice A n cap, .slice A' m cap'], 38)]) (by repeat (first | exact List.sublist_append_left _ _ | apply List.Sublist.cons))
 have cf := hfl _ _ K
 clear hR1
 cases b1
 · obtain ⟨hq1, hq2⟩ := hS.out.2 rfl
   have HOk1 := Lib.hid (hq1.like hOk0 _ rfl).1
   rw [HG0.out] at hq1
   have HQ1 := Lib.hid hq1
   rcases nx_row hq2 with ⟨i, hp, rfl⟩ | ⟨hp, rfl⟩
   ·
    have him : i < m := (Dc.pick_contra hp).1
    have hi0 : ((i : Nat) : Int) ≥ 0 := by omega
    have hi1 : decide (((i : Nat) : Int) ≥ 0) = true := decide_eq_true hi0
    have HCo := Lib.hid (contradiction_any (L1 := [(b0, #[.slice A n cap, .slice A' m cap'], 38)]) hD2.out K HOk1.out (by omega) (by omega) him)
    have HE := Lib.hid (LpSays.none (c := fvR l) HQ1.out hp)
    clear hS hq1 hq2 hp hfl K
    go_wp2_with (go_at_call 63; refine HCo.out.mono ?_; rintro e w6 ⟨g, v, rfl, hv, k5⟩)
    have HP := Lib.hid (show SolP w m n l ls (.returned (.tuple #[.slice none 0 0, .slice (some ⟨g, 0, none⟩) m m, .int .i64 4])) w6 from ⟨_, HE.out, ⟨_, _, rfl, k5.rdOwn List.mem_cons_self (by omega) hv.out, fun i hi => (hv.out i hi).2⟩, k5.1⟩)
    clear k5 hv HE HCo
    go_wp2_with fail
    exact bodyPost_ret (v := .tuple #[.slice none 0 0, .slice (some ⟨g, 0, none⟩) m m, .int .i64 4]) (by simp [results, Tryz.results23, go_sem]) rfl HP.out
   · have HNC := Lib.hid hp
     have K2 := (K.part (L' := [(b0, #[.slice A n cap, .slice A' m cap'], 38)]) (List.sublist_append_right _ _)).less (D' := [⟨fxP A n cap vg, fxS A n vg⟩]) (fun x hx => List.mem_append_right _ (List.mem_cons_of_mem _ (by simpa using hx)))
     have c0 := (K2.blk (b := b0) (cs := #[.slice A n cap, .slice A' m cap']) (t := 38) List.mem_cons_self).cell (j := 0) rfl
     have c1 := (K2.blk (b := b0) (cs := #[.slice A n cap, .slice A' m cap']) (t := 38) List.mem_cons_self).cell (j := 1) rfl
     have HO2 := Lib.hid (HOp.out _ _ _ _ _ _ _ K2 List.mem_cons_self HC.out)
     obtain ⟨G3, hG3⟩ : ∃ G3, G3 = opnD n (rwA2 ls) (rwB2 ls false) (fvR l) := ⟨_, rfl⟩
     have hOk3 : G3.Ok m n := by rw [hG3]; exact opn_ok m n _ _ _
     have HG3 := Lib.hid hG3
     clear hS hq1 hq2 hp hfl K
     go_upto_region 11 with (go_at_call 60; refine HO2.out.mono ?_; rintro e w6 ⟨db3, Ld3, Dd3, rfl, hD3, k5⟩)
     rw [← HG3.out] at hD3
     have HS2 := Lib.hid (search_any w _ _ _ m n db3 G3 Ld3 Dd3 hD3.out k5 hOk3 (by omega) (by omega))
     clear k5 K2 c0 c1 cf HO2 HOp
     go_upto_region 12 with (go_at_call 62; refine HS2.out.mono ?_; rintro e w7 ⟨r4, s4, b4, G4, Ld4, Dd4, rfl, hD4, hS4, k6⟩)
     have K := k6
     clear k6 HS2
     obtain ⟨R4, hR4, hfl4⟩ := hD4.out.flag (w0 := w) (L := Ld4 ++ [(b0, #[.slice A n cap, .slice A' m cap'], 38)]) (by repeat (first | exact List.sublist_append_left _ _ | apply List.Sublist.cons))
     have cf := hfl4 _ _ K
     clear hR4 hfl4
     cases b4
     · obtain ⟨hq4, hq5⟩ := hS4.out.2 rfl
       have HOk4 := Lib.hid (hq4.like hOk3 _ rfl).1
       rw [HG3.out] at hq4
       have HE := Lib.hid (LpSays.fin HQ1.out HNC.out hq4)
       rcases nx_col hq5 with ⟨j, hp, rfl, he⟩ | ⟨rfl, he⟩
       ·
        rw [he] at HE
        have hjn : j < n := (Dc.pick_endless hp).1
        have hj0 : ((j : Nat) : Int) ≥ 0 := by omega
        have hj1 : decide (((j : Nat) : Int) ≥ 0) = true := decide_eq_true hj0
        have hj2 : ¬ ((j : Nat) : Int) < 0 := by omega
        have hj3 : decide (((j : Nat) : Int) < 0) = false := decide_eq_false hj2
        have HRa := Lib.hid (ray_any (L1 := [(b0, #[.slice A n cap, .slice A' m cap'], 38)]) hD4.out K HOk4.out (by omega) (by omega) hjn)
        clear hS4 hq4 hq5 hp he K
        go_wp2_with (go_at_call 65; refine HRa.out.mono ?_; rintro e w8 ⟨g, v, rfl, hv, k7⟩; obtain ⟨R8, -, hfl8⟩ := hD4.out.flag (w0 := w) (L := ((g, rwA n v [], 50) :: (Ld4 ++ [(b0, #[.slice A n cap, .slice A' m cap'], 38)]))) (by repeat (first | exact List.sublist_append_left _ _ | apply List.Sublist.cons)); have c8 := hfl8 _ _ k7; clear hfl8)
        have HP := Lib.hid (show SolP w m n l ls (.returned (.tuple #[.slice (some ⟨g, 0, none⟩) n n, .slice none 0 0, .int .i64 3])) w8 from ⟨_, HE.out, ⟨_, _, rfl, k7.rdOwn List.mem_cons_self (by omega) hv.out, fun i hi => (hv.out i hi).2⟩, k7.1⟩)
        clear k7 hv HE HRa
        go_wp2_with fail
        exact bodyPost_ret (v := .tuple #[.slice (some ⟨g, 0, none⟩) n n, .slice none 0 0, .int .i64 3]) (by simp [results, Tryz.results23, go_sem]) rfl HP.out
       · rw [he] at HE
         have HBe := Lib.hid (best_any (L1 := [(b0, #[.slice A n cap, .slice A' m cap'], 38)]) hD4.out K HOk4.out (by omega) (by omega))
         clear hS4 hq4 hq5 he K
         go_wp2_with (go_at_call 64; refine HBe.out.mono ?_; rintro e w8 ⟨gx, gy, vx, vy, rfl, hvx, hvy, k7⟩; obtain ⟨R8, -, hfl8⟩ := hD4.out.flag (w0 := w) (L := ((gy, rwA m vy [], 50) :: (gx, rwA n vx [], 50) :: (Ld4 ++ [(b0, #[.slice A n cap, .slice A' m cap'], 38)]))) (by repeat (first | exact List.sublist_append_left _ _ | apply List.Sublist.cons)); have c8 := hfl8 _ _ k7; clear hfl8)
         have HP := Lib.hid (show SolP w m n l ls (.returned (.tuple #[.slice (some ⟨gx, 0, none⟩) n n, .slice (some ⟨gy, 0, none⟩) m m, .int .i64 0])) w8 from ⟨_, HE.out, ⟨_, _, _, _, rfl, (k7.part (List.sublist_cons_self _ _)).rdOwn (List.mem_cons_of_mem _ List.mem_cons_self) (by omega) hvx.out, k7.rdOwn List.mem_cons_self (by omega) hvy.out, fun i hi => (hvx.out i hi).2, fun i hi => (hvy.out i hi).2⟩, k7.1⟩)
         clear k7 hvx hvy HE HBe
         go_wp2_with fail
         exact bodyPost_ret (v := .tuple #[.slice (some ⟨gx, 0, none⟩) n n, .slice (some ⟨gy, 0, none⟩) m m, .int .i64 0]) (by simp [results, Tryz.results23, go_sem]) rfl HP.out
     · obtain ⟨hq4, rfl, rfl⟩ := hS4.out.1 rfl
       rw [HG3.out] at hq4
       have HP := Lib.hid (show SolP w m n l ls (.returned (.tuple #[.slice none 0 0, .slice none 0 0, .int .i64 6])) w7 from ⟨_, LpSays.full2 HQ1.out HNC.out hq4, rfl, K.1⟩)
       clear hS4 hq4 K
       exact ZQ101
 · obtain ⟨hq1, rfl, rfl⟩ := hS.out.1 rfl
   rw [HG0.out] at hq1
   have HP := Lib.hid (show SolP w m n l ls (.returned (.tuple #[.slice none 0 0, .slice none 0 0, .int .i64 6])) w5 from ⟨_, LpSays.full1 hq1, rfl, K.1⟩)
   clear hS hq1 K
   exact ZQ101
theorem ZQ9 {p : Prop} (h : p := by
 first
  | (have hki : (k : Int) < (m : Int) := by omega
     have hk0 : (0 : Int) ≤ (k : Int) := by omega
     have hlkd : decide (k < m) = true := decide_eq_true hlk
     obtain ⟨eb, eo, A0, n0, c0, A3, n3, c3, A4, n4, c4, X5, hA, hbB2, hX, ⟨z0, z1, z2, z3, z4⟩, r0, r1, r2⟩ := HL.out.atR hlk
     subst hA
     have x0 := (K.1.cell (p := ⟨eb, eo + k * 5, none⟩) hbB2).trans z0
     have x1 := (K.1.cell (p := ⟨eb, eo + k * 5 + 1, none⟩) hbB2).trans z1
     have x2 := (K.1.cell (p := ⟨eb, eo + k * 5 + 2, none⟩) hbB2).trans z2
     have x3 := (K.1.cell (p := ⟨eb, eo + k * 5 + 3, none⟩) hbB2).trans z3
     have x4 := (K.1.cell (p := ⟨eb, eo + k * 5 + 4, none⟩) hbB2).trans z4
     have hc3 := r0.caps
     have hc4 := r1.caps
     have hc5 := r2.caps
     have hF := HRow.out k X5 hX
     unfold rowF at hF
     rw [Bool.and_eq_true, Bool.and_eq_true, decide_eq_true_eq] at hF
     have hn0 : n0 = n := by have := hF.1.1; have := r0.len; omega
     subst hn0
     obtain ⟨q, hq, K⟩ := K.fxOld r0
     have HE := Lib.hid (show isQ (q j) (rwA2 ls k j) from by
      have h1 := hq j hlt
      have h2 : (q j).fv.ok = true := List.all_eq_true.1 hF.2 _ (List.mem_of_getElem? h1)
      have h3 := fv_std h2
      unfold rwA2
      rw [hX, Option.bind_some, h1, Option.map_some, Option.getD_some]
      exact h3)
     obtain ⟨ab, ao, hA⟩ := K.fxAt (A := A0) (n := n0) (cap := c0) (v := q) ZMB (by omega)
     subst hA
     replace K := K.fxRd (n := n0) (v := q) (i := j) ZMB hlt
     clear hX z0 z1 z2 z3 z4 r0 r1 r2 hF hq
     go_wp2_with (first
      | (apply K.alloc; rfl; rfl; exact row_zero; clear K; intro W b2 K)
      | (apply K.storeA; rfl; rfl; rfl; rfl; rfl; (exact ZUP); exact row_size; rfl; rfl; rfl; clear K x0 x1 x2 x3 x4; intro W K; have w0c := (K.blk (b := b2) (cs := #[.slice (some ⟨ab, ao, none⟩) n0 c0, .int .i64 X5.b.s, .slice A3 n3 c3, .int .i64 X5.b.t, .slice A4 n4 c4]) (t := 56) ZMB).cell (j := 0) rfl; obtain ⟨f0, f1, f2, f3⟩ := K.fxCell (n := n0) (cap := c0) (b := ab) (off := ao) (v := q) ZMB hlt; replace K := K.mid)
      | (at_builtin; refine K.app1 Ho.out rw_sized rfl _ _ 23 rfl _ 64 Tryz.underlying23 frac_made rfl rfl (q j) _ rfl _ rfl (by exact rfl) (by rw [ofF_len]; omega) (by omega) ?_; clear w0c f0 f1 f2 f3; intro v4 X4 W4 ho4 K4))
     rw [ofF_put] at ho4
     have HA2 := Lib.hid (show ∀ i, i < k + 1 → isQ (putF u k (q j) i) (rwA2 ls i j) from fun i hi => by
      by_cases e : i = k
      · rw [e, putF_same]
        exact HE.out
      · rw [putF_other e]
        exact HA.out i (by omega))
     have Ho2 := Lib.hid ho4
     have HK := Lib.hid ((K4.cutm.rwAdd (v := u) (n := k) (q j) ZMB ZMB ZMB).lessS (D' := ⟨rwP (k + 1) (putF u k (q j)), rwS (k + 1) (putF u k (q j))⟩ :: ⟨rdP g1.B g1.m g1.d g1.k, rdS g1.B g1.m⟩ :: ⟨rdP g1.A g1.n g1.c g1.l, rdS g1.A g1.n⟩ :: D) (by repeat (first | with_reducible exact List.Sublist.refl _ | with_reducible apply List.Sublist.cons_cons | with_reducible apply List.Sublist.cons)))
     clear K4 K ho4 HA Ho HE
     go_roundg (m - (k + 1))
     case rel => exact ⟨k + 1, _, _, X4, hlk, rfl, rfl, by go_num, HA2, Ho2, HK.out⟩
     case measure => omega)
  | fail) : p := h
theorem ZQ43 {p : Prop} (h : p := by
 first
  | (have HN := Lib.hid (Hst.out.2 (decide_eq_false hle))
     clear Hst hle
     refine wpAnyT.tkA 6 rfl ?_
     refine wpAnyT.done (by kernel_rfl) ?_
     clear hSh
     go_wp2_with fail
     go_ret
     exact ⟨false, bn, Ln, rfl, HU2, Lib.hid (by
      rw [Bool.false_and]
      cases hb : b
      · have h := HN.out
        rw [hb] at h
        unfold covB
        rw [sumsB_bad hlt (by simpa using h)]
        rfl
      · rfl), HK.out.part (List.sublist_cons_self _ _)⟩)
  | fail) : p := h
theorem ZQ62 {p : Prop} (h : p := by
 first
  | (have HN := Lib.hid (Hst.out.1 (decide_eq_true hle))
     clear Hst hle
     refine wpAnyT.tkA 6 rfl ?_
     refine wpAnyT.done (by kernel_rfl) ?_
     clear hSh
     go_wp2_with fail
     go_roundg (n - (j + 1))
     case rel => exact ⟨j + 1, bn, Ln, hlt, rfl, by go_num, HU2, HN, HK.out⟩
     case measure => omega)
  | fail) : p := h
theorem ZQ115 {p : Prop} (h : p := by
 first
  | (rw [hg1]
     unfold fvR
     rw [hX, Option.map_some, Option.getD_some]
     exact fv_std (List.all_eq_true.1 HOk.out _ (List.mem_of_getElem? hX)))
  | fail) : p := h
theorem St.fxOwL {w W : World} {L X : List Blk} {D : List Hl} {n : Nat} {v : Nat → Rw} {e : TypeId} {val : Value} (K : St w (X ++ L) D W) (ho : OwL 4 Rw.cs e val (ofF n v) X) (hm : (⟨rwP n v, rwS n v⟩ : Hl) ∈ D) (hn : n ≤ 1000000) : ∃ A cap, val = .slice A n cap ∧ St w L (⟨fxP A n cap v, fxS A n v⟩ :: D) W := by
 have hP := K.okAt hm
 obtain ⟨A, cap, hv, hr⟩ := (ho.own rw_sized K).rd rw_sized (by rw [ofF_len]; omega)
 rw [ofF_len] at hv hr
 refine ⟨A, cap, hv, (K.part (List.sublist_append_right _ _)).fxAdd ⟨hr, fun i hi => hP.1 i hi⟩ fun b hS p hp e => ?_⟩
 rcases hS with ⟨hn0, a, ha, rfl⟩ | ⟨i, hi, hS⟩
 · rcases ho with ⟨rfl, -, -⟩ | ⟨g, cap2, J, rfl, rfl, -⟩
   · injection hv with h1 h2 h3
     omega
   · injection hv with h1 h2 h3
     subst h1
     injection ha with ha
     subst ha
     exact (List.pairwise_cons.1 K.2.2.1).1 p hp e.symm
 · exact (hP.2.1 b ⟨i, hi, hS⟩).2 p (List.mem_append_right _ hp) e
theorem cmpQ_lt {x y : Rat} : ¬ cmpQ x y < 0 ↔ y ≤ x := by
 have h := cmpQ_le (x := y) (y := x)
 rw [cmpQ_neg] at h
 constructor
 · intro h1; exact h.1 (by omega)
 · intro h1; have := h.2 h1; omega
theorem covers_any (w0 W : World) (L : List Blk) (D : List Hl) (mb : Nat) (b : Bool) (R : List Value) (T : TypeId) (A A' B : Option Addr) (n cap m cap' capx : Nat) (l : List Fv) (ls : List Rv) (v : Nat → Rw) (y : Nat → Rat)
 (K : St w0 L D W) (hmb : (mb, (Value.bool b :: R).toArray, T) ∈ L) (hl : RdF w0 w0.heap.size A n cap l) (hr : RdR w0 w0.heap.size A' m cap' ls) (hok : l.all Fv.ok = true) (hrow : ∀ (k : Nat) (X : Rv), ls[k]? = some X → rowF n X = true) (m2 : (⟨fxP B m capx v, fxS B m v⟩ : Hl) ∈ D) (hm : m ≤ 1000) (hy : ∀ i, i < m → isQ (v i) (y i)) :
 Calls Tryz.prog 75 #[.pointer (some ⟨mb, 0, none⟩), .agg #[.slice A n cap, .slice A' m cap'], .slice B m capx, .bool false] W (SumP w0 mb R T b L D (covB m n (rwA2 ls) (fvR l) y)) := by
 have HY := Lib.hid hy
 have HZ := Lib.hid pzero_any
 have M2 := Lib.hid m2
 have HL := Lib.hid hr
 have HG := Lib.hid hl
 have HRow := Lib.hid hrow
 have HOk := Lib.hid hok
 have hcap := hl.caps
 have hcap' := hr.caps
 have hcapx := K.fxCap m2
 obtain ⟨L9, hU9, rfl⟩ := Upd.same hmb
 have HU0 := Lib.hid hU9
 clear hy hr hl hrow hok hmb hU9 m2
 have r := K.raw
 go_enter Tryz.func75, Tryz.ntmps75
 go_wp2_with (apply K.box; rfl; rfl; rfl; clear K r; intro W b0 K; have r := K.rawS)
 go_loopg [17] n (fun gk s17 wr => ∃ (j : Nat) (bk : Bool) (Lk : List Blk), j ≤ n ∧ gk = n - j ∧ s17 = .int .i64 j ∧ Hid (Upd mb (Value.bool b :: R).toArray T (Value.bool bk :: R).toArray L9 Lk) ∧ Hid ((!bk) = (!b && sumsB (fun k => prdK y (fun i => rwA2 ls i k) m) (fun k => decide ((fvR l) k ≤ smQ (fun i => y i * rwA2 ls i k) m)) j)) ∧ St w0 ((b0, #[.slice A n cap, .slice A' m cap'], 38) :: Lk) D wr)
 case atStart => exact ⟨0, b, L9, Nat.zero_le _, rfl, rfl, HU0, Lib.hid (by simp [sumsB]), K⟩
 case round =>
  clear K r HU0
  obtain ⟨j, bk, Lk, hj, rfl, rfl, HU, HS, K⟩ := hrel
  by_cases hlt : j < n
  · obtain ⟨gb, go, A1, n1, c1, B1, m1, d1, X, hA, hbB, hX, ⟨z0, z1, z2, z3⟩, r1, r2⟩ := HG.out.atF hlt
    subst hA
    have hji : (j : Int) < (n : Int) := by omega
    have hj0 : (0 : Int) ≤ (j : Int) := by omega
    have y0 := (K.1.cell (p := ⟨gb, go + j * 4, none⟩) hbB).trans z0
    have y1 := (K.1.cell (p := ⟨gb, go + j * 4 + 1, none⟩) hbB).trans z1
    have y2 := (K.1.cell (p := ⟨gb, go + j * 4 + 2, none⟩) hbB).trans z2
    have y3 := (K.1.cell (p := ⟨gb, go + j * 4 + 3, none⟩) hbB).trans z3
    have hc1 := r1.caps
    have hc2 := r2.caps
    obtain ⟨g1, hg1⟩ : ∃ g1 : Rw, g1 = ⟨X.s, A1, n1, c1, X.l, X.t, B1, m1, d1, X.m⟩ := ⟨_, rfl⟩
    have HQ1 := Lib.hid (show isQ g1 (fvR l j) from by
     exact ZQ115)
    replace K : St w0 ((b0, #[.slice (some ⟨gb, go, none⟩) n cap, .slice A' m cap'], 38) :: Lk) (⟨rdP g1.B g1.m g1.d g1.k, rdS g1.B g1.m⟩ :: ⟨rdP g1.A g1.n g1.c g1.l, rdS g1.A g1.n⟩ :: D) wr := by rw [hg1]; exact (K.rdOld r1).rdOld r2
    replace y0 : wr.cell? ⟨gb, go + j * 4, none⟩ = some (.int .i64 g1.s) := by rw [hg1]; exact y0
    replace y1 : wr.cell? ⟨gb, go + j * 4 + 1, none⟩ = some (.slice g1.A g1.n g1.c) := by rw [hg1]; exact y1
    replace y2 : wr.cell? ⟨gb, go + j * 4 + 2, none⟩ = some (.int .i64 g1.t) := by rw [hg1]; exact y2
    replace y3 : wr.cell? ⟨gb, go + j * 4 + 3, none⟩ = some (.slice g1.B g1.m g1.d) := by rw [hg1]; exact y3
    replace hc1 : g1.n ≤ g1.c ∧ g1.c ≤ 9223372036854775807 ∧ g1.n ≤ 140737488351232 := by rw [hg1]; exact hc1
    replace hc2 : g1.m ≤ g1.d ∧ g1.d ≤ 9223372036854775807 ∧ g1.m ≤ 140737488351232 := by rw [hg1]; exact hc2
    clear hX z0 z1 z2 z3 r1 r2 hg1
    have r := K.rawS
    go_wp2_with (first
     | (apply K.alloc; rfl; rfl; exact frac_zero; clear K r; intro W b1 K; have r := K.rawS)
     | (apply K.storeA; rfl; rfl; rfl; rfl; rfl; (exact ZUP); exact frac_size; rfl; rfl; rfl; clear K r; intro W K; have r := K.rawS))
    replace K : St w0 ([] ++ (((b1, #[.int .i64 g1.s, .slice g1.A g1.n g1.c, .int .i64 g1.t, .slice g1.B g1.m g1.d], 50) : Blk) :: ((b0, #[.slice (some ⟨gb, go, none⟩) n cap, .slice A' m cap'], 38) : Blk) :: Lk)) _ _ := K.rwNew 0
    clear r y0 y1 y2 y3
    go_loopg [11, 25] m (fun gk s11 s25 wr => ∃ (k : Nat) (u : Nat → Rw) (val : Value) (X : List Blk), k ≤ m ∧ gk = m - k ∧ s11 = val ∧ s25 = .int .i64 k ∧ Hid (∀ i, i < k → isQ (u i) (rwA2 ls i j)) ∧ Hid (OwL 4 Rw.cs 50 val (ofF k u) X) ∧ St w0 (X ++ (((b1, #[.int .i64 g1.s, .slice g1.A g1.n g1.c, .int .i64 g1.t, .slice g1.B g1.m g1.d], 50) : Blk) :: ((b0, #[.slice (some ⟨gb, go, none⟩) n cap, .slice A' m cap'], 38) : Blk) :: Lk)) (⟨rwP k u, rwS k u⟩ :: ⟨rdP g1.B g1.m g1.d g1.k, rdS g1.B g1.m⟩ :: ⟨rdP g1.A g1.n g1.c g1.l, rdS g1.A g1.n⟩ :: D) wr)
    case atStart => exact ⟨0, fun _ => Rw.zero, _, [], Nat.zero_le _, rfl, rfl, rfl, Lib.hid (fun i h => absurd h (by omega)), Lib.hid OwL.nil, K⟩
    case round =>
     clear K
     obtain ⟨k, u, val, X, hk, rfl, rfl, rfl, HA, Ho, K⟩ := hrel
     by_cases hlk : k < m
     · exact ZQ9
     · have e : m = k := by omega
       subst e
       have hlkd : decide (m < m) = false := decide_eq_false hlk
       obtain ⟨Ac, cc, hv, K⟩ := K.fxOwL Ho.out ZMB (by omega)
       subst hv
       clear Ho hlk
       have r := K.rawS
       obtain ⟨g, hg⟩ : ∃ g : Rw, g = g1 := ⟨_, rfl⟩
       subst hg
       have HQ := HQ1
       go_upto_region 12 with fail
       clear HQ1
       have hcc := K.fxCap (A := Ac) (n := m) (cap := cc) (v := u) ZMB
       have K0 := K.drew
       obtain ⟨bn, hbn⟩ : ∃ bn, bn = (bk || !prdK y (fun i => rwA2 ls i j) m) := ⟨_, rfl⟩
       obtain ⟨Ln, hU1, hU2⟩ := HU.out.next (Value.bool bn :: R).toArray
       have HU2 := Lib.hid hU2
       have HBn := Lib.hid hbn
       have HPr := Lib.hid (product_any w0 _ _ (((b1, #[.int .i64 g.s, .slice g.A g.n g.c, .int .i64 g.t, .slice g.B g.m g.d], 50) : Blk) :: ((b0, #[.slice (some ⟨gb, go, none⟩) n cap, .slice A' m cap'], 38) : Blk) :: Ln) _ mb bk bn R T B Ac m capx m cc v u y (fun i => rwA2 ls i j) K0 (by repeat (first | exact M2.out | with_reducible apply List.mem_cons_of_mem)) ZMB ⟨Nat.le_refl _, by omega⟩ HY.out HA.out hbn (.tail _ (.tail _ hU1)))
       have HCm := Lib.hid (fun V (y2 : Rw) (z2 : Rat) (hz : isQ y2 z2) (h : St w0 (((b1, #[.int .i64 g.s, .slice g.A g.n g.c, .int .i64 g.t, .slice g.B g.m g.d], 50) : Blk) :: ((b0, #[.slice (some ⟨gb, go, none⟩) n cap, .slice A' m cap'], 38) : Blk) :: Ln) (⟨rdP y2.B y2.m y2.d y2.k, rdS y2.B y2.m⟩ :: ⟨rdP y2.A y2.n y2.c y2.l, rdS y2.A y2.n⟩ :: (⟨fxP Ac m cc u, fxS Ac m u⟩ : Hl) :: ⟨rwP m u, rwS m u⟩ :: ⟨rdP g.B g.m g.d g.k, rdS g.B g.m⟩ :: ⟨rdP g.A g.n g.c g.l, rdS g.A g.n⟩ :: D) V) => callCmp h hz HQ.out ZMB ZMB ZMB ZMB)
       have HSA := Lib.hid (fun V D2 Lx (h : St w0 (((b1, #[.int .i64 g.s, .slice g.A g.n g.c, .int .i64 g.t, .slice g.B g.m g.d], 50) : Blk) :: Lx) D2 V) => (show (V.cell? ⟨b1, 0, none⟩ = some (.int .i64 g.s) ∧ V.cell? ⟨b1, 1, none⟩ = some (.slice g.A g.n g.c) ∧ V.cell? ⟨b1, 2, none⟩ = some (.int .i64 g.t) ∧ V.cell? ⟨b1, 3, none⟩ = some (.slice g.B g.m g.d)) from ⟨(h.blk ZMB).cell (j := 0) rfl, (h.blk ZMB).cell (j := 1) rfl, (h.blk ZMB).cell (j := 2) rfl, (h.blk ZMB).cell (j := 3) rfl⟩))
       have s0 := HSA.out _ _ _ K0
       clear hU1 hU2 hbn HU K r
       refine wp_region_T 100 (fun V => (V.cell? ⟨b1, 0, none⟩ = some (.int .i64 g.s) ∧ V.cell? ⟨b1, 1, none⟩ = some (.slice g.A g.n g.c) ∧ V.cell? ⟨b1, 2, none⟩ = some (.int .i64 g.t) ∧ V.cell? ⟨b1, 3, none⟩ = some (.slice g.B g.m g.d))) (by kernel_rfl) s0 (fun hSh => ?_)
       clear s0
       refine wpAnyT.tkA 0 rfl ?_
       refine wpAnyT.tkA 1 rfl ?_
       refine wpAnyT.tkA 2 rfl ?_
       refine wpAnyT.tkA 4 rfl ?_
       refine wpAnyT.on 3 rfl fun KK hKK => ?_
       go_simp
       go_at_call 76; refine HPr.out.mono ?_; rintro e w5 ⟨y2, z2, rfl, g2, k5⟩
       go_wp2_with fail
       refine hKK.out _ _ ?_ (fun hSh => ?_)
       · exact HSA.out _ _ _ k5
       clear hKK KK
       refine ZPT ?_
       refine wpAnyT.on 5 rfl fun KK hKK => ?_
       go_simp
       go_at_call 54; refine (HCm.out _ _ _ g2.out.1 k5).mono ?_; rintro e w6 ⟨rfl, k6⟩
       go_wp2_with fail
       refine hKK.out _ _ ?_ (fun hSh => ?_)
       · exact HSA.out _ _ _ k6
       clear hKK KK
       refine ZPT ?_
       have hst := sums_step (q := decide ((fvR l) j ≤ z2)) HS.out HBn.out (p := fun k => decide ((fvR l) k ≤ smQ (fun i => y i * rwA2 ls i k) m)) (t := fun k => prdK y (fun i => rwA2 ls i k) m) (fun h => by rw [g2.out.2 h])
       have Hst := Lib.hid hst
       have HK := Lib.hid ((k6.lessS (D' := D) (by repeat (first | with_reducible exact List.Sublist.refl _ | with_reducible apply List.Sublist.cons))).part (List.sublist_cons_self _ _))
       clear hst k5 K0 HPr HCm HSA g2 HBn HS HA HQ HY HRow
       by_cases hle : (fvR l) j ≤ z2
       · have hc : ¬ cmpQ z2 ((fvR l) j) < 0 := cmpQ_lt.2 hle
         have hcd : decide (cmpQ z2 ((fvR l) j) < 0) = false := decide_eq_false hc
         exact ZQ62
       · have hc : cmpQ z2 ((fvR l) j) < 0 := by
          have : ¬ ¬ cmpQ z2 ((fvR l) j) < 0 := fun h => hle (cmpQ_lt.1 h)
          omega
         have hcd : decide (cmpQ z2 ((fvR l) j) < 0) = true := decide_eq_true hc
         exact ZQ43
  · have e : n = j := by omega
    subst e
    have HE := Lib.hid (⟨true, bk, Lk, rfl, HU, Lib.hid (by rw [Bool.true_and]; exact HS.out), K.part (List.sublist_cons_self _ _)⟩ : SumP w0 mb R T b L9 D (covB m n (rwA2 ls) (fvR l) y) (.returned (.bool true)) wr)
    exact ZQ105
end Go.Proofs.YtdlcglndhhndpaaGreat
