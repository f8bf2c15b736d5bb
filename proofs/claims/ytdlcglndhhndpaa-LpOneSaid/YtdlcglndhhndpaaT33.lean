/- Laws and walks laid together; the conditions stand in each theorem. -/
import Derived.Laws.BitsAllLaws
import Derived.Laws.BitsLemmas
import Derived.Deep.RegionHeld3
import Derived.Test.YtdlcglndhhndpaaT30
import Derived.Test.YtdlcglndhhndpaaT32
import Derived.Test.YtdlcglndhhndpaaT08
import Derived.Test.YtdlcglndhhndpaaT13
import Derived.Test.YtdlcglndhhndpaaT17
import Derived.Test.YtdlcglndhhndpaaT12
set_option linter.unusedSimpArgs false
set_option linter.unusedVariables false
namespace Go.Proofs.Ytdlcglndhhndpaa
open Go.RowKit
theorem ZQ76 {p : Prop} (h : p := by
  first
    | (unfold fvR
       rw [h1, Option.map_some, Option.getD_some]
       exact fv_std h2)
    | fail) : p := h
theorem ZQ86 {p : Prop} (h : p := by
  first
    | (go_wp2_with fail
       exact bodyPost_ret (v := .tuple #[.slice none 0 0, .slice none 0 0, .int .i64 6]) (by simp [results, Try.results32, go_sem]) rfl HP.out)
    | fail) : p := h
def fvR (l : List Fv) (j : Nat) : Rat := ((l[j]?).map Fv.rat).getD 0
theorem isQ.fv {x : Rw} {q : Rat} (h : isQ x q) : x.fv = fvQ q := by
  obtain ⟨⟨⟨h1, h2⟩, h3, h4⟩, -⟩ := h
  unfold Rw.fv fvQ
  rw [h1, h2, h3, h4]
theorem St.fxOwn {w W : World} {L : List Blk} {D : List Hl} {g n : Nat} {v : Nat → Rw} {t : TypeId} (K : St w ((g, rwA n v [], t) :: L) (⟨rwP n v, rwS n v⟩ :: D) W) (hn : n ≤ 1000) : St w L (⟨fxP (some ⟨g, 0, none⟩) n n v, fxS (some ⟨g, 0, none⟩) n v⟩ :: D) W := by
  have hB := K.blk (b := g) (cs := rwA n v []) (t := t) List.mem_cons_self
  have hP := K.okAt (x := ⟨rwP n v, rwS n v⟩) List.mem_cons_self
  have h1 : fxP (some ⟨g, 0, none⟩) n n v W := by
    refine ⟨⟨ofF_len, Nat.le_refl _, ⟨by omega, by omega⟩, fun _ => ⟨g, 0, rfl, hB.lt, fun k hk => ?_⟩⟩, fun i hi => hP.1 i hi⟩
    rw [ofF_len] at hk
    refine ⟨(v k).cs, ?_, rfl, fun j u hu => ?_⟩
    · have e : (ofF n v)[k]'(by rw [ofF_len]; exact hk) = v k := by
        have := ofF_get (f := v) hk
        exact ZQ30
      rw [e]
      rfl
    · have hj : j < 4 := (List.getElem?_eq_some_iff.1 hu).1
      rw [Nat.zero_add]
      exact hB.cell ((rwA_get (J := []) hk hj).trans hu)
  have hpw := List.pairwise_cons.1 K.2.2.1
  refine ((K.part (List.sublist_cons_self _ _)).less (D' := D) (fun x hx => List.mem_cons_of_mem _ hx)).fxAdd h1 fun b hS p hp e => ?_
  rcases hS with ⟨-, a, ha, rfl⟩ | ⟨i, hi, hS⟩
  · injection ha with ha
    subst ha
    exact hpw.1 p hp e.symm
  · exact (hP.2.1 b ⟨i, hi, hS⟩).2 p (List.mem_cons_of_mem _ hp) e
theorem St.rdOwn {w W : World} {L : List Blk} {D : List Hl} {g n : Nat} {v : Nat → Rw} {t : TypeId} {x : Nat → Rat} (K : St w ((g, rwA n v [], t) :: L) D W) (hm : (⟨rwP n v, rwS n v⟩ : Hl) ∈ D) (hn : n ≤ 1000) (hx : ∀ j, j < n → isQ (v j) (x j)) : RdF W W.heap.size (some ⟨g, 0, none⟩) n n (ofF n fun i => fvQ (x i)) := by
  have ho : OwL 4 Rw.cs t (.slice (some ⟨g, 0, none⟩) n n) (ofF n v) [(g, rwA n v [], t)] := Or.inr ⟨g, n, [], by rw [ofF_len], rfl, by rw [ofF_len]; exact Nat.le_refl _, by unfold maxLen; omega, by rw [List.append_nil, rwA_len]⟩
  obtain ⟨A, cap, e, h⟩ := ho.rdF (L := L) K hm (by omega)
  injection e with e1 e2 e3
  subst e1 e3
  rw [ofF_congr (g := fun i => fvQ (x i)) (fun i hi => (hx i hi).fv)] at h
  exact h
theorem nx_row {p : Nxt} {r s : Int} (h : NxI p r s) : (∃ i, p = .contra i ∧ r = (i : Int)) ∨ (∀ i, p ≠ .contra i) ∧ r = -1 := by
  cases p with
  | best => exact Or.inr ⟨(fun i e => by cases e), h.1⟩
  | contra i => exact Or.inl ⟨i, rfl, h.1⟩
  | endless j => exact Or.inr ⟨(fun i e => by cases e), h.1⟩
  | swap _ _ => exact h.elim
theorem nx_col {m n : Nat} {D : Dc} {r s : Int} (h : NxI (D.pick m n) r s) : (∃ j, D.pick m n = .endless j ∧ s = (j : Int) ∧ endOf m n D = .ray (xR m D j)) ∨ s = -1 ∧ endOf m n D = .best (xB m D) (yB n D) := by
  unfold endOf
  cases hp : D.pick m n with
  | best => rw [hp] at h; exact Or.inr ⟨h.2, rfl⟩
  | contra i => rw [hp] at h; exact Or.inr ⟨h.2, rfl⟩
  | endless j => rw [hp] at h; exact Or.inl ⟨j, rfl, h.2, rfl⟩
  | swap _ _ => rw [hp] at h; exact h.elim
def solO (w' : World) (m n : Nat) (e : Ending) : LpEnd → Prop
  | .full => e = .returned (.tuple #[.slice none 0 0, .slice none 0 0, .int .i64 6])
  | .none y => ∃ A c, e = .returned (.tuple #[.slice none 0 0, .slice A m c, .int .i64 4]) ∧ RdF w' w'.heap.size A m c (ofF m fun i => fvQ (y i)) ∧ ∀ i, i < m → fitsF (y i) = true
  | .ray x => ∃ A c, e = .returned (.tuple #[.slice A n c, .slice none 0 0, .int .i64 3]) ∧ RdF w' w'.heap.size A n c (ofF n fun i => fvQ (x i)) ∧ ∀ i, i < n → fitsF (x i) = true
  | .best x y => ∃ A c A' c', e = .returned (.tuple #[.slice A n c, .slice A' m c', .int .i64 0]) ∧ RdF w' w'.heap.size A n c (ofF n fun i => fvQ (x i)) ∧ RdF w' w'.heap.size A' m c' (ofF m fun i => fvQ (y i)) ∧ (∀ i, i < n → fitsF (x i) = true) ∧ ∀ i, i < m → fitsF (y i) = true
def SolP (w : World) (m n : Nat) (l : List Fv) (ls : List Rv) (e : Ending) (w' : World) : Prop :=
  ∃ E, LpSays m n (rwA2 ls) (rwB2 ls false) (fvR l) E ∧ solO w' m n e E ∧ Below w.heap.size w w'
set_option maxRecDepth 100000 in
set_option maxHeartbeats 8000000 in
theorem solve_any (A A' : Option Addr) (n cap m cap' : Nat) (l : List Fv) (ls : List Rv) (w : World) (hl : RdF w w.heap.size A n cap l) (hr : RdR w w.heap.size A' m cap' ls) (hn : n ≤ 20) (hm : m ≤ 40) (hok : (l.all Fv.ok && ls.all (rowF n)) = true) :
    Calls Try.prog 32 #[.agg #[.slice A n cap, .slice A' m cap']] w (SolP w m n l ls) := by
  have HR := Lib.hid (fun W (h : Below w.heap.size w W) => pright_any A A' n cap m cap' l ls W (hl.up fE_lasts h) (hr.up rE_lasts h) hn hm)
  rw [hok] at HR
  rw [Bool.and_eq_true] at hok
  have hrow : ∀ (k : Nat) (X : Rv), ls[k]? = some X → rowF n X = true := fun k X h => List.all_eq_true.1 hok.2 _ (List.mem_of_getElem? h)
  have hlen := hl.len
  have hcap := hl.caps
  have hcap' := hr.caps
  obtain ⟨vg, hvg, K⟩ := (St.start w).fxOld hl
  have hc : ∀ j, j < n → isQ (vg j) (fvR l j) := fun j hj => by
    have h1 := hvg j hj
    have h2 : (vg j).fv.ok = true := List.all_eq_true.1 hok.1 _ (List.mem_of_getElem? h1)
    exact ZQ76
  have HC := Lib.hid hc
  have HOp := Lib.hid (fun W L D B cg v c (K : St w L D W) hg hc => opened_any w W L D A A' B n cap m cap' cg ls v c K hr hrow hg hc (by omega) (by omega))
  clear hl hok hc hvg hlen hrow
  go_enter Try.func32, Try.ntmps32
  go_upto_region 4 with (first | (first | (apply K.box; rfl; rfl; rfl; clear K; intro W b0 K; have c0 := (K.blk (b := b0) (cs := #[.slice A n cap, .slice A' m cap']) (t := 58) List.mem_cons_self).cell (j := 0) rfl; have c1 := (K.blk (b := b0) (cs := #[.slice A n cap, .slice A' m cap']) (t := 58) List.mem_cons_self).cell (j := 1) rfl)) | (go_at_call 30; refine (HR.out _ K.1).mono ?_; rintro e W' ⟨rfl, hb⟩; replace K := K.keep hb; clear c0 c1; have c0 := (K.blk (b := b0) (cs := #[.slice A n cap, .slice A' m cap']) (t := 58) List.mem_cons_self).cell (j := 0) rfl; have c1 := (K.blk (b := b0) (cs := #[.slice A n cap, .slice A' m cap']) (t := 58) List.mem_cons_self).cell (j := 1) rfl))
  clear c0 c1 HR
  have K0 := K.drew
  have HZ1 := Lib.hid (fun V L D (h : St w L D V) => zeros_any n w V L D h (by omega))
  have HSA := Lib.hid (fun V L D (h : St w L D V) (hm : ((b0, #[.slice A n cap, .slice A' m cap'], 58) : Blk) ∈ L) => (⟨(h.blk hm).cell (j := 0) rfl, (h.blk hm).cell (j := 1) rfl⟩ : V.cell? ⟨b0, 0, none⟩ = some (.slice A n cap) ∧ V.cell? ⟨b0, 1, none⟩ = some (.slice A' m cap')))
  have s0 := HSA.out _ _ _ K0 List.mem_cons_self
  clear K hb
  refine wp_region_T 100 (fun V => V.cell? ⟨b0, 0, none⟩ = some (.slice A n cap) ∧ V.cell? ⟨b0, 1, none⟩ = some (.slice A' m cap')) (by kernel_rfl) s0 (fun hSh => ?_)
  clear s0
  refine wpAnyT.tkA 0 rfl ?_
  refine wpAnyT.tkA 1 rfl ?_
  refine wpAnyT.on 2 rfl fun KK hKK => ?_
  go_simp
  go_at_call 68; refine (HZ1.out _ _ _ K0).mono ?_; rintro e w3 ⟨gz, vz, rfl, hvz, k1⟩
  go_wp2_with fail
  refine hKK.out _ _ ?_ (fun hSh => ?_)
  · exact HSA.out _ _ _ k1 ZMB
  clear hKK KK
  refine ZPT ?_
  have k2 := k1.fxOwn (by omega)
  refine wpAnyT.on 3 rfl fun KK hKK => ?_
  go_simp
  go_at_call 67; refine (HOp.out _ _ _ _ _ _ _ k2 List.mem_cons_self hvz.out).mono ?_; rintro e w4 ⟨db1, Ld1, Dd1, rfl, hD1, k3⟩
  go_wp2_with fail
  refine hKK.out _ _ ?_ (fun hSh => ?_)
  · exact HSA.out _ _ _ k3 (List.mem_append_right _ List.mem_cons_self)
  clear hKK KK
  refine ZPT ?_
  refine wpAnyT.tkA 4 rfl ?_
  refine wpAnyT.done (by kernel_rfl) ?_
  have K := k3
  clear k3 k2 k1 K0 hSh HZ1 hvz
  obtain ⟨G0, hG0⟩ : ∃ G0, G0 = opnD n (rwA2 ls) (rwB2 ls false) (fun _ => 0) := ⟨_, rfl⟩
  have hOk0 : G0.Ok m n := by rw [hG0]; exact opn_ok m n _ _ _
  have HG0 := Lib.hid hG0
  change Hid (DicL m n db1 false (opnD n (rwA2 ls) (rwB2 ls false) (fun _ => 0)) Ld1 Dd1) at hD1
  rw [← hG0] at hD1
  clear hG0
  have HS1 := Lib.hid (search_any w _ _ _ m n db1 G0 Ld1 Dd1 hD1.out K hOk0 (by omega) (by omega))
  go_upto_region 6 with (go_at_call 69; refine HS1.out.mono ?_; rintro e w5 ⟨r1, s1, b1, G1, Ld2, Dd2, rfl, hD2, hS, k4⟩)
  have K := k4
  clear k4 HS1
  obtain ⟨R1, hR1, hfl⟩ := hD2.out.flag (w0 := w) (L := Ld2 ++ [(b0, #[.slice A n cap, .slice A' m cap'], 58)]) (by repeat (first | exact List.sublist_append_left _ _ | apply List.Sublist.cons))
  have cf := hfl _ _ K
  clear hR1
  cases b1
  · obtain ⟨hq1, hq2⟩ := hS.out.2 rfl
    have HOk1 := Lib.hid (hq1.like hOk0 _ rfl).1
    rw [HG0.out] at hq1
    have HQ1 := Lib.hid hq1
    rcases nx_row hq2 with ⟨i, hp, rfl⟩ | ⟨hp, rfl⟩
    ·
      have him : i < m := (Dc.pick_contra hp).1
      have hi0 : ((i : Nat) : Int) ≥ 0 := by omega
      have hi1 : decide (((i : Nat) : Int) ≥ 0) = true := decide_eq_true hi0
      have HCo := Lib.hid (contradiction_any (L1 := [(b0, #[.slice A n cap, .slice A' m cap'], 58)]) hD2.out K HOk1.out (by omega) (by omega) him)
      have HE := Lib.hid (LpSays.none (c := fvR l) HQ1.out hp)
      clear hS hq1 hq2 hp hfl K
      go_wp2_with (go_at_call 70; refine HCo.out.mono ?_; rintro e w6 ⟨g, v, rfl, hv, k5⟩)
      have HP := Lib.hid (show SolP w m n l ls (.returned (.tuple #[.slice none 0 0, .slice (some ⟨g, 0, none⟩) m m, .int .i64 4])) w6 from ⟨_, HE.out, ⟨_, _, rfl, k5.rdOwn List.mem_cons_self (by omega) hv.out, fun i hi => (hv.out i hi).2⟩, k5.1⟩)
      clear k5 hv HE HCo
      go_wp2_with fail
      exact bodyPost_ret (v := .tuple #[.slice none 0 0, .slice (some ⟨g, 0, none⟩) m m, .int .i64 4]) (by simp [results, Try.results32, go_sem]) rfl HP.out
    · have HNC := Lib.hid hp
      have K2 := (K.part (L' := [(b0, #[.slice A n cap, .slice A' m cap'], 58)]) (List.sublist_append_right _ _)).less (D' := [⟨fxP A n cap vg, fxS A n vg⟩]) (fun x hx => List.mem_append_right _ (List.mem_cons_of_mem _ (by simpa using hx)))
      have c0 := (K2.blk (b := b0) (cs := #[.slice A n cap, .slice A' m cap']) (t := 58) List.mem_cons_self).cell (j := 0) rfl
      have c1 := (K2.blk (b := b0) (cs := #[.slice A n cap, .slice A' m cap']) (t := 58) List.mem_cons_self).cell (j := 1) rfl
      have HO2 := Lib.hid (HOp.out _ _ _ _ _ _ _ K2 List.mem_cons_self HC.out)
      obtain ⟨G3, hG3⟩ : ∃ G3, G3 = opnD n (rwA2 ls) (rwB2 ls false) (fvR l) := ⟨_, rfl⟩
      have hOk3 : G3.Ok m n := by rw [hG3]; exact opn_ok m n _ _ _
      have HG3 := Lib.hid hG3
      clear hS hq1 hq2 hp hfl K
      go_upto_region 11 with (go_at_call 67; refine HO2.out.mono ?_; rintro e w6 ⟨db3, Ld3, Dd3, rfl, hD3, k5⟩)
      rw [← HG3.out] at hD3
      have HS2 := Lib.hid (search_any w _ _ _ m n db3 G3 Ld3 Dd3 hD3.out k5 hOk3 (by omega) (by omega))
      clear k5 K2 c0 c1 cf HO2 HOp
      go_upto_region 12 with (go_at_call 69; refine HS2.out.mono ?_; rintro e w7 ⟨r4, s4, b4, G4, Ld4, Dd4, rfl, hD4, hS4, k6⟩)
      have K := k6
      clear k6 HS2
      obtain ⟨R4, hR4, hfl4⟩ := hD4.out.flag (w0 := w) (L := Ld4 ++ [(b0, #[.slice A n cap, .slice A' m cap'], 58)]) (by repeat (first | exact List.sublist_append_left _ _ | apply List.Sublist.cons))
      have cf := hfl4 _ _ K
      clear hR4 hfl4
      cases b4
      · obtain ⟨hq4, hq5⟩ := hS4.out.2 rfl
        have HOk4 := Lib.hid (hq4.like hOk3 _ rfl).1
        rw [HG3.out] at hq4
        have HE := Lib.hid (LpSays.fin HQ1.out HNC.out hq4)
        rcases nx_col hq5 with ⟨j, hp, rfl, he⟩ | ⟨rfl, he⟩
        ·
          rw [he] at HE
          have hjn : j < n := (Dc.pick_endless hp).1
          have hj0 : ((j : Nat) : Int) ≥ 0 := by omega
          have hj1 : decide (((j : Nat) : Int) ≥ 0) = true := decide_eq_true hj0
          have hj2 : ¬ ((j : Nat) : Int) < 0 := by omega
          have hj3 : decide (((j : Nat) : Int) < 0) = false := decide_eq_false hj2
          have HRa := Lib.hid (ray_any (L1 := [(b0, #[.slice A n cap, .slice A' m cap'], 58)]) hD4.out K HOk4.out (by omega) (by omega) hjn)
          clear hS4 hq4 hq5 hp he K
          go_wp2_with (go_at_call 72; refine HRa.out.mono ?_; rintro e w8 ⟨g, v, rfl, hv, k7⟩; obtain ⟨R8, -, hfl8⟩ := hD4.out.flag (w0 := w) (L := ((g, rwA n v [], 40) :: (Ld4 ++ [(b0, #[.slice A n cap, .slice A' m cap'], 58)]))) (by repeat (first | exact List.sublist_append_left _ _ | apply List.Sublist.cons)); have c8 := hfl8 _ _ k7; clear hfl8)
          have HP := Lib.hid (show SolP w m n l ls (.returned (.tuple #[.slice (some ⟨g, 0, none⟩) n n, .slice none 0 0, .int .i64 3])) w8 from ⟨_, HE.out, ⟨_, _, rfl, k7.rdOwn List.mem_cons_self (by omega) hv.out, fun i hi => (hv.out i hi).2⟩, k7.1⟩)
          clear k7 hv HE HRa
          go_wp2_with fail
          exact bodyPost_ret (v := .tuple #[.slice (some ⟨g, 0, none⟩) n n, .slice none 0 0, .int .i64 3]) (by simp [results, Try.results32, go_sem]) rfl HP.out
        · rw [he] at HE
          have HBe := Lib.hid (best_any (L1 := [(b0, #[.slice A n cap, .slice A' m cap'], 58)]) hD4.out K HOk4.out (by omega) (by omega))
          clear hS4 hq4 hq5 he K
          go_wp2_with (go_at_call 71; refine HBe.out.mono ?_; rintro e w8 ⟨gx, gy, vx, vy, rfl, hvx, hvy, k7⟩; obtain ⟨R8, -, hfl8⟩ := hD4.out.flag (w0 := w) (L := ((gy, rwA m vy [], 40) :: (gx, rwA n vx [], 40) :: (Ld4 ++ [(b0, #[.slice A n cap, .slice A' m cap'], 58)]))) (by repeat (first | exact List.sublist_append_left _ _ | apply List.Sublist.cons)); have c8 := hfl8 _ _ k7; clear hfl8)
          have HP := Lib.hid (show SolP w m n l ls (.returned (.tuple #[.slice (some ⟨gx, 0, none⟩) n n, .slice (some ⟨gy, 0, none⟩) m m, .int .i64 0])) w8 from ⟨_, HE.out, ⟨_, _, _, _, rfl, (k7.part (List.sublist_cons_self _ _)).rdOwn (List.mem_cons_of_mem _ List.mem_cons_self) (by omega) hvx.out, k7.rdOwn List.mem_cons_self (by omega) hvy.out, fun i hi => (hvx.out i hi).2, fun i hi => (hvy.out i hi).2⟩, k7.1⟩)
          clear k7 hvx hvy HE HBe
          go_wp2_with fail
          exact bodyPost_ret (v := .tuple #[.slice (some ⟨gx, 0, none⟩) n n, .slice (some ⟨gy, 0, none⟩) m m, .int .i64 0]) (by simp [results, Try.results32, go_sem]) rfl HP.out
      · obtain ⟨hq4, rfl, rfl⟩ := hS4.out.1 rfl
        rw [HG3.out] at hq4
        have HP := Lib.hid (show SolP w m n l ls (.returned (.tuple #[.slice none 0 0, .slice none 0 0, .int .i64 6])) w7 from ⟨_, LpSays.full2 HQ1.out HNC.out hq4, rfl, K.1⟩)
        clear hS4 hq4 K
        exact ZQ86
  · obtain ⟨hq1, rfl, rfl⟩ := hS.out.1 rfl
    rw [HG0.out] at hq1
    have HP := Lib.hid (show SolP w m n l ls (.returned (.tuple #[.slice none 0 0, .slice none 0 0, .int .i64 6])) w5 from ⟨_, LpSays.full1 hq1, rfl, K.1⟩)
    clear hS hq1 K
    exact ZQ86
end Go.Proofs.Ytdlcglndhhndpaa
namespace Go.Proofs.Ytdlcglndhhndpaa
open Go.RowKit
structure Rr where
  A : Option Addr
  n : Nat
  c : Nat
  a : List Fv
  y : Rw
def Rr.cs (x : Rr) : List Value := .slice x.A x.n x.c :: x.y.cs
def Rr.rv (x : Rr) : Rv := ⟨x.a, x.y.fv⟩
def Rr.on (x : Rr) : World → Prop := fun W => RdF W W.heap.size x.A x.n x.c x.a ∧ x.y.on W
theorem rr_sized : Sized 5 Rr.cs := ⟨by omega, fun x => ⟨rfl, by
  intro u hu
  rcases List.mem_cons.1 hu with rfl | hu
  · rfl
  · exact (rw_sized.2 x.y).2 u hu⟩⟩
def Rr.zero : Rr := ⟨none, 0, 0, [], Rw.zero⟩
abbrev rrF (n : Nat) (u : Nat → Rr) (S : Nat → Nat → Prop) : Hl := ⟨famP (fun i => i < n) (fun i => (u i).on) S, famS (fun i => i < n) S⟩
section
variable {w W W' : World} {L L' X : List Blk} {D : List Hl} {n : Nat} {u : Nat → Rr} {S : Nat → Nat → Prop}
theorem St.rrNew (h : St w L D W) : St w L (rrF 0 u S :: D) W := h.fam fun i hi => absurd hi (by omega)
theorem St.rrAdd (h : St w L D W) (hm : rrF n u S ∈ D) (y : Rr) (T : Nat → Prop) (hy : (⟨y.on, T⟩ : Hl).ok L W) : St w L (rrF (n + 1) (putF u n y) (putF S n T) :: D) W :=
  h.fam fun i hi => by
    by_cases e : i = n
    · rw [e, putF_same, putF_same]; exact hy
    · rw [putF_other e, putF_other e]; exact h.famAt hm (i := i) (by omega)
theorem OwL.rdR {e : TypeId} {val : Value} (h : OwL 5 Rr.cs e val (ofF n u) X) (K : St w (X ++ L) D W) (hm : rrF n u S ∈ D) (hn : n ≤ 1000000) : ∃ A cap, val = .slice A n cap ∧ RdR W W.heap.size A n cap (ofF n fun i => (u i).rv) := by
  rcases h with ⟨rfl, h0, rfl⟩ | ⟨g, cap, J, rfl, rfl, h1, h2, h3⟩
  · have : n = 0 := by rw [← ofF_len (n := n) (f := u), h0]; rfl
    subst this
    exact ⟨none, 0, rfl, Rd.nil⟩
  · rw [ofF_len] at h1 ⊢
    have hB := K.blk (b := g) (List.mem_append_left _ (List.mem_singleton.2 rfl))
    refine ⟨_, cap, rfl, ofF_len, h1, ⟨by unfold maxLen at h2; exact h2, by omega⟩, fun hn => ⟨g, 0, rfl, hB.lt, fun k hk => ?_⟩⟩
    rw [ofF_len] at hk
    refine ⟨(u k).cs, ?_, rfl, fun j v hv => ?_⟩
    · have e : (ofF n fun i => (u i).rv)[k]'(by rw [ofF_len]; exact hk) = (u k).rv := by
        have := ofF_get (f := fun i => (u i).rv) hk
        exact ZQ30
      rw [e]
      have ho := (K.famAt hm (i := k) hk).1
      exact ⟨_, _, _, _, rfl, ho.1, _, _, _, _, _, _, rfl, ho.2.1, ho.2.2⟩
    · have hj : j < 5 := (List.getElem?_eq_some_iff.1 hv).1
      rw [Nat.zero_add]
      exact hB.cell ((recA_get (J := J) (v := u) rr_sized hk hj).trans hv)
end
end Go.Proofs.Ytdlcglndhhndpaa
namespace Go.Proofs.Ytdlcglndhhndpaa
open Go.RowKit
theorem row_made : (Try.prog.info? 45).map (fun i => (i.zero.map (·.cells), i.size, i.bytes)) = some (some #[.slice none 0 0, .int .i64 0, .slice none 0 0, .int .i64 0, .slice none 0 0], 5, 88) := by kernel_rfl
theorem run_litR (A0 : Option Addr) (n0 c0 : Nat) (s t : Int) (A B : Option Addr) (n c m d : Nat) (W : World) : (Instr.buildSlice 22 1 #[(0, .agg #[.slice A0 n0 c0, .int .i64 s, .slice A n c, .int .i64 t, .slice B m d])]).run Try.prog W = .ok (.slice (some ⟨W.heap.size, 0, none⟩) 1 1) (W.alloc (.cells #[.slice A0 n0 c0, .int .i64 s, .slice A n c, .int .i64 t, .slice B m d] 45)) := by kernel_rfl
end Go.Proofs.Ytdlcglndhhndpaa
namespace Go.Proofs.Ytdlcglndhhndpaa
open Go.RowKit
set_option maxRecDepth 100000
theorem OptF.std {s : Int} {l : List Int} {t : Int} {m : List Int} {q : Rat} (h : OptF s l t m (some q)) : StdF s l t m q := h
end Go.Proofs.Ytdlcglndhhndpaa
namespace Go.Proofs.Ytdlcglndhhndpaa
open Go.RowKit
theorem low32 (a : Nat) (h : a < 4294967296) : bits .and .u64 (a : Int) 4294967295 = (a : Int) := by
  have h1 := bits_and_u64_nat a 4294967295 (by omega) (by omega)
  rw [show a &&& 4294967295 = a % 4294967296 from Nat.and_two_pow_sub_one_eq_mod a 32, Nat.mod_eq_of_lt h] at h1
  exact h1
theorem wrap_u64s (a : Int) (h0 : 0 ≤ a) (h : a ≤ 1000000) : IntKind.u64.wrap a = a := by rw [IntKind.wrap_u64]; omega
theorem mul64_one (t : Nat) (ht : t ≤ 1000000) (w : World) : Calls Try.prog 122 #[.int .u64 1, .int .u64 t] w fun e w' => e = .returned (.tuple #[.int .u64 0, .int .u64 t]) ∧ w = w' := by
  have k1 : bits .and .u64 1 4294967295 = 1 := low32 1 (by omega)
  have k0 : bits .and .u64 0 4294967295 = 0 := low32 0 (by omega)
  have kt := low32 t (by omega)
  have dt : (t : Int) / 4294967296 = 0 := by omega
  have wt := wrap_u64s t (by omega) (by omega)
  go_enter Try.func122, Try.ntmps122
  go_wp2
  go_ret2
  exact ⟨rfl, rfl⟩
theorem mul_one (t : Nat) (ht : t ≤ 1000000) (w : World) : Calls Try.prog 89 #[.int .u64 1, .int .u64 t] w fun e w' => e = .returned (.tuple #[.int .u64 0, .int .u64 t]) ∧ w = w' := by
  go_enter Try.func89, Try.ntmps89
  go_wp2_with (go_at_call 122; refine (mul64_one t ht _).mono ?_; rintro e w1 ⟨rfl, rfl⟩)
  go_ret2
  exact ⟨rfl, rfl⟩
end Go.Proofs.Ytdlcglndhhndpaa
namespace Go.Proofs.Ytdlcglndhhndpaa
open Go.RowKit
section
variable {w W W' : World} {D : List Hl}
def allS (W : World) : Nat → Prop := fun b => b < W.heap.size
def rowP (x : Rr) : World → Prop := x.on
def rrP (A : Option Addr) (n cap : Nat) (l : List Rv) : World → Prop := fun W => RdR W W.heap.size A n cap l
theorem St.addA (h : St w [] D W) {P : World → Prop} (hP : ∀ W' : World, W.heap.size ≤ W'.heap.size → (∀ b, b < W.heap.size → W'.heap[b]? = W.heap[b]?) → P W') : St w [] (⟨P, allS W⟩ :: D) W :=
  h.add ⟨hP W (Nat.le_refl _) (fun _ _ => rfl), fun b hb => ⟨hb, fun p hp => by cases hp⟩, fun W' h1 h2 => hP W' h1 h2⟩
theorem St.addF (h : St w [] D W) {A : Option Addr} {n cap : Nat} {l : List Fv} (hl : RdF W W.heap.size A n cap l) : St w [] (⟨rfQ A n cap l, allS W⟩ :: D) W := h.addA fun W' h1 h2 => hl.keep fE_lasts h1 fun p hp => cell_of (h2 _ hp)
theorem St.addI (h : St w [] D W) {A : Option Addr} {n cap : Nat} {l : List Int} (hl : RdI W W.heap.size A n cap l) : St w [] (⟨rdP A n cap l, allS W⟩ :: D) W := h.addA fun W' h1 h2 => hl.keep (flat_lasts _) h1 fun p hp => cell_of (h2 _ hp)
theorem St.addR (h : St w [] D W) {A : Option Addr} {n cap : Nat} {l : List Rv} (hl : RdR W W.heap.size A n cap l) : St w [] (⟨rrP A n cap l, allS W⟩ :: D) W := h.addA fun W' h1 h2 => hl.keep rE_lasts h1 fun p hp => cell_of (h2 _ hp)
theorem St.addRow (h : St w [] D W) {x : Rr} (hx : x.on W) : St w [] (⟨rowP x, allS W⟩ :: D) W := h.addA fun W' h1 h2 => ⟨hx.1.keep fE_lasts h1 (fun p hp => cell_of (h2 _ hp)), hx.2.1.keep (flat_lasts _) h1 (fun p hp => cell_of (h2 _ hp)), hx.2.2.keep (flat_lasts _) h1 (fun p hp => cell_of (h2 _ hp))⟩
theorem St.getR (h : St w [] D W) {A : Option Addr} {n cap : Nat} {l : List Rv} {S : Nat → Prop} (hm : (⟨rrP A n cap l, S⟩ : Hl) ∈ D) : RdR W W.heap.size A n cap l := h.at hm
theorem St.getRow (h : St w [] D W) {x : Rr} {S : Nat → Prop} (hm : (⟨rowP x, S⟩ : Hl) ∈ D) : x.on W := h.at hm
theorem litE {α β : Type} {sz : Nat} {enc : α → List Value} {R : Enc β} (hs : Sized sz enc) (f : α → β) (on : α → World → Prop) (hon : ∀ x W', on x W' → R W' W'.heap.size (f x) (enc x)) (xs : List α) (T : TypeId) (cs : Array Value) (hx : ∀ x ∈ xs, on x (W.alloc (.cells cs T))) (hcs : cs = (xs.flatMap enc).toArray) (n H : Nat) (hH : W.heap.size = H) (hn : xs.length = n) (hb : n ≤ 1000) : Rd sz R (W.alloc (.cells cs T)) (W.alloc (.cells cs T)).heap.size (some ⟨H, 0, none⟩) n n (xs.map f) := by
  subst hH hn
  refine ⟨by simp, Nat.le_refl _, ⟨by omega, by omega⟩, fun hn => ⟨W.heap.size, 0, rfl, by simp, fun k hk => ?_⟩⟩
  have hk' : k < xs.length := by simpa using hk
  refine ⟨enc xs[k], ?_, (hs.2 _).1, fun j u hu => ?_⟩
  · have e : (xs.map f)[k] = f xs[k] := by simp
    rw [e]
    exact hon _ _ (hx xs[k] (List.getElem_mem hk'))
  · have hj : j < sz := by
      have := (List.getElem?_eq_some_iff.1 hu).1
      rw [(hs.2 _).1] at this
      exact this
    refine new_cell rfl ?_
    rw [hcs, List.getElem?_toArray, Nat.zero_add, flatMap_get hs _ _ _ hj, List.getElem?_eq_getElem hk']
    exact hu
theorem litR (xs : List Rr) (T : TypeId) (cs : Array Value) (hx : ∀ x ∈ xs, x.on (W.alloc (.cells cs T))) (hcs : cs = (xs.flatMap Rr.cs).toArray) (n H : Nat) (hH : W.heap.size = H) (hn : xs.length = n) (hb : n ≤ 1000) : RdR (W.alloc (.cells cs T)) (W.alloc (.cells cs T)).heap.size (some ⟨H, 0, none⟩) n n (xs.map Rr.rv) :=
  litE rr_sized Rr.rv Rr.on (fun x W' h => ⟨_, _, _, _, rfl, h.1, _, _, _, _, _, _, rfl, h.2.1, h.2.2⟩) xs T cs hx hcs n H hH hn hb
end
theorem r0 : rightL 0 [] = true := by decide +kernel
end Go.Proofs.Ytdlcglndhhndpaa
