/- Laws and walks; conditions stand in each theorem. -/
import Derived.Test.YtdlcglndhhndpaaGreatL27
import Derived.Test.YtdlcglndhhndpaaGreatL28
import Derived.Test.YtdlcglndhhndpaaGreatL23
set_option linter.unusedSimpArgs false
set_option linter.unusedVariables false
set_option maxHeartbeats 4000000
set_option maxRecDepth 100000
namespace Go.Proofs.YtdlcglndhhndpaaGreat
open Go.RowKit
theorem ZL70 {p : Prop} (h : p := by
 first
  | (go_wp2
     exact bodyPost_ret (v := .tuple #[.slice none 0 0, .bool false]) (by simp [results, Tryz.results11, go_sem]) rfl HX.out)
  | fail) : p := h
theorem ZL119 {p : Prop} (h : p := by
 first
  | (rw [newO_yes (by decide), newE_yes (by decide), divInt_1] at h
     exact h)
  | fail) : p := h
def kerM1 (n : Nat) : Option (Mx × List Nat) → List Fv × Bool
 | none => ([], false)
 | some (_, []) => ([], false)
 | some (m', c :: _) => (ofF n fun i => fvQ (kerV m' c i), true)
def kerL (N : Int) (l : List Rv) : List Fv × Bool := if rightL N l = true then kerM1 l.length (elimF l.length true l.length (mxR l) []) else ([], false)
def LstB (w : World) (l : List Fv) (b : Bool) (e : Ending) (w' : World) : Prop := ∃ A c, e = .returned (.tuple #[.slice A l.length c, .bool b]) ∧ RdF w' w'.heap.size A l.length c l ∧ Below w.heap.size w w'
theorem neg_add {q : Rat} (h : fitsF q = true) : addK 0 (-q) = true := by
 unfold fitsF at h
 rw [Bool.and_eq_true] at h
 have h1 : fits (-q).num = true := by rw [Rat.neg_num]; exact fits_neg h.1
 have e1 : (0 : Rat).num = 0 := rfl
 have e2 : ((0 : Rat).den : Int) = 1 := rfl
 have e3 : (-q).den = q.den := Rat.neg_den q
 unfold addK sumK
 rw [e1, e2, e3, Int.zero_mul, Int.mul_one, Int.zero_add, Int.one_mul, fits_zero, h1, h.2]
 rfl
theorem qNeg (q : Rat) (s1 t1 s2 t2 : Int) (A1 B1 A2 B2 : Option Addr) (n1 c1 m1 d1 n2 c2 m2 d2 : Nat) (l1 k1 l2 k2 : List Int) (w : World) (r1 : RdI w w.heap.size A1 n1 c1 l1) (q1 : RdI w w.heap.size B1 m1 d1 k1) (r2 : RdI w w.heap.size A2 n2 c2 l2) (q2 : RdI w w.heap.size B2 m2 d2 k2)
 (h1 : StdF s1 l1 t1 k1 0) (h2 : StdF s2 l2 t2 k2 q) (f2 : fitsF q = true) : Calls Tryz.prog 42 #[.agg #[.int .i64 s1, .slice A1 n1 c1, .int .i64 t1, .slice B1 m1 d1], .agg #[.int .i64 s2, .slice A2 n2 c2, .int .i64 t2, .slice B2 m2 d2]] w (FrE w (some (0 - q)) 0) := by
 have h := qSub 0 s1 t1 s2 t2 A1 B1 A2 B2 n1 c1 m1 d1 n2 c2 m2 d2 l1 k1 l2 k2 w r1 q1 r2 q2 h1 fitsF_zero (some q) h2 (fun z hz => by cases hz; exact f2)
 rw [subO1_some, subE1_some, if_pos (neg_add f2), if_pos (neg_add f2)] at h
 exact h
theorem fOf1_any (w : World) : Calls Tryz.prog 40 #[.int .i64 1, .int .i64 1] w (FrE w (some 1) 0) := by
 have h := fOf_any 1 1 w (by decide) (by decide)
 exact ZL119
theorem rd_one {α : Type} {sz : Nat} {enc : α → List Value} (hs : Sized sz enc) {W : World} {b : Nat} {e : TypeId} (y : α) (h : Hb W b (enc y).toArray e) : Rd sz (flat enc) W W.heap.size (some ⟨b, 0, none⟩) 1 1 [y] :=
 ⟨rfl, Nat.le_refl _, ⟨by omega, by omega⟩, fun _ => ⟨b, 0, rfl, h.lt, fun k hk => by
  have hk0 : k = 0 := by simp at hk; exact hk
  subst hk0
  exact ⟨enc y, rfl, (hs.2 y).1, fun j u hu => by
   rw [Nat.zero_add, Nat.zero_mul, Nat.zero_add]
   exact h.cell (by rw [List.getElem?_toArray]; exact hu)⟩⟩⟩
theorem St.rwAll {w W : World} {L : List Blk} {D : List Hl} (h : St w L D W) (n : Nat) (x : Rw) (m2 : (⟨rdP x.A x.n x.c x.l, rdS x.A x.n⟩ : Hl) ∈ D) (m3 : (⟨rdP x.B x.m x.d x.k, rdS x.B x.m⟩ : Hl) ∈ D) : St w L (⟨rwP n (fun _ => x), rwS n (fun _ => x)⟩ :: D) W := by
 have k2 := h.2.2.2 _ m2
 have k3 := h.2.2.2 _ m3
 refine h.add ⟨fun j hj => ⟨k2.1, k3.1⟩, fun b hS => ?_, fun W' h1 h2 j hj => ⟨k2.2.2 W' h1 (fun b hS => h2 b ⟨j, hj, Or.inl hS⟩), k3.2.2 W' h1 (fun b hS => h2 b ⟨j, hj, Or.inr hS⟩)⟩⟩
 obtain ⟨j, hj, hS⟩ := hS
 rcases hS with hS | hS
 · exact k2.2.1 b hS
 · exact k3.2.1 b hS
theorem St.cellRj {w W : World} {L : List Blk} {D : List Hl} {n i g : Nat} {v : Nat → Rw} {t : TypeId} {J : List Value} (h : St w L D W) (hi : i < n) (hb : ((g, rwA n v J, t) : Blk) ∈ L) : (W.cell? ⟨g, i * 4, none⟩ = some (.int .i64 (v i).s) ∧ W.cell? ⟨g, i * 4 + 1, none⟩ = some (.slice (v i).A (v i).n (v i).c) ∧ W.cell? ⟨g, i * 4 + 2, none⟩ = some (.int .i64 (v i).t) ∧ W.cell? ⟨g, i * 4 + 3, none⟩ = some (.slice (v i).B (v i).m (v i).d)) ∧ ∀ j, W.frozen? ⟨g, j, none⟩ = false := by
 have hB := h.blk hb
 exact ⟨⟨hB.cell (rwA_get (j := 0) hi (by omega)), hB.cell (rwA_get (j := 1) hi (by omega)), hB.cell (rwA_get (j := 2) hi (by omega)), hB.cell (rwA_get (j := 3) hi (by omega))⟩, fun j => hB.thaw⟩
theorem rwA_app {n : Nat} {v : Nat → Rw} {J : List Value} : ((ofF n v).flatMap Rw.cs ++ J).toArray = rwA n v J := rfl
theorem wP_done {w0 W : World} {L : List Blk} {n g cap : Nat} {u : Nat → Rw} {J : List Value} {f : Nat → Fv} {D : List Hl} (K : St w0 ((g, rwA n u J, 50) :: L) D W) (hm : (⟨rwP n u, rwS n u⟩ : Hl) ∈ D) (hf : ∀ i, i < n → (u i).fv = f i) (hn : n ≤ 1000000) (hcap : n ≤ cap ∧ cap ≤ 9223372036854775807) :
 RdF W W.heap.size (some ⟨g, 0, none⟩) n cap (ofF n f) := by
 have hB := K.blk (b := g) List.mem_cons_self
 refine ⟨ofF_len, hcap.1, ⟨hcap.2, by omega⟩, fun _ => ⟨g, 0, rfl, hB.lt, fun k hk => ?_⟩⟩
 rw [ofF_len] at hk
 refine ⟨(u k).cs, ?_, rfl, fun j v hv => ?_⟩
 · have e : (ofF n f)[k]'(by rw [ofF_len]; exact hk) = (u k).fv := by
    have := ofF_get (f := f) hk
    rw [List.getElem?_eq_getElem (by rw [ofF_len]; exact hk)] at this
    rw [Option.some.inj this, hf k hk]
   rw [e]
   exact ⟨_, _, _, _, _, _, rfl, (K.at hm k hk).1, (K.at hm k hk).2⟩
 · have hj : j < 4 := (List.getElem?_eq_some_iff.1 hv).1
   rw [Nat.zero_add]
   exact hB.cell ((rwA_get (by omega) hj).trans hv)
theorem lkernel_any (N : Int) (A : Option Addr) (n cap : Nat) (l : List Rv) (w : World) (hl : RdR w w.heap.size A n cap l) :
 Calls Tryz.prog 11 #[.slice A n cap, .int .i64 N] w (LstB w (kerL N l).1 (kerL N l).2) := by
 have hlen := hl.len
 have hcap := hl.caps
 have HR := Lib.hid (lright_any N A n cap l w hl)
 cases hr : rightL N l
 case false =>
  rw [hr] at HR
  have HE := Lib.hid (fun W (h : Below w.heap.size w W) => (⟨none, 0, by unfold kerL; rw [hr]; rfl, by unfold kerL; rw [hr]; exact Rd.nil, h⟩ : LstB w (kerL N l).1 (kerL N l).2 (.returned (.tuple #[.slice none 0 0, .bool false])) W))
  clear hl hlen hr
  go_enter Tryz.func11, Tryz.ntmps11
  go_wp2_with fail
  refine HR.out.mono ?_
  rintro e W ⟨rfl, hb⟩
  have HX := Lib.hid (HE.out W hb)
  clear HE hb
  exact ZL70
 obtain ⟨hN, hn40⟩ := rightL_len hr
 rw [hlen] at hN hn40
 subst hN
 rw [hr] at HR
 have HL := Lib.hid (fun W (h : Below w.heap.size w W) => lelim_any A n cap l true W (hl.up rE_lasts h) hr)
 have HSo := Lib.hid (show kerL (n : Int) l = kerM1 n (elimF n true n (mxR l) []) from by unfold kerL; rw [if_pos hr, hlen])
 rw [HSo.out]
 clear hl hlen hr HSo
 generalize mxR l = m0 at *
 obtain ⟨R, hR⟩ : ∃ R, R = kerM1 n (elimF n true n m0 []) := ⟨_, rfl⟩
 rw [← hR]
 have HRR := Lib.hid hR
 clear hR
 go_enter Tryz.func11, Tryz.ntmps11
 go_wp2_with fail
 refine HR.out.mono ?_
 rintro e W ⟨rfl, hb⟩
 go_wp2_with fail
 refine (HL.out W hb).mono ?_
 rintro e W' ⟨mb, A', cc, Af, cf, b, fr, m', rfl, hb2, ⟨c0, c2⟩, hfr, hB1, hB2⟩
 have hb3 := hb.trans (hb2.mono hb.size)
 have hcf := hfr.caps
 obtain ⟨fl, hfl⟩ : ∃ fl, fl = fr.length := ⟨_, rfl⟩
 rw [← hfl] at hcf ⊢
 have Hb3 := Lib.hid hb3
 cases b
 case true =>
  have hRe : R = ([], false) := by rw [HRR.out, hB1 rfl]; rfl
  have HX := Lib.hid (show LstB w R.1 R.2 _ _ from by rw [hRe]; exact ⟨none, 0, rfl, Rd.nil, Hb3.out⟩ : LstB w R.1 R.2 (.returned (.tuple #[.slice none 0 0, .bool false])) W')
  clear hfr hB1 hB2 hfl hb hb2 hb3 HRR hRe HR HL
  exact ZL70
 obtain ⟨he, hf, hrd⟩ := hB2 rfl
 have HRd := Lib.hid hrd
 have hcc := hrd.caps
 rcases fr with _ | ⟨c, fr⟩
 case nil =>
  have hfl0 : fl = 0 := hfl
  subst hfl0
  have hRe : R = ([], false) := by rw [HRR.out, he]; rfl
  have HX := Lib.hid (show LstB w R.1 R.2 _ _ from by rw [hRe]; exact ⟨none, 0, rfl, Rd.nil, Hb3.out⟩ : LstB w R.1 R.2 (.returned (.tuple #[.slice none 0 0, .bool false])) W')
  clear hfr hB1 hB2 hfl he hf hrd hb hb2 hb3 HRR hRe HR HL
  exact ZL70
 have hfl0 : 0 < fl := by rw [hfl]; simp
 have hfi : (0 : Int) < (fl : Int) := by omega
 have hfne : ¬ fl = 0 := by omega
 have hRe : R = (ofF n fun i => fvQ (kerV m' c i), true) := by rw [HRR.out, he]; rfl
 have hcn : c < n := by
  rcases elim_fact he with ⟨h1, -⟩ | ⟨d, h1, hd, -⟩
  · cases h1
  · cases h1; exact hd
 have hn1 : 1 ≤ n := by omega
 obtain ⟨fb, fo, hAf, hfbB, hfc⟩ := RdI.cellAt hfr (k := 0) (by rw [← hfl]; exact hfl0)
 have e0 : gi ((c :: fr).map fun c : Nat => (c : Int)) 0 = (c : Int) := rfl
 rw [e0] at hfc
 subst hAf
 have HFit := Lib.hid hf
 have HRe := Lib.hid hRe
 have Hmb := Lib.hid c0
 have hcni : (c : Int) < (n : Int) := by omega
 have hc0i : (0 : Int) ≤ (c : Int) := by omega
 have hmbB : mb < W'.heap.size := by
  unfold World.cell? at c0
  cases hx : W'.heap[mb]? with
  | none => rw [hx] at c0; cases c0
  | some o => exact (Array.getElem?_eq_some_iff.1 hx).1
 have K := St.start W'
 have r := K.raw
 clear hfr hB1 hB2 hfl he hf hrd hb hb2 hb3 HRR hRe HR HL e0
 go_wp2_with (first | (refine ZAL ?_; clear K r; (first | ((fail_if_success revert b0); intro W b0 K r) | intro W b K r)) | (refine ZST ?_; clear K r; intro W K r))
 refine (fOf0_any _).mono ?_
 rintro e W'' ⟨s3, A3, n3, c3, l3, t3, B3, m3, d3, k3, rfl, ⟨hra, hrb⟩, ho3, ⟨hfa, hfb⟩, hb⟩
 have hf3 := Lib.hid (hfa.mono K.1.size)
 have hg3 := Lib.hid (hfb.mono K.1.size)
 replace K := K.retF hb hra hrb hfa hfb
 clear r
 have r := K.rawS
 clear hra hrb hfa hfb hb
 have Hs3 := Lib.hid ho3.std
 clear ho3 hf3 hg3
 go_wp2_with (first | (refine ZAL ?_; clear K r; (first | ((fail_if_success revert b0); intro W b0 K r) | intro W b K r)) | (refine ZST ?_; clear K r; intro W K r))
 have K2 := K.new #[.int .i64 s3, .slice A3 n3 c3, .int .i64 t3, .slice B3 m3 d3] 50
 refine (frepeat_st (⟨s3, A3, n3, c3, l3, t3, B3, m3, d3, k3⟩ : Rw) _ _ n _ _ _ _ K2 (rd_one rw_sized (⟨s3, A3, n3, c3, l3, t3, B3, m3, d3, k3⟩ : Rw) (K2.blk List.mem_cons_self)) hn1 (by omega)).mono ?_
 rintro e W3 ⟨val, Xv, rfl, ho, K3⟩
 obtain ⟨g, gc, J, hv, hX, hgc⟩ := ho.blk hn1
 subst hv hX
 rw [rwA_app] at K3
 obtain ⟨u, hu⟩ : ∃ u : Nat → Rw, u = fun _ => ⟨s3, A3, n3, c3, l3, t3, B3, m3, d3, k3⟩ := ⟨_, rfl⟩
 have K4 := K3.rwAll n ⟨s3, A3, n3, c3, l3, t3, B3, m3, d3, k3⟩ ZMB ZMB
 rw [← hu] at K4
 have K : St W' [(g, rwA n u J, 50), (b0, #[.int .i64 s3, .slice A3 n3 c3, .int .i64 t3, .slice B3 m3 d3], 50)] [⟨rwP n u, rwS n u⟩, ⟨rdP B3 m3 d3 k3, rdS B3 m3⟩, ⟨rdP A3 n3 c3 l3, rdS A3 n3⟩] W3 := (K4.part (List.Sublist.cons_cons _ (List.Sublist.cons _ (List.Sublist.refl _)))).less ZLE
 clear K2 K3 K4 r ho
 have HFb := Lib.hid (show ∀ V : World, Below W'.heap.size W' V → V.cell? ⟨fb, fo, none⟩ = some (.int .i64 (c : Int)) from fun V h => (h.cell (p := ⟨fb, fo, none⟩) hfbB).trans hfc)
 have Hfv0 := Lib.hid (show ∀ i, (u i).fv = fvQ 0 from fun i => by rw [hu]; exact Hs3.out.fv)
 clear hu
 have HS := Lib.hid (fun V u D' (h : St W' [(g, rwA n u J, 50), (b0, #[.int .i64 s3, .slice A3 n3 c3, .int .i64 t3, .slice B3 m3 d3], 50)] D' V) => (show (V.cell? ⟨fb, fo, none⟩ = some (.int .i64 (c : Int)) ∧ (V.cell? ⟨g, c * 4, none⟩ = some (cellD V ⟨g, c * 4, none⟩) ∧ V.cell? ⟨g, c * 4 + 1, none⟩ = some (cellD V ⟨g, c * 4 + 1, none⟩) ∧ V.cell? ⟨g, c * 4 + 2, none⟩ = some (cellD V ⟨g, c * 4 + 2, none⟩) ∧ V.cell? ⟨g, c * 4 + 3, none⟩ = some (cellD V ⟨g, c * 4 + 3, none⟩)) ∧ ∀ j, V.frozen? ⟨g, j, none⟩ = false) from by
  have cr := h.cellRj (g := g) (v := u) (n := n) hcn ZMB
  exact ⟨HFb.out V h.1, ⟨cellD_iff.2 (by rw [cr.1.1]; rfl), cellD_iff.2 (by rw [cr.1.2.1]; rfl), cellD_iff.2 (by rw [cr.1.2.2.1]; rfl), cellD_iff.2 (by rw [cr.1.2.2.2]; rfl)⟩, cr.2⟩))
 have HS1 := Lib.hid (fun V (y : Rw) (h : St W' [(g, rwA n u J, 50), (b0, #[.int .i64 s3, .slice A3 n3 c3, .int .i64 t3, .slice B3 m3 d3], 50)] (⟨rdP y.B y.m y.d y.k, rdS y.B y.m⟩ :: ⟨rdP y.A y.n y.c y.l, rdS y.A y.n⟩ :: [⟨rwP n u, rwS n u⟩, ⟨rdP B3 m3 d3 k3, rdS B3 m3⟩, ⟨rdP A3 n3 c3 l3, rdS A3 n3⟩]) V) => h.setR y hcn ZUP)
 have HOf := Lib.hid (fun V (h : St W' [(g, rwA n u J, 50), (b0, #[.int .i64 s3, .slice A3 n3 c3, .int .i64 t3, .slice B3 m3 d3], 50)] [⟨rwP n u, rwS n u⟩, ⟨rdP B3 m3 d3 k3, rdS B3 m3⟩, ⟨rdP A3 n3 c3 l3, rdS A3 n3⟩] V) => ((fOf1_any V).mono fun e V2 ⟨s31, A31, n31, c31, l31, t31, B31, m31, d31, k31, he, ⟨hra, hrb⟩, ho, ⟨hfa, hfb⟩, hbb⟩ => (⟨⟨s31, A31, n31, c31, l31, t31, B31, m31, d31, k31⟩, he, ho, h.retF hbb hra hrb hfa hfb⟩ : ∃ y : Rw, e = Ending.returned (.tuple #[.agg #[.int .i64 y.s, .slice y.A y.n y.c, .int .i64 y.t, .slice y.B y.m y.d], .int .i64 0]) ∧ StdF y.s y.l y.t y.k 1 ∧ St W' [(g, rwA n u J, 50), (b0, #[.int .i64 s3, .slice A3 n3 c3, .int .i64 t3, .slice B3 m3 d3], 50)] (⟨rdP y.B y.m y.d y.k, rdS y.B y.m⟩ :: ⟨rdP y.A y.n y.c y.l, rdS y.A y.n⟩ :: [⟨rwP n u, rwS n u⟩, ⟨rdP B3 m3 d3 k3, rdS B3 m3⟩, ⟨rdP A3 n3 c3 l3, rdS A3 n3⟩]) V2)))
 go_upto_region 8 with fail
 have K0 := K.drew
 clear K
 go_region_held3 (fun V => (V.cell? ⟨fb, fo, none⟩ = some (.int .i64 (c : Int)) ∧ (V.cell? ⟨g, c * 4, none⟩ = some (cellD V ⟨g, c * 4, none⟩) ∧ V.cell? ⟨g, c * 4 + 1, none⟩ = some (cellD V ⟨g, c * 4 + 1, none⟩) ∧ V.cell? ⟨g, c * 4 + 2, none⟩ = some (cellD V ⟨g, c * 4 + 2, none⟩) ∧ V.cell? ⟨g, c * 4 + 3, none⟩ = some (cellD V ⟨g, c * 4 + 3, none⟩)) ∧ ∀ j, V.frozen? ⟨g, j, none⟩ = false))
  ((first | exact HS.out _ _ _ (by assumption)))
  (first
   | (go_at_call 40; refine (HOf.out _ K0).mono ?_; rintro e w5 ⟨y1, rfl, ho1, k5⟩; have kz := HS1.out _ y1 k5))
 have HK := Lib.hid ((kz.rwPut (v := u) (n := n) y1 c ZMB ZMB ZMB).less ZLE : St W' [(g, rwA n (putF u c y1) J, 50), (b0, #[.int .i64 s3, .slice A3 n3 c3, .int .i64 t3, .slice B3 m3 d3], 50)] [⟨rwP n (putF u c y1), rwS n (putF u c y1)⟩, ⟨rdP B3 m3 d3 k3, rdS B3 m3⟩, ⟨rdP A3 n3 c3 l3, rdS A3 n3⟩] _)
 have HV := Lib.hid (show ∀ j, j < n → (putF u c y1 j).fv = fvQ (if j = c then 1 else if j < 0 then -(m' j c) else 0) from fun j hj => by
  by_cases e : j = c
  · rw [e, putF_same, if_pos rfl]; exact ho1.fv
  · rw [putF_other e, if_neg e, if_neg (by omega)]; exact Hfv0.out j)
 clear kz k5 K0 HS HOf HS1 ho1
 go_wp2_with fail
 have K := HK.out
 have fc := HFb.out _ K.1
 have HV0 := Lib.hid (show ∃ u' : Nat → Rw, Hid (∀ j, j < n → (u' j).fv = fvQ (if j = c then 1 else if j < 0 then -(m' j c) else 0)) ∧ St W' [(g, rwA n u' J, 50), (b0, #[.int .i64 s3, .slice A3 n3 c3, .int .i64 t3, .slice B3 m3 d3], 50)] [⟨rwP n u', rwS n u'⟩, ⟨rdP B3 m3 d3 k3, rdS B3 m3⟩, ⟨rdP A3 n3 c3 l3, rdS A3 n3⟩] _ from ⟨_, HV, HK.out⟩)
 clear HK K HV
 go_loopg [51] c (fun gk s51 wr => ∃ (k : Nat) (u : Nat → Rw), k ≤ c ∧ gk = c - k ∧ s51 = .int .i64 k ∧ Hid (∀ j, j < n → (u j).fv = fvQ (if j = c then 1 else if j < k then -(m' j c) else 0)) ∧ St W' [(g, rwA n u J, 50), (b0, #[.int .i64 s3, .slice A3 n3 c3, .int .i64 t3, .slice B3 m3 d3], 50)] [⟨rwP n u, rwS n u⟩, ⟨rdP B3 m3 d3 k3, rdS B3 m3⟩, ⟨rdP A3 n3 c3 l3, rdS A3 n3⟩] wr)
 case atStart =>
  obtain ⟨u', hv', hk'⟩ := HV0.out
  exact ⟨0, u', Nat.zero_le _, rfl, rfl, hv', hk'⟩
 clear HV0 fc
 obtain ⟨k, u, hk, rfl, rfl, HV, K⟩ := hrel
 by_cases hlt : k < c
 case neg =>
  have e : c = k := by omega
  subst e
  have HX := Lib.hid (show LstB w R.1 R.2 (.returned (.tuple #[.slice (some ⟨g, 0, none⟩) n gc, .bool true])) wr from by
   rw [HRe.out]
   exact ⟨some ⟨g, 0, none⟩, gc, by simp only [ofF_len], by simp only [ofF_len]; exact wP_done K ZMB (fun i hi => HV.out i hi) (by omega) hgc, Hb3.out.trans (K.1.mono Hb3.out.size)⟩)
  clear K HV
  go_wp2
  exact bodyPost_ret (v := .tuple #[.slice (some ⟨g, 0, none⟩) n gc, .bool true]) (by simp [results, Tryz.results11, go_sem]) rfl HX.out
 have hkn : k < n := by omega
 have hki : (k : Int) < (c : Int) := by omega
 have hki2 : (k : Int) < (n : Int) := by omega
 have hk0 : (0 : Int) ≤ (k : Int) := by omega
 obtain ⟨gb, goff, A1, n1, c1, xl, hA, hbB, hx, hc, hrow⟩ := HRd.out.at hkn
 subst hA
 rw [ofF_get hkn] at hx
 have hxl := (Option.some.inj hx).symm
 subst hxl
 have hn1x : n1 = n + 1 := by rw [← hrow.len, ofF_len]
 obtain ⟨eb, off, A2, n2, c2, B2, m2, d2, y, hA, hbB2, hy, ⟨z0, z1, z2, z3⟩, r1, r2⟩ := hrow.atF (k := c) (by omega)
 subst hA
 rw [ofF_get (by omega)] at hy
 have hyv := (Option.some.inj hy).symm
 have hcn1 : (c : Int) < (n1 : Int) := by omega
 have hcp1 := r1.caps
 have hcp2 := r2.caps
 have hcp3 := hrow.caps
 have hsy : StdF y.s y.l y.t y.m (m' k c) ∧ fitsF (m' k c) = true := by
  rw [hyv]
  exact ⟨fvQ_std _, HFit.out k c hkn (by omega)⟩
 have HS := Lib.hid (fun V u D' (h : St W' [(g, rwA n u J, 50), (b0, #[.int .i64 s3, .slice A3 n3 c3, .int .i64 t3, .slice B3 m3 d3], 50)] D' V) => (show ((V.cell? ⟨fb, fo, none⟩ = some (.int .i64 (c : Int)) ∧ V.cell? ⟨mb, 0, none⟩ = some (.slice (some ⟨gb, goff, none⟩) n cc) ∧ V.cell? ⟨gb, goff + k, none⟩ = some (.slice (some ⟨eb, off, none⟩) n1 c1)) ∧ (V.cell? ⟨eb, off + c * 4, none⟩ = some (.int .i64 y.s) ∧ V.cell? ⟨eb, off + c * 4 + 1, none⟩ = some (.slice A2 n2 c2) ∧ V.cell? ⟨eb, off + c * 4 + 2, none⟩ = some (.int .i64 y.t) ∧ V.cell? ⟨eb, off + c * 4 + 3, none⟩ = some (.slice B2 m2 d2)) ∧ (V.cell? ⟨b0, 0, none⟩ = some (.int .i64 s3) ∧ V.cell? ⟨b0, 1, none⟩ = some (.slice A3 n3 c3) ∧ V.cell? ⟨b0, 2, none⟩ = some (.int .i64 t3) ∧ V.cell? ⟨b0, 3, none⟩ = some (.slice B3 m3 d3)) ∧ (V.cell? ⟨g, k * 4, none⟩ = some (cellD V ⟨g, k * 4, none⟩) ∧ V.cell? ⟨g, k * 4 + 1, none⟩ = some (cellD V ⟨g, k * 4 + 1, none⟩) ∧ V.cell? ⟨g, k * 4 + 2, none⟩ = some (cellD V ⟨g, k * 4 + 2, none⟩) ∧ V.cell? ⟨g, k * 4 + 3, none⟩ = some (cellD V ⟨g, k * 4 + 3, none⟩)) ∧ ∀ j, V.frozen? ⟨g, j, none⟩ = false) from by
  have cr := h.cellRj (g := g) (v := u) (n := n) hkn ZMB
  have hB := h.blk (b := b0) (cs := #[.int .i64 s3, .slice A3 n3 c3, .int .i64 t3, .slice B3 m3 d3]) ZMB
  exact ⟨⟨HFb.out V h.1, (h.1.cell (p := ⟨mb, 0, none⟩) hmbB).trans Hmb.out, (h.1.cell (p := ⟨gb, goff + k, none⟩) hbB).trans hc⟩, ⟨(h.1.cell (p := ⟨eb, off + c * 4, none⟩) hbB2).trans z0, (h.1.cell (p := ⟨eb, off + c * 4 + 1, none⟩) hbB2).trans z1, (h.1.cell (p := ⟨eb, off + c * 4 + 2, none⟩) hbB2).trans z2, (h.1.cell (p := ⟨eb, off + c * 4 + 3, none⟩) hbB2).trans z3⟩, ⟨hB.cell rfl, hB.cell rfl, hB.cell rfl, hB.cell rfl⟩, ⟨cellD_iff.2 (by rw [cr.1.1]; rfl), cellD_iff.2 (by rw [cr.1.2.1]; rfl), cellD_iff.2 (by rw [cr.1.2.2.1]; rfl), cellD_iff.2 (by rw [cr.1.2.2.2]; rfl)⟩, cr.2⟩))
 have HSb := Lib.hid (fun V (h : St W' [(g, rwA n u J, 50), (b0, #[.int .i64 s3, .slice A3 n3 c3, .int .i64 t3, .slice B3 m3 d3], 50)] [⟨rwP n u, rwS n u⟩, ⟨rdP B3 m3 d3 k3, rdS B3 m3⟩, ⟨rdP A3 n3 c3 l3, rdS A3 n3⟩] V) => ((qNeg (m' k c) s3 t3 y.s y.t A3 B3 A2 B2 n3 c3 m3 d3 n2 c2 m2 d2 l3 k3 y.l y.m V (h.rd ZMB) (h.rd ZMB) (r1.up (flat_lasts _) h.1) (r2.up (flat_lasts _) h.1) Hs3.out hsy.1 hsy.2).mono fun e V2 ⟨s31, A31, n31, c31, l31, t31, B31, m31, d31, k31, he, ⟨hra, hrb⟩, ho, ⟨hfa, hfb⟩, hbb⟩ => (⟨⟨s31, A31, n31, c31, l31, t31, B31, m31, d31, k31⟩, he, ho, h.retF hbb hra hrb hfa hfb⟩ : ∃ y : Rw, e = Ending.returned (.tuple #[.agg #[.int .i64 y.s, .slice y.A y.n y.c, .int .i64 y.t, .slice y.B y.m y.d], .int .i64 0]) ∧ StdF y.s y.l y.t y.k (0 - m' k c) ∧ St W' [(g, rwA n u J, 50), (b0, #[.int .i64 s3, .slice A3 n3 c3, .int .i64 t3, .slice B3 m3 d3], 50)] (⟨rdP y.B y.m y.d y.k, rdS y.B y.m⟩ :: ⟨rdP y.A y.n y.c y.l, rdS y.A y.n⟩ :: [⟨rwP n u, rwS n u⟩, ⟨rdP B3 m3 d3 k3, rdS B3 m3⟩, ⟨rdP A3 n3 c3 l3, rdS A3 n3⟩]) V2)))
 have HS1 := Lib.hid (fun V (y : Rw) (h : St W' [(g, rwA n u J, 50), (b0, #[.int .i64 s3, .slice A3 n3 c3, .int .i64 t3, .slice B3 m3 d3], 50)] (⟨rdP y.B y.m y.d y.k, rdS y.B y.m⟩ :: ⟨rdP y.A y.n y.c y.l, rdS y.A y.n⟩ :: [⟨rwP n u, rwS n u⟩, ⟨rdP B3 m3 d3 k3, rdS B3 m3⟩, ⟨rdP A3 n3 c3 l3, rdS A3 n3⟩]) V) => h.setR y hkn ZUP)
 clear hyv hy z0 z1 z2 z3 r1 r2 hrow hc hx hsy hn1x
 go_upto_region 12 with fail
 have K0 := K.drew
 clear K
 go_region_held3 (fun V => ((V.cell? ⟨fb, fo, none⟩ = some (.int .i64 (c : Int)) ∧ V.cell? ⟨mb, 0, none⟩ = some (.slice (some ⟨gb, goff, none⟩) n cc) ∧ V.cell? ⟨gb, goff + k, none⟩ = some (.slice (some ⟨eb, off, none⟩) n1 c1)) ∧ (V.cell? ⟨eb, off + c * 4, none⟩ = some (.int .i64 y.s) ∧ V.cell? ⟨eb, off + c * 4 + 1, none⟩ = some (.slice A2 n2 c2) ∧ V.cell? ⟨eb, off + c * 4 + 2, none⟩ = some (.int .i64 y.t) ∧ V.cell? ⟨eb, off + c * 4 + 3, none⟩ = some (.slice B2 m2 d2)) ∧ (V.cell? ⟨b0, 0, none⟩ = some (.int .i64 s3) ∧ V.cell? ⟨b0, 1, none⟩ = some (.slice A3 n3 c3) ∧ V.cell? ⟨b0, 2, none⟩ = some (.int .i64 t3) ∧ V.cell? ⟨b0, 3, none⟩ = some (.slice B3 m3 d3)) ∧ (V.cell? ⟨g, k * 4, none⟩ = some (cellD V ⟨g, k * 4, none⟩) ∧ V.cell? ⟨g, k * 4 + 1, none⟩ = some (cellD V ⟨g, k * 4 + 1, none⟩) ∧ V.cell? ⟨g, k * 4 + 2, none⟩ = some (cellD V ⟨g, k * 4 + 2, none⟩) ∧ V.cell? ⟨g, k * 4 + 3, none⟩ = some (cellD V ⟨g, k * 4 + 3, none⟩)) ∧ ∀ j, V.frozen? ⟨g, j, none⟩ = false))
  ((first | exact HS.out _ _ _ (by assumption)))
  (first
   | (go_at_call 42; refine (HSb.out _ K0).mono ?_; rintro e w5 ⟨y1, rfl, ho1, k5⟩; have kz := HS1.out _ y1 k5))
 have HK := Lib.hid ((kz.rwPut (v := u) (n := n) y1 k ZMB ZMB ZMB).less ZLE : St W' [(g, rwA n (putF u k y1) J, 50), (b0, #[.int .i64 s3, .slice A3 n3 c3, .int .i64 t3, .slice B3 m3 d3], 50)] [⟨rwP n (putF u k y1), rwS n (putF u k y1)⟩, ⟨rdP B3 m3 d3 k3, rdS B3 m3⟩, ⟨rdP A3 n3 c3 l3, rdS A3 n3⟩] _)
 have HV2 := Lib.hid (show ∀ j, j < n → (putF u k y1 j).fv = fvQ (if j = c then 1 else if j < k + 1 then -(m' j c) else 0) from fun j hj => by
  by_cases e : j = k
  · rw [e, putF_same, if_neg (by omega), if_pos (by omega), show y1.fv = fvQ (0 - m' k c) from ho1.fv]
    congr 1
    grind
  · rw [putF_other e, HV.out j hj]
    by_cases e2 : j < k
    · rw [if_pos e2, if_pos (show j < k + 1 by omega)]
    · rw [if_neg e2, if_neg (show ¬ j < k + 1 by omega)])
 clear kz k5 K0 HS HSb HS1 ho1 HV
 go_wp2_with fail
 go_roundg (c - (k + 1))
 case rel => exact ⟨k + 1, putF u k y1, hlt, rfl, by go_num, HV2, HK.out⟩
 case measure => omega
end Go.Proofs.YtdlcglndhhndpaaGreat
