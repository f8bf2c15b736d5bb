/- Laws and walks; conditions stand in each theorem. -/
import Derived.BigRegion
import Derived.Test.YtdlcglndhhndpaaGreatP25
import Derived.Test.YtdlcglndhhndpaaGreatP24
set_option linter.unusedSimpArgs false
set_option linter.unusedVariables false
set_option maxHeartbeats 8000000
set_option maxRecDepth 100000
namespace Go.Proofs.YtdlcglndhhndpaaGreat
open Go.RowKit
theorem iA_get {n i : Nat} {f : Nat → Int} {J : List Value} (hi : i < n) : (recA iEnc n f J)[i]? = some (.int .i64 (f i)) := by
 have := recA_get (J := J) (v := f) iSized hi (show 0 < 1 by omega)
 rw [Nat.mul_one, Nat.add_zero] at this
 exact this
theorem iA_set {n i : Nat} {f : Nat → Int} {J : List Value} (hi : i < n) (x : Int) : (recA iEnc n f J).setIfInBounds i (.int .i64 x) = recA iEnc n (putF f i x) J := by
 have := recA_spl (J := J) (v := f) iSized hi x
 rw [Nat.mul_one] at this
 exact this
theorem St.setI {w W : World} {L L' : List Blk} {D : List Hl} {n i g : Nat} {f : Nat → Int} {t : TypeId} {J : List Value} (h : St w L D W) (x : Int) (hi : i < n) (hU : Upd g (recA iEnc n f J) t (recA iEnc n (putF f i x) J) L L') : St w L' D (W.setCell ⟨g, i, none⟩ (.int .i64 x)) := by
 refine h.upd hU (OnlyB.set W g _ _) ?_
 rw [← iA_set hi x]
 exact (h.blk hU.mem).set (j := i) (.int .i64 x)
theorem putF_nat (f : Nat → Nat) (i x : Nat) : putF (fun k => ((f k : Nat) : Int)) i ((x : Nat) : Int) = fun k => ((putF f i x k : Nat) : Int) := by
 funext k
 by_cases e : k = i
 · rw [e, putF_same, putF_same]
 · rw [putF_other e, putF_other e]
def XchP (w0 : World) (L1 : List Blk) (D : List Hl) (M : Mm) (m q rr s db hb hc ob oc fb fc : Nat) (gv : Rw) (HJ OJ FJ : List Value) (b : Bool) (Y : Nat → Rw) (V : Nat → Nat → Rw) (own free : Nat → Nat) (e : Ending) (W' : World) : Prop :=
 ∃ (b' : Bool) (Y' : Nat → Rw) (V' : Nat → Nat → Rw), e = .returned (.tuple #[]) ∧ Hid (GoodY m Y' ∧ GoodV q M.N V') ∧ Hid (FulK b b' ((dcOf m Y V own free).fitX m M.N rr s = true) ∧ ((dcOf m Y V own free).fitX m M.N rr s = true → (dcOf m Y' V' (putF own rr (free s)) (putF free s (own rr))).Eqv m M.N ((dcOf m Y V own free).xch rr s))) ∧ St w0 ((db, (Value.bool b' :: [.slice (some ⟨hb, 0, none⟩) m hc, .int .i64 gv.s, .slice gv.A gv.n gv.c, .int .i64 gv.t, .slice gv.B gv.m gv.d, .slice (some ⟨M.rb m, 0, none⟩) M.N (M.cp m), .slice (some ⟨ob, 0, none⟩) m oc, .slice (some ⟨fb, 0, none⟩) M.N fc]).toArray, 91) :: (hb, recA Ln.cs m (lnF Y' (M.hd q)) HJ, 89) :: ((M.wV V').rows q ++ ((ob, recA iEnc m (fun i => ((putF own rr (free s) i : Nat) : Int)) OJ, 3) :: (fb, recA iEnc M.N (fun i => ((putF free s (own rr) i : Nat) : Int)) FJ, 3) :: L1))) ((M.wV V').fam q :: ⟨rwP m Y', rwS m Y'⟩ :: D) W'
theorem exchange_any (w0 w : World) (M : Mm) (L1 : List Blk) (D : List Hl) (m q rr s db hb hc ob oc fb fc : Nat) (gv : Rw) (HJ OJ FJ : List Value) (b : Bool) (Y : Nat → Rw) (V : Nat → Nat → Rw) (own free : Nat → Nat)
 (K : St w0 ((db, (Value.bool b :: [.slice (some ⟨hb, 0, none⟩) m hc, .int .i64 gv.s, .slice gv.A gv.n gv.c, .int .i64 gv.t, .slice gv.B gv.m gv.d, .slice (some ⟨M.rb m, 0, none⟩) M.N (M.cp m), .slice (some ⟨ob, 0, none⟩) m oc, .slice (some ⟨fb, 0, none⟩) M.N fc]).toArray, 91) :: (hb, recA Ln.cs m (lnF Y (M.hd q)) HJ, 89) :: ((M.wV V).rows q ++ ((ob, recA iEnc m (fun i => ((own i : Nat) : Int)) OJ, 3) :: (fb, recA iEnc M.N (fun i => ((free i : Nat) : Int)) FJ, 3) :: L1))) ((M.wV V).fam q :: ⟨rwP m Y, rwS m Y⟩ :: D) w) (hr : rr < m) (hmq : q = m + 1) (hs : s < M.N) (hm : m ≤ 1000) (hN : M.N ≤ 1000) (hcp : ∀ i, i < q → M.N ≤ M.cp i ∧ M.cp i ≤ 9223372036854775807) (hhc : m ≤ hc ∧ hc ≤ 9223372036854775807) (hoc : m ≤ oc ∧ oc ≤ 9223372036854775807) (hfc : M.N ≤ fc ∧ fc ≤ 9223372036854775807) (hgy : GoodY m Y) (hgv : GoodV q M.N V) (hp0 : (V rr s).q ≠ 0) :
 Calls Tryz.prog 118 #[.pointer (some ⟨db, 0, none⟩), .int .i64 rr, .int .i64 s] w (XchP w0 L1 D M m q rr s db hb hc ob oc fb fc gv HJ OJ FJ b Y V own free) := by
 have HGY := Lib.hid hgy
 have HGV := Lib.hid hgv
 have HMQ := Lib.hid hmq
 have Hr := Lib.hid (show rr < q by omega)
 have Hmq := Lib.hid (show m < q by omega)
 have Hrm := Lib.hid hr
 have Hs := Lib.hid hs
 have HCP := Lib.hid hcp
 have hcpr := hcp rr Hr.out
 have hsi : (s : Int) < (M.N : Int) := by omega
 have hs0 : (0 : Int) ≤ (s : Int) := by omega
 have hri : (rr : Int) < (m : Int) := by omega
 have hr0 : (0 : Int) ≤ (rr : Int) := by omega
 have HDb := Lib.hid (fun W5 b5 D5 L5 (h : St w0 L5 D5 W5) (hmem : ((db, (Value.bool b5 :: [.slice (some ⟨hb, 0, none⟩) m hc, .int .i64 gv.s, .slice gv.A gv.n gv.c, .int .i64 gv.t, .slice gv.B gv.m gv.d, .slice (some ⟨M.rb m, 0, none⟩) M.N (M.cp m), .slice (some ⟨ob, 0, none⟩) m oc, .slice (some ⟨fb, 0, none⟩) M.N fc]).toArray, 91) : Blk) ∈ L5) => (⟨(h.blk hmem).cell (j := 1) rfl, (h.blk hmem).cell (j := 7) rfl, (h.blk hmem).cell (j := 8) rfl⟩ : W5.cell? ⟨db, 1, none⟩ = some (.slice (some ⟨hb, 0, none⟩) m hc) ∧ W5.cell? ⟨db, 7, none⟩ = some (.slice (some ⟨ob, 0, none⟩) m oc) ∧ W5.cell? ⟨db, 8, none⟩ = some (.slice (some ⟨fb, 0, none⟩) M.N fc)))
 have HL4 := Lib.hid (fun W5 L5 D5 Y5 J5 t5 (h : St w0 L5 D5 W5) (hm : ((hb, recA Ln.cs m (lnF Y5 (M.hd q)) J5, t5) : Blk) ∈ L5) => (show W5.cell? ⟨hb, rr * 5 + 4, none⟩ = some (.slice (some ⟨M.rb rr, 0, none⟩) M.N (M.cp rr)) from (h.cellL (g := hb) (h := M.hd q) (Y := Y5) Hrm.out hm).2))
 clear hr hcp hgy hgv hmq
 have K := K.famRdV (M := M) (V := V) (i := rr) (j := s) ZMB Hr.out hs
 obtain ⟨cd, -, -⟩ := HDb.out _ _ _ _ K ZMB
 have ch := HL4.out _ _ _ _ _ _ K ZMB
 have cr := K.cellV (M := M) (V := V) (r := rr) (k := s) hs (by repeat (first | with_reducible exact Mm.mem Hr.out | with_reducible exact Mm.memV Hr.out | with_reducible apply List.mem_cons_of_mem))
 obtain ⟨x0, hx0⟩ : ∃ x0, x0 = V rr s := ⟨_, rfl⟩
 rw [← hx0] at cr K
 have HI0 := Lib.hid (show isQ x0 x0.q from by rw [hx0]; exact HGV.out rr s Hr.out hs)
 have HX0 := Lib.hid (show x0.q = (V rr s).q from by rw [hx0])
 have HP0 := Lib.hid (show x0.q ≠ 0 from by rw [hx0]; exact hp0)
 have hcap1 := (K.rd (A := x0.A) (n := x0.n) (cap := x0.c) (l := x0.l) ZMB).caps
 have hcap2 := (K.rd (A := x0.B) (n := x0.m) (cap := x0.d) (l := x0.k) ZMB).caps
 clear hx0 hs hp0
 have r := K.raw
 go_enter Tryz.func118, Tryz.ntmps118
 go_upto_region 2 with ((first | (refine ZAL ?_; clear K r; (first | ((fail_if_success revert b0); intro W b0 K r) | ((fail_if_success revert b1); intro W b1 K r) | ((fail_if_success revert b2); intro W b2 K r) | ((fail_if_success revert b3); intro W b3 K r) | ((fail_if_success revert b4); intro W b4 K r) | ((fail_if_success revert b5); intro W b5 K r) | ((fail_if_success revert b6); intro W b6 K r) | ((fail_if_success revert b7); intro W b7 K r) | ((fail_if_success revert b8); intro W b8 K r) | ((fail_if_success revert b9); intro W b9 K r) | intro W b K r)) | (refine ZST ?_; clear K r; intro W K r)); clear ch; have ch := HL4.out _ _ _ _ _ _ K ZMB)
 clear ch cr cd
 obtain ⟨b1, hb1⟩ : ∃ b1, b1 = (b || !divK (Y rr).q x0.q) := ⟨_, rfl⟩
 have HV := Lib.hid (fun (z : Rw) (zq : Rat) (hz : isQ z zq) (hs : divK (Y rr).q x0.q = true → zq = (Y rr).q / x0.q) => (show GoodY m (putF Y rr z) ∧ FulK b b1 (divK (Y rr).q x0.q = true) ∧ ((∀ k, k ≠ rr → putF Y rr z k = Y k) ∧ (divK (Y rr).q x0.q = true → (putF Y rr z rr).q = (Y rr).q / x0.q)) from by
  refine ⟨HGY.out.put hz, ?_, fun k hk => putF_other hk, fun hk => ?_⟩
  · unfold FulK
    rw [hb1]
    cases b <;> cases divK (Y rr).q x0.q <;> simp
  · rw [putF_same, hz.q]
    exact hs hk))
 have gx := HGY.out rr Hrm.out
 have K := K.rwRd (Y := Y) (n := m) (i := rr) ZMB Hrm.out
 have HSA := Lib.hid (fun W5 b5 D5 (h : St w0 ((b0, #[.int .i64 x0.s, .slice x0.A x0.n x0.c, .int .i64 x0.t, .slice x0.B x0.m x0.d], 50) :: ((db, (Value.bool b5 :: [.slice (some ⟨hb, 0, none⟩) m hc, .int .i64 gv.s, .slice gv.A gv.n gv.c, .int .i64 gv.t, .slice gv.B gv.m gv.d, .slice (some ⟨M.rb m, 0, none⟩) M.N (M.cp m), .slice (some ⟨ob, 0, none⟩) m oc, .slice (some ⟨fb, 0, none⟩) M.N fc]).toArray, 91) :: (hb, recA Ln.cs m (lnF Y (M.hd q)) HJ, 89) :: ((M.wV V).rows q ++ ((ob, recA iEnc m (fun i => ((own i : Nat) : Int)) OJ, 3) :: (fb, recA iEnc M.N (fun i => ((free i : Nat) : Int)) FJ, 3) :: L1)))) D5 W5) => (show (W5.cell? ⟨b0, 0, none⟩ = some (.int .i64 x0.s) ∧ W5.cell? ⟨b0, 1, none⟩ = some (.slice x0.A x0.n x0.c) ∧ W5.cell? ⟨b0, 2, none⟩ = some (.int .i64 x0.t) ∧ W5.cell? ⟨b0, 3, none⟩ = some (.slice x0.B x0.m x0.d)) ∧ (W5.cell? ⟨hb, rr * 5, none⟩ = some (.int .i64 (Y rr).s) ∧ W5.cell? ⟨hb, rr * 5 + 1, none⟩ = some (.slice (Y rr).A (Y rr).n (Y rr).c) ∧ W5.cell? ⟨hb, rr * 5 + 2, none⟩ = some (.int .i64 (Y rr).t) ∧ W5.cell? ⟨hb, rr * 5 + 3, none⟩ = some (.slice (Y rr).B (Y rr).m (Y rr).d)) from by
  have r0 := h.rawS
  exact ⟨r0.1, (h.cellL (g := hb) (h := M.hd q) (Y := Y) Hrm.out ZMB).1⟩))
 have HDv := Lib.hid (fun W5 (h : St w0 ((b0, #[.int .i64 x0.s, .slice x0.A x0.n x0.c, .int .i64 x0.t, .slice x0.B x0.m x0.d], 50) :: ((db, (Value.bool b :: [.slice (some ⟨hb, 0, none⟩) m hc, .int .i64 gv.s, .slice gv.A gv.n gv.c, .int .i64 gv.t, .slice gv.B gv.m gv.d, .slice (some ⟨M.rb m, 0, none⟩) M.N (M.cp m), .slice (some ⟨ob, 0, none⟩) m oc, .slice (some ⟨fb, 0, none⟩) M.N fc]).toArray, 91) :: (hb, recA Ln.cs m (lnF Y (M.hd q)) HJ, 89) :: ((M.wV V).rows q ++ ((ob, recA iEnc m (fun i => ((own i : Nat) : Int)) OJ, 3) :: (fb, recA iEnc M.N (fun i => ((free i : Nat) : Int)) FJ, 3) :: L1)))) (⟨rdP (Y rr).B (Y rr).m (Y rr).d (Y rr).k, rdS (Y rr).B (Y rr).m⟩ :: ⟨rdP (Y rr).A (Y rr).n (Y rr).c (Y rr).l, rdS (Y rr).A (Y rr).n⟩ :: ⟨rdP x0.B x0.m x0.d x0.k, rdS x0.B x0.m⟩ :: ⟨rdP x0.A x0.n x0.c x0.l, rdS x0.A x0.n⟩ :: ((M.wV V).fam q :: ⟨rwP m Y, rwS m Y⟩ :: D)) W5) => callDiv h gx HI0.out HP0.out ZMB ZMB ZMB ZMB)
 have HB := Lib.hid (fun (y : Rw) (er : Int) (h : DivS (Y rr).q x0.q y er) => (by rw [h.2]; exact hb1 : b1 = (b || er != 0)))
 have HGo := Lib.hid (fun W5 (y : Rw) (er : Int) (G : Hid (DivS (Y rr).q x0.q y er)) (h : St w0 ((b0, #[.int .i64 x0.s, .slice x0.A x0.n x0.c, .int .i64 x0.t, .slice x0.B x0.m x0.d], 50) :: ((db, (Value.bool b :: [.slice (some ⟨hb, 0, none⟩) m hc, .int .i64 gv.s, .slice gv.A gv.n gv.c, .int .i64 gv.t, .slice gv.B gv.m gv.d, .slice (some ⟨M.rb m, 0, none⟩) M.N (M.cp m), .slice (some ⟨ob, 0, none⟩) m oc, .slice (some ⟨fb, 0, none⟩) M.N fc]).toArray, 91) :: (hb, recA Ln.cs m (lnF Y (M.hd q)) HJ, 89) :: ((M.wV V).rows q ++ ((ob, recA iEnc m (fun i => ((own i : Nat) : Int)) OJ, 3) :: (fb, recA iEnc M.N (fun i => ((free i : Nat) : Int)) FJ, 3) :: L1)))) (⟨rdP y.B y.m y.d y.k, rdS y.B y.m⟩ :: ⟨rdP y.A y.n y.c y.l, rdS y.A y.n⟩ :: ⟨rdP (Y rr).B (Y rr).m (Y rr).d (Y rr).k, rdS (Y rr).B (Y rr).m⟩ :: ⟨rdP (Y rr).A (Y rr).n (Y rr).c (Y rr).l, rdS (Y rr).A (Y rr).n⟩ :: ⟨rdP x0.B x0.m x0.d x0.k, rdS x0.B x0.m⟩ :: ⟨rdP x0.A x0.n x0.c x0.l, rdS x0.A x0.n⟩ :: ((M.wV V).fam q :: ⟨rwP m Y, rwS m Y⟩ :: D)) W5) => callGot (L' := ((b0, #[.int .i64 x0.s, .slice x0.A x0.n x0.c, .int .i64 x0.t, .slice x0.B x0.m x0.d], 50) :: ((db, (Value.bool b1 :: [.slice (some ⟨hb, 0, none⟩) m hc, .int .i64 gv.s, .slice gv.A gv.n gv.c, .int .i64 gv.t, .slice gv.B gv.m gv.d, .slice (some ⟨M.rb m, 0, none⟩) M.N (M.cp m), .slice (some ⟨ob, 0, none⟩) m oc, .slice (some ⟨fb, 0, none⟩) M.N fc]).toArray, 91) :: (hb, recA Ln.cs m (lnF Y (M.hd q)) HJ, 89) :: ((M.wV V).rows q ++ ((ob, recA iEnc m (fun i => ((own i : Nat) : Int)) OJ, 3) :: (fb, recA iEnc M.N (fun i => ((free i : Nat) : Int)) FJ, 3) :: L1))))) h G.out.1 (HB.out y er G.out) (.tail _ (.head _)))
 have hcap3 := (K.rd (A := (Y rr).A) (n := (Y rr).n) (cap := (Y rr).c) (l := (Y rr).l) ZMB).caps
 have hcap4 := (K.rd (A := (Y rr).B) (n := (Y rr).m) (cap := (Y rr).d) (l := (Y rr).k) ZMB).caps
 clear gx r hb1
 have K0 := K.drew
 have s0 := HSA.out _ _ _ K0
 clear K
 refine wp_region_T 15 (fun W5 => (W5.cell? ⟨b0, 0, none⟩ = some (.int .i64 x0.s) ∧ W5.cell? ⟨b0, 1, none⟩ = some (.slice x0.A x0.n x0.c) ∧ W5.cell? ⟨b0, 2, none⟩ = some (.int .i64 x0.t) ∧ W5.cell? ⟨b0, 3, none⟩ = some (.slice x0.B x0.m x0.d)) ∧ (W5.cell? ⟨hb, rr * 5, none⟩ = some (.int .i64 (Y rr).s) ∧ W5.cell? ⟨hb, rr * 5 + 1, none⟩ = some (.slice (Y rr).A (Y rr).n (Y rr).c) ∧ W5.cell? ⟨hb, rr * 5 + 2, none⟩ = some (.int .i64 (Y rr).t) ∧ W5.cell? ⟨hb, rr * 5 + 3, none⟩ = some (.slice (Y rr).B (Y rr).m (Y rr).d))) (by kernel_rfl) s0 (fun hSh => ?_)
 clear s0
 refine wpAnyT.tk 0 rfl ?_
 refine wpAnyT.tk 1 rfl ?_
 refine wpAnyT.tk 2 rfl ?_
 refine wpAnyT.tk 3 rfl ?_
 refine wpAnyT.tk 4 rfl ?_
 refine wpAnyT.tk 5 rfl ?_
 refine wpAnyT.tk 6 rfl ?_
 refine wpAnyT.tk 7 rfl ?_
 refine wpAnyT.tk 8 rfl ?_
 refine wpAnyT.on 9 rfl fun KK hKK => ?_
 go_simp
 go_at_call 128; refine (HDv.out _ K0).mono ?_; rintro e w4 ⟨y1, er, rfl, gy, k4⟩
 go_wp2_with fail
 refine hKK.out _ _ ?_ (fun hSh => ?_)
 · exact HSA.out _ _ _ k4
 clear hKK KK
 refine ZPT ?_
 refine wpAnyT.tk 10 rfl ?_
 refine wpAnyT.tk 11 rfl ?_
 refine wpAnyT.on 12 rfl fun KK hKK => ?_
 go_simp
 go_at_call 119; refine (HGo.out _ _ _ gy k4).mono ?_; rintro e w5 ⟨z1, z1q, rfl, gz, k5⟩
 go_wp2_with fail
 refine hKK.out _ _ ?_ (fun hSh => ?_)
 · exact HSA.out _ _ _ k5
 clear hKK KK
 refine ZPT ?_
 refine wpAnyT.on 13 rfl fun KK hKK => ?_
 go_simp
 refine hKK.out _ _ (by assumption) (fun hSh => ?_)
 clear hKK KK
 refine ZPT ?_
 refine wpAnyT.on 14 rfl fun KK hKK => ?_
 go_simp
 refine hKK.out _ _ (by assumption) (fun hSh => ?_)
 clear hKK KK
 refine ZPT ?_
 refine wpAnyT.last rfl (by kernel_rfl) ?_
 have HV1 := Lib.hid (HV.out z1 z1q gz.out.1 (fun hk => gz.out.2 (by
  have := gy.out.2
  rw [hk] at this
  simpa using this)))
 have HGY1 := Lib.hid HV1.out.1
 have HF1 := Lib.hid HV1.out.2.1
 have HYV := Lib.hid HV1.out.2.2
 clear HSA HDv HB HGo hSh HV gz gy HV1 K0 k4
 refine k5.storeL (Y := Y) (h := M.hd q) (J := HJ) (t := 89) rfl rfl _ _ _ rfl hb rr m z1 rfl rfl Hrm.out ZUA frac_size ?_
 intro W8 K
 clear k5
 replace K := K.rwPut (v := Y) z1 rr ZMB ZMB ZMB
 replace K := ((K.add (x := (M.wV V).fam q) (K.okAt ZMB)).lessS (D' := ((M.wV V).fam q :: ⟨rwP m (putF Y rr z1), rwS m (putF Y rr z1)⟩ :: ⟨rdP x0.B x0.m x0.d x0.k, rdS x0.B x0.m⟩ :: ⟨rdP x0.A x0.n x0.c x0.l, rdS x0.A x0.n⟩ :: D)) (by repeat (first | with_reducible exact List.Sublist.refl _ | with_reducible apply List.Sublist.cons_cons | with_reducible apply List.Sublist.cons)))
 obtain ⟨Y1, hY1⟩ : ∃ Y1, Y1 = putF Y rr z1 := ⟨_, rfl⟩
 rw [← hY1] at K HGY1 HYV
 clear hY1
 have r0 := K.rawS
 have ch := HL4.out _ _ _ _ _ _ K ZMB
 go_wp2_with fail
 clear ch r0
 go_loopg [43] M.N (fun gk s43 wr => ∃ (k : Nat) (b2 : Bool) (V2 : Nat → Nat → Rw), k ≤ M.N ∧ gk = M.N - k ∧ s43 = .int .i64 k ∧ Hid (GoodV q M.N V2) ∧ Hid (DvQ rr s k x0.q b1 b2 V V2) ∧ St w0 ((b0, #[.int .i64 x0.s, .slice x0.A x0.n x0.c, .int .i64 x0.t, .slice x0.B x0.m x0.d], 50) :: ((db, (Value.bool b2 :: [.slice (some ⟨hb, 0, none⟩) m hc, .int .i64 gv.s, .slice gv.A gv.n gv.c, .int .i64 gv.t, .slice gv.B gv.m gv.d, .slice (some ⟨M.rb m, 0, none⟩) M.N (M.cp m), .slice (some ⟨ob, 0, none⟩) m oc, .slice (some ⟨fb, 0, none⟩) M.N fc]).toArray, 91) :: (hb, recA Ln.cs m (lnF Y1 (M.hd q)) HJ, 89) :: ((M.wV V2).rows q ++ ((ob, recA iEnc m (fun i => ((own i : Nat) : Int)) OJ, 3) :: (fb, recA iEnc M.N (fun i => ((free i : Nat) : Int)) FJ, 3) :: L1)))) ((M.wV V2).fam q :: ⟨rwP m Y1, rwS m Y1⟩ :: ⟨rdP x0.B x0.m x0.d x0.k, rdS x0.B x0.m⟩ :: ⟨rdP x0.A x0.n x0.c x0.l, rdS x0.A x0.n⟩ :: D) wr)
 case atStart => exact ⟨0, _, V, Nat.zero_le _, rfl, rfl, HGV, Lib.hid (DvQ.zero rr s _ _ V), K⟩
 case round =>
  clear K
  obtain ⟨k, b2, V2, hk, rfl, rfl, HG2, HQ, K⟩ := hrel
  by_cases hlt : k < M.N
  · have hki : (k : Int) < (M.N : Int) := by omega
    have hk0 : (0 : Int) ≤ (k : Int) := by omega
    by_cases hks : k = s
    · have hse : ((k : Int) != (s : Int)) = false := by simp [hks]
      have HQ2 := Lib.hid (show DvQ rr s (k + 1) x0.q b1 b2 V V2 from by
       subst hks
       exact HQ.out.skip)
      exact ZQ54
    · have hse : ((k : Int) != (s : Int)) = true := by simp; omega
      have e1 : V2 rr k = V rr k := HQ.out.2.1 rr k (by omega)
      obtain ⟨bn, hbn⟩ : ∃ bn, bn = (b2 || !divK (V2 rr k).q x0.q) := ⟨_, rfl⟩
      have HV := Lib.hid (fun (z : Rw) (zq : Rat) (hz : isQ z zq) (hs : divK (V2 rr k).q x0.q = true → zq = (V2 rr k).q / x0.q) => HQ.out.step (b2 := bn) (x := z) (z := zq) hks (by rw [hbn, e1]) hz (by rw [e1] at hs; exact hs))
      have gx := HG2.out rr k Hr.out hlt
      have K := K.famRdV (M := M) (V := V2) (i := rr) (j := k) ZMB Hr.out hlt
      obtain ⟨x, hx⟩ : ∃ x, x = V2 rr k := ⟨_, rfl⟩
      rw [← hx] at K HV hbn gx
      have HX := Lib.hid hx
      have HSA := Lib.hid (fun W5 b5 D5 (h : St w0 ((b0, #[.int .i64 x0.s, .slice x0.A x0.n x0.c, .int .i64 x0.t, .slice x0.B x0.m x0.d], 50) :: ((db, (Value.bool b5 :: [.slice (some ⟨hb, 0, none⟩) m hc, .int .i64 gv.s, .slice gv.A gv.n gv.c, .int .i64 gv.t, .slice gv.B gv.m gv.d, .slice (some ⟨M.rb m, 0, none⟩) M.N (M.cp m), .slice (some ⟨ob, 0, none⟩) m oc, .slice (some ⟨fb, 0, none⟩) M.N fc]).toArray, 91) :: (hb, recA Ln.cs m (lnF Y1 (M.hd q)) HJ, 89) :: ((M.wV V2).rows q ++ ((ob, recA iEnc m (fun i => ((own i : Nat) : Int)) OJ, 3) :: (fb, recA iEnc M.N (fun i => ((free i : Nat) : Int)) FJ, 3) :: L1)))) D5 W5) => (show W5.cell? ⟨hb, rr * 5 + 4, none⟩ = some (.slice (some ⟨M.rb rr, 0, none⟩) M.N (M.cp rr)) ∧ (W5.cell? ⟨b0, 0, none⟩ = some (.int .i64 x0.s) ∧ W5.cell? ⟨b0, 1, none⟩ = some (.slice x0.A x0.n x0.c) ∧ W5.cell? ⟨b0, 2, none⟩ = some (.int .i64 x0.t) ∧ W5.cell? ⟨b0, 3, none⟩ = some (.slice x0.B x0.m x0.d)) ∧ (W5.cell? ⟨M.rb rr, k * 4, none⟩ = some (.int .i64 x.s) ∧ W5.cell? ⟨M.rb rr, k * 4 + 1, none⟩ = some (.slice x.A x.n x.c) ∧ W5.cell? ⟨M.rb rr, k * 4 + 2, none⟩ = some (.int .i64 x.t) ∧ W5.cell? ⟨M.rb rr, k * 4 + 3, none⟩ = some (.slice x.B x.m x.d)) from by
       have r0 := h.rawS
       have cx := h.cellV (M := M) (V := V2) (r := rr) (k := k) hlt (by repeat (first | with_reducible exact Mm.mem Hr.out | with_reducible exact Mm.memV Hr.out | with_reducible apply List.mem_cons_of_mem))
       rw [← HX.out] at cx
       exact ⟨HL4.out _ _ _ _ _ _ h ZMB, r0.1, cx⟩))
      have HDv := Lib.hid (fun W5 (h : St w0 ((b0, #[.int .i64 x0.s, .slice x0.A x0.n x0.c, .int .i64 x0.t, .slice x0.B x0.m x0.d], 50) :: ((db, (Value.bool b2 :: [.slice (some ⟨hb, 0, none⟩) m hc, .int .i64 gv.s, .slice gv.A gv.n gv.c, .int .i64 gv.t, .slice gv.B gv.m gv.d, .slice (some ⟨M.rb m, 0, none⟩) M.N (M.cp m), .slice (some ⟨ob, 0, none⟩) m oc, .slice (some ⟨fb, 0, none⟩) M.N fc]).toArray, 91) :: (hb, recA Ln.cs m (lnF Y1 (M.hd q)) HJ, 89) :: ((M.wV V2).rows q ++ ((ob, recA iEnc m (fun i => ((own i : Nat) : Int)) OJ, 3) :: (fb, recA iEnc M.N (fun i => ((free i : Nat) : Int)) FJ, 3) :: L1)))) (⟨rdP x.B x.m x.d x.k, rdS x.B x.m⟩ :: ⟨rdP x.A x.n x.c x.l, rdS x.A x.n⟩ :: ((M.wV V2).fam q :: ⟨rwP m Y1, rwS m Y1⟩ :: ⟨rdP x0.B x0.m x0.d x0.k, rdS x0.B x0.m⟩ :: ⟨rdP x0.A x0.n x0.c x0.l, rdS x0.A x0.n⟩ :: D)) W5) => callDiv h gx HI0.out HP0.out ZMB ZMB ZMB ZMB)
      have HB := Lib.hid (fun (y : Rw) (er : Int) (h : DivS x.q x0.q y er) => (by rw [h.2]; exact hbn : bn = (b2 || er != 0)))
      have HGo := Lib.hid (fun W5 (y : Rw) (er : Int) (G : Hid (DivS x.q x0.q y er)) (h : St w0 ((b0, #[.int .i64 x0.s, .slice x0.A x0.n x0.c, .int .i64 x0.t, .slice x0.B x0.m x0.d], 50) :: ((db, (Value.bool b2 :: [.slice (some ⟨hb, 0, none⟩) m hc, .int .i64 gv.s, .slice gv.A gv.n gv.c, .int .i64 gv.t, .slice gv.B gv.m gv.d, .slice (some ⟨M.rb m, 0, none⟩) M.N (M.cp m), .slice (some ⟨ob, 0, none⟩) m oc, .slice (some ⟨fb, 0, none⟩) M.N fc]).toArray, 91) :: (hb, recA Ln.cs m (lnF Y1 (M.hd q)) HJ, 89) :: ((M.wV V2).rows q ++ ((ob, recA iEnc m (fun i => ((own i : Nat) : Int)) OJ, 3) :: (fb, recA iEnc M.N (fun i => ((free i : Nat) : Int)) FJ, 3) :: L1)))) (⟨rdP y.B y.m y.d y.k, rdS y.B y.m⟩ :: ⟨rdP y.A y.n y.c y.l, rdS y.A y.n⟩ :: ⟨rdP x.B x.m x.d x.k, rdS x.B x.m⟩ :: ⟨rdP x.A x.n x.c x.l, rdS x.A x.n⟩ :: ((M.wV V2).fam q :: ⟨rwP m Y1, rwS m Y1⟩ :: ⟨rdP x0.B x0.m x0.d x0.k, rdS x0.B x0.m⟩ :: ⟨rdP x0.A x0.n x0.c x0.l, rdS x0.A x0.n⟩ :: D)) W5) => callGot (L' := ((b0, #[.int .i64 x0.s, .slice x0.A x0.n x0.c, .int .i64 x0.t, .slice x0.B x0.m x0.d], 50) :: ((db, (Value.bool bn :: [.slice (some ⟨hb, 0, none⟩) m hc, .int .i64 gv.s, .slice gv.A gv.n gv.c, .int .i64 gv.t, .slice gv.B gv.m gv.d, .slice (some ⟨M.rb m, 0, none⟩) M.N (M.cp m), .slice (some ⟨ob, 0, none⟩) m oc, .slice (some ⟨fb, 0, none⟩) M.N fc]).toArray, 91) :: (hb, recA Ln.cs m (lnF Y1 (M.hd q)) HJ, 89) :: ((M.wV V2).rows q ++ ((ob, recA iEnc m (fun i => ((own i : Nat) : Int)) OJ, 3) :: (fb, recA iEnc M.N (fun i => ((free i : Nat) : Int)) FJ, 3) :: L1))))) h G.out.1 (HB.out y er G.out) (.tail _ (.head _)))
      have hcap3 := (K.rd (A := x.A) (n := x.n) (cap := x.c) (l := x.l) ZMB).caps
      have hcap4 := (K.rd (A := x.B) (n := x.m) (cap := x.d) (l := x.k) ZMB).caps
      clear hx hbn HQ e1 gx
      go_upto_region 7 with fail
      have K0 := K.drew
      have s0 := HSA.out _ _ _ K0
      clear K
      refine wp_region_T 21 (fun W5 => W5.cell? ⟨hb, rr * 5 + 4, none⟩ = some (.slice (some ⟨M.rb rr, 0, none⟩) M.N (M.cp rr)) ∧ (W5.cell? ⟨b0, 0, none⟩ = some (.int .i64 x0.s) ∧ W5.cell? ⟨b0, 1, none⟩ = some (.slice x0.A x0.n x0.c) ∧ W5.cell? ⟨b0, 2, none⟩ = some (.int .i64 x0.t) ∧ W5.cell? ⟨b0, 3, none⟩ = some (.slice x0.B x0.m x0.d)) ∧ (W5.cell? ⟨M.rb rr, k * 4, none⟩ = some (.int .i64 x.s) ∧ W5.cell? ⟨M.rb rr, k * 4 + 1, none⟩ = some (.slice x.A x.n x.c) ∧ W5.cell? ⟨M.rb rr, k * 4 + 2, none⟩ = some (.int .i64 x.t) ∧ W5.cell? ⟨M.rb rr, k * 4 + 3, none⟩ = some (.slice x.B x.m x.d))) (by kernel_rfl) s0 (fun hSh => ?_)
      clear s0
      refine wpAnyT.tk 0 rfl ?_
      refine wpAnyT.tk 1 rfl ?_
      refine wpAnyT.tk 2 rfl ?_
      refine wpAnyT.tk 3 rfl ?_
      refine wpAnyT.tk 4 rfl ?_
      refine wpAnyT.tk 5 rfl ?_
      refine wpAnyT.tk 6 rfl ?_
      refine wpAnyT.tk 7 rfl ?_
      refine wpAnyT.tk 8 rfl ?_
      refine wpAnyT.tk 9 rfl ?_
      refine wpAnyT.tk 10 rfl ?_
      refine wpAnyT.tk 11 rfl ?_
      refine wpAnyT.tk 12 rfl ?_
      refine wpAnyT.tk 13 rfl ?_
      refine wpAnyT.tk 14 rfl ?_
      refine wpAnyT.tk 15 rfl ?_
      refine wpAnyT.on 16 rfl fun KK hKK => ?_
      go_simp
      go_at_call 128; refine (HDv.out _ K0).mono ?_; rintro e w4 ⟨y1, er, rfl, gy, k4⟩
      go_wp2_with fail
      refine hKK.out _ _ ?_ (fun hSh => ?_)
      · exact HSA.out _ _ _ k4
      clear hKK KK
      refine ZPT ?_
      refine wpAnyT.tk 17 rfl ?_
      refine wpAnyT.tk 18 rfl ?_
      refine wpAnyT.on 19 rfl fun KK hKK => ?_
      go_simp
      go_at_call 119; refine (HGo.out _ _ _ gy k4).mono ?_; rintro e w5 ⟨z, zq, rfl, gz, k5⟩
      go_wp2_with fail
      refine hKK.out _ _ ?_ (fun hSh => ?_)
      · exact HSA.out _ _ _ k5
      clear hKK KK
      refine ZPT ?_
      refine wpAnyT.tk 20 rfl ?_
      refine wpAnyT.last rfl (by kernel_rfl) ?_
      have HQ := Lib.hid (HV.out z zq gz.out.1 (fun hk => gz.out.2 (by
       have := gy.out.2
       rw [hk] at this
       simpa using this)))
      have HG3 := Lib.hid (HG2.out.put (r := rr) (k := k) gz.out.1)
      clear K0 k4 HSA HDv HB HGo hSh HV gz gy HX
      refine k5.storeR (v := V2 rr) (J := M.J rr) (t := 50) rfl rfl _ _ _ rfl (M.rb rr) k M.N z rfl rfl hlt (by repeat (first | with_reducible exact Mm.updV Hr.out _ | with_reducible exact Upd.head _ | with_reducible apply Upd.tail)) frac_size ?_
      intro W8 K
      clear k5
      have HK := Lib.hid ((K.famPutV (M := M) (V := V2) (n := q) ZMB z ZMB ZMB rr k).lessS (D' := ((M.wV (put2 V2 rr k z)).fam q :: ⟨rwP m Y1, rwS m Y1⟩ :: ⟨rdP x0.B x0.m x0.d x0.k, rdS x0.B x0.m⟩ :: ⟨rdP x0.A x0.n x0.c x0.l, rdS x0.A x0.n⟩ :: D)) (by repeat (first | with_reducible exact List.Sublist.refl _ | with_reducible apply List.Sublist.cons_cons | with_reducible apply List.Sublist.cons)))
      clear K
      go_wp2_with fail
      go_roundg (M.N - (k + 1))
      case rel => exact ⟨k + 1, bn, put2 V2 rr k z, hlt, rfl, by go_num, HG3, HQ, HK.out⟩
      case measure => omega
  · have e : k = M.N := by omega
    have HQ2 := Lib.hid (show DvQ rr s M.N x0.q b1 b2 V V2 from by rw [← e]; exact HQ.out)
    have hki : ¬ (k : Int) < (M.N : Int) := by omega
    obtain ⟨b9, hb9⟩ : ∃ b9, b9 = (b2 || !divK 1 x0.q) := ⟨_, rfl⟩
    have HV := Lib.hid (fun (z : Rw) (zq : Rat) (hz : isQ z zq) (hs : divK 1 x0.q = true → zq = 1 / x0.q) => HQ2.out.last (b2 := b9) (x := z) (z := zq) Hs.out hb9 hz hs)
    have HSA := Lib.hid (fun W5 b5 D5 (h : St w0 ((b0, #[.int .i64 x0.s, .slice x0.A x0.n x0.c, .int .i64 x0.t, .slice x0.B x0.m x0.d], 50) :: ((db, (Value.bool b5 :: [.slice (some ⟨hb, 0, none⟩) m hc, .int .i64 gv.s, .slice gv.A gv.n gv.c, .int .i64 gv.t, .slice gv.B gv.m gv.d, .slice (some ⟨M.rb m, 0, none⟩) M.N (M.cp m), .slice (some ⟨ob, 0, none⟩) m oc, .slice (some ⟨fb, 0, none⟩) M.N fc]).toArray, 91) :: (hb, recA Ln.cs m (lnF Y1 (M.hd q)) HJ, 89) :: ((M.wV V2).rows q ++ ((ob, recA iEnc m (fun i => ((own i : Nat) : Int)) OJ, 3) :: (fb, recA iEnc M.N (fun i => ((free i : Nat) : Int)) FJ, 3) :: L1)))) D5 W5) => (show W5.cell? ⟨hb, rr * 5 + 4, none⟩ = some (.slice (some ⟨M.rb rr, 0, none⟩) M.N (M.cp rr)) ∧ (W5.cell? ⟨b0, 0, none⟩ = some (.int .i64 x0.s) ∧ W5.cell? ⟨b0, 1, none⟩ = some (.slice x0.A x0.n x0.c) ∧ W5.cell? ⟨b0, 2, none⟩ = some (.int .i64 x0.t) ∧ W5.cell? ⟨b0, 3, none⟩ = some (.slice x0.B x0.m x0.d)) from by
     have r0 := h.rawS
     exact ⟨HL4.out _ _ _ _ _ _ h ZMB, r0.1⟩))
    have HNu := Lib.hid (fun W5 D5 (h : St w0 ((b0, #[.int .i64 x0.s, .slice x0.A x0.n x0.c, .int .i64 x0.t, .slice x0.B x0.m x0.d], 50) :: ((db, (Value.bool b2 :: [.slice (some ⟨hb, 0, none⟩) m hc, .int .i64 gv.s, .slice gv.A gv.n gv.c, .int .i64 gv.t, .slice gv.B gv.m gv.d, .slice (some ⟨M.rb m, 0, none⟩) M.N (M.cp m), .slice (some ⟨ob, 0, none⟩) m oc, .slice (some ⟨fb, 0, none⟩) M.N fc]).toArray, 91) :: (hb, recA Ln.cs m (lnF Y1 (M.hd q)) HJ, 89) :: ((M.wV V2).rows q ++ ((ob, recA iEnc m (fun i => ((own i : Nat) : Int)) OJ, 3) :: (fb, recA iEnc M.N (fun i => ((free i : Nat) : Int)) FJ, 3) :: L1)))) D5 W5) => (pnumber_any 1 W5 (by decide)).mono fun e W6 ⟨s7, A7, n7, c7, l7, t7, B7, m7, d7, k7, he, ⟨hra, hrb⟩, ho, ⟨hfa, hfb⟩, hbl⟩ => (⟨⟨s7, A7, n7, c7, l7, t7, B7, m7, d7, k7⟩, he, Lib.hid (⟨ho, by decide +kernel⟩ : isQ ⟨s7, A7, n7, c7, l7, t7, B7, m7, d7, k7⟩ 1), h.retF hbl hra hrb hfa hfb⟩ : ∃ z : Rw, e = Ending.returned (.agg #[.int .i64 z.s, .slice z.A z.n z.c, .int .i64 z.t, .slice z.B z.m z.d]) ∧ Hid (isQ z 1) ∧ St w0 ((b0, #[.int .i64 x0.s, .slice x0.A x0.n x0.c, .int .i64 x0.t, .slice x0.B x0.m x0.d], 50) :: ((db, (Value.bool b2 :: [.slice (some ⟨hb, 0, none⟩) m hc, .int .i64 gv.s, .slice gv.A gv.n gv.c, .int .i64 gv.t, .slice gv.B gv.m gv.d, .slice (some ⟨M.rb m, 0, none⟩) M.N (M.cp m), .slice (some ⟨ob, 0, none⟩) m oc, .slice (some ⟨fb, 0, none⟩) M.N fc]).toArray, 91) :: (hb, recA Ln.cs m (lnF Y1 (M.hd q)) HJ, 89) :: ((M.wV V2).rows q ++ ((ob, recA iEnc m (fun i => ((own i : Nat) : Int)) OJ, 3) :: (fb, recA iEnc M.N (fun i => ((free i : Nat) : Int)) FJ, 3) :: L1)))) (⟨rdP z.B z.m z.d z.k, rdS z.B z.m⟩ :: ⟨rdP z.A z.n z.c z.l, rdS z.A z.n⟩ :: D5) W6))
    have HDv := Lib.hid (fun W5 (z : Rw) (hz : isQ z 1) (h : St w0 ((b0, #[.int .i64 x0.s, .slice x0.A x0.n x0.c, .int .i64 x0.t, .slice x0.B x0.m x0.d], 50) :: ((db, (Value.bool b2 :: [.slice (some ⟨hb, 0, none⟩) m hc, .int .i64 gv.s, .slice gv.A gv.n gv.c, .int .i64 gv.t, .slice gv.B gv.m gv.d, .slice (some ⟨M.rb m, 0, none⟩) M.N (M.cp m), .slice (some ⟨ob, 0, none⟩) m oc, .slice (some ⟨fb, 0, none⟩) M.N fc]).toArray, 91) :: (hb, recA Ln.cs m (lnF Y1 (M.hd q)) HJ, 89) :: ((M.wV V2).rows q ++ ((ob, recA iEnc m (fun i => ((own i : Nat) : Int)) OJ, 3) :: (fb, recA iEnc M.N (fun i => ((free i : Nat) : Int)) FJ, 3) :: L1)))) (⟨rdP z.B z.m z.d z.k, rdS z.B z.m⟩ :: ⟨rdP z.A z.n z.c z.l, rdS z.A z.n⟩ :: ((M.wV V2).fam q :: ⟨rwP m Y1, rwS m Y1⟩ :: ⟨rdP x0.B x0.m x0.d x0.k, rdS x0.B x0.m⟩ :: ⟨rdP x0.A x0.n x0.c x0.l, rdS x0.A x0.n⟩ :: D)) W5) => callDiv h hz HI0.out HP0.out ZMB ZMB ZMB ZMB)
    have HB := Lib.hid (fun (y : Rw) (er : Int) (h : DivS 1 x0.q y er) => (by rw [h.2]; exact hb9 : b9 = (b2 || er != 0)))
    have HGo := Lib.hid (fun W5 (y z : Rw) (er : Int) (G : Hid (DivS 1 x0.q y er)) (h : St w0 ((b0, #[.int .i64 x0.s, .slice x0.A x0.n x0.c, .int .i64 x0.t, .slice x0.B x0.m x0.d], 50) :: ((db, (Value.bool b2 :: [.slice (some ⟨hb, 0, none⟩) m hc, .int .i64 gv.s, .slice gv.A gv.n gv.c, .int .i64 gv.t, .slice gv.B gv.m gv.d, .slice (some ⟨M.rb m, 0, none⟩) M.N (M.cp m), .slice (some ⟨ob, 0, none⟩) m oc, .slice (some ⟨fb, 0, none⟩) M.N fc]).toArray, 91) :: (hb, recA Ln.cs m (lnF Y1 (M.hd q)) HJ, 89) :: ((M.wV V2).rows q ++ ((ob, recA iEnc m (fun i => ((own i : Nat) : Int)) OJ, 3) :: (fb, recA iEnc M.N (fun i => ((free i : Nat) : Int)) FJ, 3) :: L1)))) (⟨rdP y.B y.m y.d y.k, rdS y.B y.m⟩ :: ⟨rdP y.A y.n y.c y.l, rdS y.A y.n⟩ :: ⟨rdP z.B z.m z.d z.k, rdS z.B z.m⟩ :: ⟨rdP z.A z.n z.c z.l, rdS z.A z.n⟩ :: ((M.wV V2).fam q :: ⟨rwP m Y1, rwS m Y1⟩ :: ⟨rdP x0.B x0.m x0.d x0.k, rdS x0.B x0.m⟩ :: ⟨rdP x0.A x0.n x0.c x0.l, rdS x0.A x0.n⟩ :: D)) W5) => callGot (L' := ((b0, #[.int .i64 x0.s, .slice x0.A x0.n x0.c, .int .i64 x0.t, .slice x0.B x0.m x0.d], 50) :: ((db, (Value.bool b9 :: [.slice (some ⟨hb, 0, none⟩) m hc, .int .i64 gv.s, .slice gv.A gv.n gv.c, .int .i64 gv.t, .slice gv.B gv.m gv.d, .slice (some ⟨M.rb m, 0, none⟩) M.N (M.cp m), .slice (some ⟨ob, 0, none⟩) m oc, .slice (some ⟨fb, 0, none⟩) M.N fc]).toArray, 91) :: (hb, recA Ln.cs m (lnF Y1 (M.hd q)) HJ, 89) :: ((M.wV V2).rows q ++ ((ob, recA iEnc m (fun i => ((own i : Nat) : Int)) OJ, 3) :: (fb, recA iEnc M.N (fun i => ((free i : Nat) : Int)) FJ, 3) :: L1))))) h G.out.1 (HB.out y er G.out) (.tail _ (.head _)))
    clear hb9 HQ HQ2
    go_upto_region 9 with fail
    have K0 := K.drew
    have s0 := HSA.out _ _ _ K0
    clear K
    refine wp_region_T 15 (fun W5 => W5.cell? ⟨hb, rr * 5 + 4, none⟩ = some (.slice (some ⟨M.rb rr, 0, none⟩) M.N (M.cp rr)) ∧ (W5.cell? ⟨b0, 0, none⟩ = some (.int .i64 x0.s) ∧ W5.cell? ⟨b0, 1, none⟩ = some (.slice x0.A x0.n x0.c) ∧ W5.cell? ⟨b0, 2, none⟩ = some (.int .i64 x0.t) ∧ W5.cell? ⟨b0, 3, none⟩ = some (.slice x0.B x0.m x0.d))) (by kernel_rfl) s0 (fun hSh => ?_)
    clear s0
    refine wpAnyT.tk 0 rfl ?_
    refine wpAnyT.tk 1 rfl ?_
    refine wpAnyT.tk 2 rfl ?_
    refine wpAnyT.tk 3 rfl ?_
    refine wpAnyT.tk 4 rfl ?_
    refine wpAnyT.tk 5 rfl ?_
    refine wpAnyT.tk 6 rfl ?_
    refine wpAnyT.tk 7 rfl ?_
    refine wpAnyT.tk 9 rfl ?_
    refine wpAnyT.on 8 rfl fun KK hKK => ?_
    go_simp
    go_at_call 112; refine (HNu.out _ _ K0).mono ?_; rintro e w3 ⟨z0, rfl, g0, k3⟩
    go_wp2_with fail
    refine hKK.out _ _ ?_ (fun hSh => ?_)
    · exact HSA.out _ _ _ k3
    clear hKK KK
    refine ZPT ?_
    refine wpAnyT.on 10 rfl fun KK hKK => ?_
    go_simp
    go_at_call 128; refine (HDv.out _ _ g0.out k3).mono ?_; rintro e w4 ⟨y1, er, rfl, gy, k4⟩
    go_wp2_with fail
    refine hKK.out _ _ ?_ (fun hSh => ?_)
    · exact HSA.out _ _ _ k4
    clear hKK KK
    refine ZPT ?_
    refine wpAnyT.tk 11 rfl ?_
    refine wpAnyT.tk 12 rfl ?_
    refine wpAnyT.on 13 rfl fun KK hKK => ?_
    go_simp
    go_at_call 119; refine (HGo.out _ _ _ _ gy k4).mono ?_; rintro e w5 ⟨z, zq, rfl, gz, k5⟩
    go_wp2_with fail
    refine hKK.out _ _ ?_ (fun hSh => ?_)
    · exact HSA.out _ _ _ k5
    clear hKK KK
    refine ZPT ?_
    refine wpAnyT.tk 14 rfl ?_
    refine wpAnyT.last rfl (by kernel_rfl) ?_
    have HQ := Lib.hid (HV.out z zq gz.out.1 (fun hk => gz.out.2 (by
     have := gy.out.2
     rw [hk] at this
     simpa using this)))
    have HG3 := Lib.hid (HG2.out.put (r := rr) (k := s) gz.out.1)
    clear K0 k3 k4 HSA HDv HB HGo HNu hSh HV gz gy g0
    refine k5.storeR (v := V2 rr) (J := M.J rr) (t := 50) rfl rfl _ _ _ rfl (M.rb rr) s M.N z rfl rfl Hs.out (by repeat (first | with_reducible exact Mm.updV Hr.out _ | with_reducible exact Upd.head _ | with_reducible apply Upd.tail)) frac_size ?_
    intro W8 K
    clear k5
    replace K := (((K.famPutV (M := M) (V := V2) (n := q) ZMB z ZMB ZMB rr s).lessS (D' := ((M.wV (put2 V2 rr s z)).fam q :: ⟨rwP m Y1, rwS m Y1⟩ :: D)) (by repeat (first | with_reducible exact List.Sublist.refl _ | with_reducible apply List.Sublist.cons_cons | with_reducible apply List.Sublist.cons))).part (List.sublist_cons_self _ _))
    obtain ⟨V9, hV9⟩ : ∃ V9, V9 = put2 V2 rr s z := ⟨_, rfl⟩
    rw [← hV9] at K HG3 HQ
    clear hV9 hki
    have cd := (HDb.out _ _ _ _ K ZMB).1
    go_wp2_with fail
    clear cd
    go_loopg [91] m (fun gk s91 wr => ∃ (k : Nat) (b3 : Bool) (Y3 : Nat → Rw) (V3 : Nat → Nat → Rw), k ≤ m ∧ gk = m - k ∧ s91 = .int .i64 k ∧ Hid (GoodY m Y3) ∧ Hid (GoodV q M.N V3) ∧ Hid (XcQ M.N rr s k b9 b3 Y1 Y3 V9 V3) ∧ St w0 ((db, (Value.bool b3 :: [.slice (some ⟨hb, 0, none⟩) m hc, .int .i64 gv.s, .slice gv.A gv.n gv.c, .int .i64 gv.t, .slice gv.B gv.m gv.d, .slice (some ⟨M.rb m, 0, none⟩) M.N (M.cp m), .slice (some ⟨ob, 0, none⟩) m oc, .slice (some ⟨fb, 0, none⟩) M.N fc]).toArray, 91) :: (hb, recA Ln.cs m (lnF Y3 (M.hd q)) HJ, 89) :: ((M.wV V3).rows q ++ ((ob, recA iEnc m (fun i => ((own i : Nat) : Int)) OJ, 3) :: (fb, recA iEnc M.N (fun i => ((free i : Nat) : Int)) FJ, 3) :: L1))) ((M.wV V3).fam q :: ⟨rwP m Y3, rwS m Y3⟩ :: D) wr)
    case atStart => exact ⟨0, _, Y1, V9, Nat.zero_le _, rfl, rfl, HGY1, HG3, Lib.hid (XcQ.zero _ rr s _ _ _), K⟩
    case round =>
     clear K HG3
     obtain ⟨k, b3, Y3, V3, hk, rfl, rfl, HY3, HV3, HX, K⟩ := hrel
     by_cases hlt : k < m
     · have hki : (k : Int) < (m : Int) := by omega
       have hk0 : (0 : Int) ≤ (k : Int) := by omega
       by_cases hkr : k = rr
       · have hse : ((k : Int) != (rr : Int)) = false := by simp [hkr]
         have HX2 := Lib.hid (show XcQ M.N rr s (k + 1) b9 b3 Y1 Y3 V9 V3 from by
          subst hkr
          exact HX.out.skip)
         clear HX hkr
         go_wp2_with fail
         go_roundg (m - (k + 1))
         case rel => exact ⟨k + 1, b3, Y3, V3, hlt, rfl, by go_num, HY3, HV3, HX2, K⟩
         case measure => omega
       · have hse : ((k : Int) != (rr : Int)) = true := by simp; omega
         have HT := Lib.hid (takeR_any w0 wr M _ D m q k rr s db hb HJ [.slice (some ⟨hb, 0, none⟩) m hc, .int .i64 gv.s, .slice gv.A gv.n gv.c, .int .i64 gv.t, .slice gv.B gv.m gv.d, .slice (some ⟨M.rb m, 0, none⟩) M.N (M.cp m), .slice (some ⟨ob, 0, none⟩) m oc, .slice (some ⟨fb, 0, none⟩) M.N fc] b3 Y3 V3 K hlt Hmq.out Hrm.out hkr Hs.out hN HCP.out HY3.out HV3.out)
         have HSt := Lib.hid (fun b4 Y4 V4 h1 h2 h3 => HX.out.step (b2 := b4) (Y2 := Y4) (V2 := V4) hkr h1 h2 h3)
         have cd := (HDb.out _ _ _ _ K ZMB).1
         clear HX
         go_wp2_with (go_at_call 151; refine HT.out.mono ?_; rintro e w5 ⟨b4, Y4, V4, rfl, H1, H2, H3, H4, k5⟩)
         have HX2 := Lib.hid (HSt.out _ _ _ H2.out H3.out H4.out)
         clear HT HSt H2 H3 H4 K
         go_roundg (m - (k + 1))
         case rel => exact ⟨k + 1, b4, Y4, V4, hlt, rfl, by go_num, Lib.hid H1.out.1, Lib.hid H1.out.2, HX2, k5⟩
         case measure => omega
     · have e : k = m := by omega
       have hki : ¬ (k : Int) < (m : Int) := by omega
       have HX2 := Lib.hid (show XcQ M.N rr s m b9 b3 Y1 Y3 V9 V3 from by rw [← e]; exact HX.out)
       clear e HX
       have HT := Lib.hid (takeG_any w0 wr M _ D m q m rr s db hb HJ [.slice (some ⟨hb, 0, none⟩) m hc, .int .i64 gv.s, .slice gv.A gv.n gv.c, .int .i64 gv.t, .slice gv.B gv.m gv.d, .slice (some ⟨M.rb m, 0, none⟩) M.N (M.cp m), .slice (some ⟨ob, 0, none⟩) m oc, .slice (some ⟨fb, 0, none⟩) M.N fc] b3 Y3 V3 K Hmq.out Hr.out Hrm.out (by have := Hrm.out; omega) Hs.out hN HCP.out HY3.out HV3.out rfl)
       go_upto_region 17 with (go_at_call 151; refine HT.out.mono ?_; rintro e w5 ⟨b4, Y4, V4, rfl, H1, H2, H3, H4, k5⟩)
       have HALL := Lib.hid (xch_all (own := own) (free := free) HX0.out Hrm.out Hs.out HF1.out HYV.out HQ.out.1 HQ.out.2 HX2.out H2.out H3.out H4.out)
       obtain ⟨-, co, cf⟩ := HDb.out _ _ _ _ k5 ZMB
       have c1 := (k5.blk (b := ob) (cs := recA iEnc m (fun i => ((own i : Nat) : Int)) OJ) (t := 3) (by repeat (first | with_reducible exact List.mem_cons_self | with_reducible apply List.mem_append_right | with_reducible apply List.mem_cons_of_mem))).cell (iA_get Hrm.out)
       have c2 := (k5.blk (b := fb) (cs := recA iEnc M.N (fun i => ((free i : Nat) : Int)) FJ) (t := 3) (by repeat (first | with_reducible exact List.mem_cons_self | with_reducible apply List.mem_append_right | with_reducible apply List.mem_cons_of_mem))).cell (iA_get Hs.out)
       have z1 := k5.thaw (g := ob) (cs := recA iEnc m (fun i => ((own i : Nat) : Int)) OJ) (t := 3) (by repeat (first | with_reducible exact List.mem_cons_self | with_reducible apply List.mem_append_right | with_reducible apply List.mem_cons_of_mem))
       have z2 := k5.thaw (g := fb) (cs := recA iEnc M.N (fun i => ((free i : Nat) : Int)) FJ) (t := 3) (by repeat (first | with_reducible exact List.mem_cons_self | with_reducible apply List.mem_append_right | with_reducible apply List.mem_cons_of_mem))
       have hne : ob ≠ fb := (List.pairwise_cons.1 (k5.part (L' := ((ob, recA iEnc m (fun i => ((own i : Nat) : Int)) OJ, 3) :: (fb, recA iEnc M.N (fun i => ((free i : Nat) : Int)) FJ, 3) :: L1)) ((List.sublist_append_right _ _).trans ((List.sublist_cons_self _ _).trans (List.sublist_cons_self _ _)))).2.2.1).1 _ List.mem_cons_self
       have hne' : fb ≠ ob := fun e => hne e.symm
       have K9 := (k5.drew.setI (n := m) (g := ob) (i := rr) (f := (fun i => ((own i : Nat) : Int))) (t := 3) (J := OJ) ((free s : Nat) : Int) Hrm.out (.tail _ (.tail _ (Upd.pre (.head _) _)))).setI (n := M.N) (g := fb) (i := s) (f := (fun i => ((free i : Nat) : Int))) (t := 3) (J := FJ) ((own rr : Nat) : Int) Hs.out (.tail _ (.tail _ (Upd.pre (.tail _ (.head _)) _)))
       rw [putF_nat, putF_nat] at K9
       have KS := Lib.hid K9
       clear K9 k5 K HT HX2 H2 H3 H4 HQ HYV HF1
       go_region
       all_goals
        go_wp2_with fail
        have HE := Lib.hid (⟨b4, Y4, V4, rfl, H1, HALL, KS.out⟩ : XchP w0 L1 D M m q rr s db hb hc ob oc fb fc gv HJ OJ FJ b Y V own free (.returned (.tuple #[])) _)
        exact bodyPost_ret (v := .tuple #[]) (by simp [results, Tryz.results118, go_sem]) rfl HE.out
end Go.Proofs.YtdlcglndhhndpaaGreat
