/- Laws and walks; conditions stand in each theorem. -/
import Derived.Test.YtdlcglndhhndpaaGreatP10
import Derived.Test.YtdlcglndhhndpaaGreatP09
import Derived.Test.YtdlcglndhhndpaaGreatP08
set_option linter.unusedSimpArgs false
set_option linter.unusedVariables false
set_option maxHeartbeats 2000000
set_option maxRecDepth 100000
namespace Go.Proofs.YtdlcglndhhndpaaGreat
open Go.RowKit
theorem ZQ102 {p : Prop} (h : p := by
 first
  | (rw [if_neg (by decide)] at ho he
     subst he
     exact ⟨(fun e => by cases e), rfl⟩)
  | fail) : p := h
def MulS (f q : Rat) (y : Rw) (er : Int) : Prop := (er = 0 → isQ y (f * q)) ∧ (er != 0) = !mulK f q
def SubS (x z : Rat) (y : Rw) (er : Int) : Prop := (er = 0 → isQ y (x - z)) ∧ (er != 0) = !addK x (-z)
def DivS (x z : Rat) (y : Rw) (er : Int) : Prop := (er = 0 → isQ y (x / z)) ∧ (er != 0) = !divK x z
def AddS (x z : Rat) (y : Rw) (er : Int) : Prop := (er = 0 → isQ y (x + z)) ∧ (er != 0) = !addK x z
def FrT (w0 : World) (L : List Blk) (D : List Hl) (G : Rw → Int → Prop) (e : Ending) (W' : World) : Prop :=
 ∃ y er, e = Ending.returned (.tuple #[.agg #[.int .i64 y.s, .slice y.A y.n y.c, .int .i64 y.t, .slice y.B y.m y.d], .int .i64 er]) ∧ Hid (G y er) ∧ St w0 L (⟨rdP y.B y.m y.d y.k, rdS y.B y.m⟩ :: ⟨rdP y.A y.n y.c y.l, rdS y.A y.n⟩ :: D) W'
theorem mulS {f q : Rat} {y : Rw} {o : Option Rat} {er : Int} (ho : o = mulO1 f q) (he : er = mulE1 f q) (h : OptF y.s y.l y.t y.k o) : MulS f q y er := by
 unfold mulO1 at ho
 unfold mulE1 at he
 unfold MulS
 generalize hk : mulK f q = B at ho he
 cases B
 · exact ZQ102
 · rw [if_pos rfl] at ho he
   subst ho he
   exact ⟨fun _ => ⟨h, mulK_fits hk⟩, rfl⟩
theorem subS {x z : Rat} {y : Rw} {o : Option Rat} {er : Int} (ho : o = subO1 x (some z)) (he : er = subE1 x (some z)) (h : OptF y.s y.l y.t y.k o) : SubS x z y er := by
 rw [subO1_some] at ho
 rw [subE1_some] at he
 unfold SubS
 generalize hk : addK x (-z) = B at ho he
 cases B
 · exact ZQ102
 · rw [if_pos rfl] at ho he
   subst ho he
   exact ⟨fun _ => ⟨h, by rw [Rat.sub_eq_add_neg]; exact addK_fits hk⟩, rfl⟩
section
variable {w0 W : World} {L : List Blk} {D : List Hl}
theorem callMul {Y Z : Rw} {f q : Rat} (K : St w0 L D W) (hY : isQ Y f) (hZ : isQ Z q) (m1 : (⟨rdP Y.A Y.n Y.c Y.l, rdS Y.A Y.n⟩ : Hl) ∈ D) (m2 : (⟨rdP Y.B Y.m Y.d Y.k, rdS Y.B Y.m⟩ : Hl) ∈ D) (m3 : (⟨rdP Z.A Z.n Z.c Z.l, rdS Z.A Z.n⟩ : Hl) ∈ D) (m4 : (⟨rdP Z.B Z.m Z.d Z.k, rdS Z.B Z.m⟩ : Hl) ∈ D) :
 Calls Tryz.prog 52 #[.agg #[.int .i64 Y.s, .slice Y.A Y.n Y.c, .int .i64 Y.t, .slice Y.B Y.m Y.d], .agg #[.int .i64 Z.s, .slice Z.A Z.n Z.c, .int .i64 Z.t, .slice Z.B Z.m Z.d]] W (FrT w0 L D (MulS f q)) := by
 obtain ⟨o, ho⟩ : ∃ o, o = mulO1 f q := ⟨_, rfl⟩
 obtain ⟨er, her⟩ : ∃ er, er = mulE1 f q := ⟨_, rfl⟩
 have h := (qMul f q Y.s Y.t Z.s Z.t Y.A Y.B Z.A Z.B Y.n Y.c Y.m Y.d Z.n Z.c Z.m Z.d Y.l Y.k Z.l Z.k W (K.rd m1) (K.rd m2) (K.rd m3) (K.rd m4) hY.1 hY.2 hZ.1 hZ.2)
 rw [← ho, ← her] at h
 have HS := fun y : Rw => mulS (y := y) ho her
 clear ho her
 exact h.mono fun e W' ⟨s31, A31, n31, c31, l31, t31, B31, m31, d31, k31, he, ⟨hra, hrb⟩, hop, ⟨hfa, hfb⟩, hbb⟩ => ⟨⟨s31, A31, n31, c31, l31, t31, B31, m31, d31, k31⟩, er, he, Lib.hid (HS _ hop), K.retF hbb hra hrb hfa hfb⟩
theorem callSub {Y Z : Rw} {f q : Rat} (K : St w0 L D W) (hY : isQ Y f) (hZ : isQ Z q) (m1 : (⟨rdP Y.A Y.n Y.c Y.l, rdS Y.A Y.n⟩ : Hl) ∈ D) (m2 : (⟨rdP Y.B Y.m Y.d Y.k, rdS Y.B Y.m⟩ : Hl) ∈ D) (m3 : (⟨rdP Z.A Z.n Z.c Z.l, rdS Z.A Z.n⟩ : Hl) ∈ D) (m4 : (⟨rdP Z.B Z.m Z.d Z.k, rdS Z.B Z.m⟩ : Hl) ∈ D) :
 Calls Tryz.prog 42 #[.agg #[.int .i64 Y.s, .slice Y.A Y.n Y.c, .int .i64 Y.t, .slice Y.B Y.m Y.d], .agg #[.int .i64 Z.s, .slice Z.A Z.n Z.c, .int .i64 Z.t, .slice Z.B Z.m Z.d]] W (FrT w0 L D (SubS f q)) := by
 obtain ⟨o, ho⟩ : ∃ o, o = subO1 f (some q) := ⟨_, rfl⟩
 obtain ⟨er, her⟩ : ∃ er, er = subE1 f (some q) := ⟨_, rfl⟩
 have h := (qSub f Y.s Y.t Z.s Z.t Y.A Y.B Z.A Z.B Y.n Y.c Y.m Y.d Z.n Z.c Z.m Z.d Y.l Y.k Z.l Z.k W (K.rd m1) (K.rd m2) (K.rd m3) (K.rd m4) hY.1 hY.2 (some q) hZ.1 (fun z hz => by rw [← Option.some.inj hz]; exact hZ.2))
 rw [← ho, ← her] at h
 have HS := fun y : Rw => subS (y := y) ho her
 clear ho her
 exact h.mono fun e W' ⟨s31, A31, n31, c31, l31, t31, B31, m31, d31, k31, he, ⟨hra, hrb⟩, hop, ⟨hfa, hfb⟩, hbb⟩ => ⟨⟨s31, A31, n31, c31, l31, t31, B31, m31, d31, k31⟩, er, he, Lib.hid (HS _ hop), K.retF hbb hra hrb hfa hfb⟩
def FrG (w0 : World) (L : List Blk) (D : List Hl) (G : Rat → Prop) (e : Ending) (W' : World) : Prop :=
 ∃ (y : Rw) (z : Rat), e = Ending.returned (.agg #[.int .i64 y.s, .slice y.A y.n y.c, .int .i64 y.t, .slice y.B y.m y.d]) ∧ Hid (isQ y z ∧ G z) ∧ St w0 L (⟨rdP y.B y.m y.d y.k, rdS y.B y.m⟩ :: ⟨rdP y.A y.n y.c y.l, rdS y.A y.n⟩ :: D) W'
theorem callGot {L' : List Blk} {mb : Nat} {b b' : Bool} {R : List Value} {T : TypeId} {y : Rw} {er : Int} {q : Rat} (K : St w0 L (⟨rdP y.B y.m y.d y.k, rdS y.B y.m⟩ :: ⟨rdP y.A y.n y.c y.l, rdS y.A y.n⟩ :: D) W) (hq : er = 0 → isQ y q) (hb : b' = (b || er != 0)) (hU : Upd mb (Value.bool b :: R).toArray T (Value.bool b' :: R).toArray L L') :
 Calls Tryz.prog 119 #[.pointer (some ⟨mb, 0, none⟩), .agg #[.int .i64 y.s, .slice y.A y.n y.c, .int .i64 y.t, .slice y.B y.m y.d], .int .i64 er] W (FrG w0 L' D fun z => er = 0 → z = q) :=
 (got_any w0 W L L' D mb b b' R T er y.s y.t y.A y.B y.n y.c y.m y.d y.l y.k q K hq hb hU).mono fun e W' ⟨s, A, n, c, l, t, B, m, d, k, z, he, h1, h2, h3⟩ => ⟨⟨s, A, n, c, l, t, B, m, d, k⟩, z, he, Lib.hid ⟨h1, h2⟩, h3⟩
end
theorem less_any (w0 W : World) (L L' : List Blk) (D : List Hl) (mb : Nat) (b b' : Bool) (R : List Value) (T : TypeId) (X Y Z : Rw) (x f q : Rat)
 (K : St w0 L (⟨rdP X.B X.m X.d X.k, rdS X.B X.m⟩ :: ⟨rdP X.A X.n X.c X.l, rdS X.A X.n⟩ :: ⟨rdP Y.B Y.m Y.d Y.k, rdS Y.B Y.m⟩ :: ⟨rdP Y.A Y.n Y.c Y.l, rdS Y.A Y.n⟩ :: ⟨rdP Z.B Z.m Z.d Z.k, rdS Z.B Z.m⟩ :: ⟨rdP Z.A Z.n Z.c Z.l, rdS Z.A Z.n⟩ :: D) W) (hX : isQ X x) (hY : isQ Y f) (hZ : isQ Z q) (hb : b' = (b || !stepK x f q)) (hU : Upd mb (Value.bool b :: R).toArray T (Value.bool b' :: R).toArray L L') :
 Calls Tryz.prog 160 #[.pointer (some ⟨mb, 0, none⟩), .agg #[.int .i64 X.s, .slice X.A X.n X.c, .int .i64 X.t, .slice X.B X.m X.d], .agg #[.int .i64 Y.s, .slice Y.A Y.n Y.c, .int .i64 Y.t, .slice Y.B Y.m Y.d], .agg #[.int .i64 Z.s, .slice Z.A Z.n Z.c, .int .i64 Z.t, .slice Z.B Z.m Z.d]] W (FrG w0 L' D fun z => stepK x f q = true → z = x - f * q) := by
 obtain ⟨bm, hbm⟩ : ∃ bm, bm = (b || !mulK f q) := ⟨_, rfl⟩
 obtain ⟨L1, hU1, hU2⟩ := hU.mid (Value.bool bm :: R).toArray
 have HU1 := Lib.hid hU1
 have HU2 := Lib.hid hU2
 have HX := Lib.hid hX
 have HY := Lib.hid hY
 have HZ := Lib.hid hZ
 have HB1 := Lib.hid (fun (y : Rw) (er : Int) (h : MulS f q y er) => (by rw [h.2]; exact hbm : bm = (b || er != 0)))
 have HB2 := Lib.hid (fun (y : Rw) (er : Int) (z : Rat) (hz : mulK f q = true → z = f * q) (h : SubS x z y er) => (by
  rw [h.2, hb, hbm]
  unfold stepK
  generalize hk : mulK f q = B at hz ⊢
  cases B
  · simp
  · rw [hz rfl]
    simp : b' = (bm || er != 0)))
 have HV := Lib.hid (fun (y : Rw) (er : Int) (z v : Rat) (hz : mulK f q = true → z = f * q) (h : SubS x z y er) (hv : er = 0 → v = x - z) => (by
  intro hs
  unfold stepK at hs
  rw [Bool.and_eq_true] at hs
  have e1 := hz hs.1
  have e2 := h.2
  rw [e1, hs.2] at e2
  rw [hv (by simpa using e2), e1] : stepK x f q = true → v = x - f * q))
 clear hU hU1 hU2 hX hY hZ hb hbm
 have r := K.raw
 go_enter Tryz.func160, Tryz.ntmps160
 go_upto_region 1 with (first | (refine ZAL ?_; clear K r; (first | ((fail_if_success revert b0); intro W b0 K r) | ((fail_if_success revert b1); intro W b1 K r) | ((fail_if_success revert b2); intro W b2 K r) | ((fail_if_success revert b3); intro W b3 K r) | intro W b K r)) | (refine ZST ?_; clear K r; intro W K r))
 have HSA := Lib.hid (fun V L2 D2 (h : St w0 ((b3, #[.int .i64 0, .slice none 0 0, .int .i64 0, .slice none 0 0], 50) :: (b2, #[.int .i64 Z.s, .slice Z.A Z.n Z.c, .int .i64 Z.t, .slice Z.B Z.m Z.d], 50) :: (b1, #[.int .i64 Y.s, .slice Y.A Y.n Y.c, .int .i64 Y.t, .slice Y.B Y.m Y.d], 50) :: (b0, #[.int .i64 X.s, .slice X.A X.n X.c, .int .i64 X.t, .slice X.B X.m X.d], 50) :: L2) D2 V) => (show (V.cell? ⟨b0, 0, none⟩ = some (.int .i64 X.s) ∧ V.cell? ⟨b0, 1, none⟩ = some (.slice X.A X.n X.c) ∧ V.cell? ⟨b0, 2, none⟩ = some (.int .i64 X.t) ∧ V.cell? ⟨b0, 3, none⟩ = some (.slice X.B X.m X.d)) ∧ (V.cell? ⟨b1, 0, none⟩ = some (.int .i64 Y.s) ∧ V.cell? ⟨b1, 1, none⟩ = some (.slice Y.A Y.n Y.c) ∧ V.cell? ⟨b1, 2, none⟩ = some (.int .i64 Y.t) ∧ V.cell? ⟨b1, 3, none⟩ = some (.slice Y.B Y.m Y.d)) ∧ (V.cell? ⟨b2, 0, none⟩ = some (.int .i64 Z.s) ∧ V.cell? ⟨b2, 1, none⟩ = some (.slice Z.A Z.n Z.c) ∧ V.cell? ⟨b2, 2, none⟩ = some (.int .i64 Z.t) ∧ V.cell? ⟨b2, 3, none⟩ = some (.slice Z.B Z.m Z.d)) from by
  have r := h.rawS
  exact ⟨r.2.2.2.1, r.2.2.1, r.2.1⟩))
 have HMu1 := Lib.hid (fun V (h : St w0 ((b3, #[.int .i64 0, .slice none 0 0, .int .i64 0, .slice none 0 0], 50) :: (b2, #[.int .i64 Z.s, .slice Z.A Z.n Z.c, .int .i64 Z.t, .slice Z.B Z.m Z.d], 50) :: (b1, #[.int .i64 Y.s, .slice Y.A Y.n Y.c, .int .i64 Y.t, .slice Y.B Y.m Y.d], 50) :: (b0, #[.int .i64 X.s, .slice X.A X.n X.c, .int .i64 X.t, .slice X.B X.m X.d], 50) :: L) (⟨rdP X.B X.m X.d X.k, rdS X.B X.m⟩ :: ⟨rdP X.A X.n X.c X.l, rdS X.A X.n⟩ :: ⟨rdP Y.B Y.m Y.d Y.k, rdS Y.B Y.m⟩ :: ⟨rdP Y.A Y.n Y.c Y.l, rdS Y.A Y.n⟩ :: ⟨rdP Z.B Z.m Z.d Z.k, rdS Z.B Z.m⟩ :: ⟨rdP Z.A Z.n Z.c Z.l, rdS Z.A Z.n⟩ :: D) V) => callMul h HY.out HZ.out ZMB ZMB ZMB ZMB)
 have HNo1 := Lib.hid (fun V (y : Rw) (er : Int) (G : Hid (MulS f q y er)) (h : St w0 ((b3, #[.int .i64 0, .slice none 0 0, .int .i64 0, .slice none 0 0], 50) :: (b2, #[.int .i64 Z.s, .slice Z.A Z.n Z.c, .int .i64 Z.t, .slice Z.B Z.m Z.d], 50) :: (b1, #[.int .i64 Y.s, .slice Y.A Y.n Y.c, .int .i64 Y.t, .slice Y.B Y.m Y.d], 50) :: (b0, #[.int .i64 X.s, .slice X.A X.n X.c, .int .i64 X.t, .slice X.B X.m X.d], 50) :: L) (⟨rdP y.B y.m y.d y.k, rdS y.B y.m⟩ :: ⟨rdP y.A y.n y.c y.l, rdS y.A y.n⟩ :: (⟨rdP X.B X.m X.d X.k, rdS X.B X.m⟩ :: ⟨rdP X.A X.n X.c X.l, rdS X.A X.n⟩ :: ⟨rdP Y.B Y.m Y.d Y.k, rdS Y.B Y.m⟩ :: ⟨rdP Y.A Y.n Y.c Y.l, rdS Y.A Y.n⟩ :: ⟨rdP Z.B Z.m Z.d Z.k, rdS Z.B Z.m⟩ :: ⟨rdP Z.A Z.n Z.c Z.l, rdS Z.A Z.n⟩ :: D)) V) => callGot (L' := ((b3, #[.int .i64 0, .slice none 0 0, .int .i64 0, .slice none 0 0], 50) :: (b2, #[.int .i64 Z.s, .slice Z.A Z.n Z.c, .int .i64 Z.t, .slice Z.B Z.m Z.d], 50) :: (b1, #[.int .i64 Y.s, .slice Y.A Y.n Y.c, .int .i64 Y.t, .slice Y.B Y.m Y.d], 50) :: (b0, #[.int .i64 X.s, .slice X.A X.n X.c, .int .i64 X.t, .slice X.B X.m X.d], 50) :: L1)) h G.out.1 (HB1.out y er G.out) (.tail _ (.tail _ (.tail _ (.tail _ HU1.out)))))
 have HSu1 := Lib.hid (fun V (y : Rw) (z : Rat) (hz : isQ y z) (h : St w0 ((b3, #[.int .i64 0, .slice none 0 0, .int .i64 0, .slice none 0 0], 50) :: (b2, #[.int .i64 Z.s, .slice Z.A Z.n Z.c, .int .i64 Z.t, .slice Z.B Z.m Z.d], 50) :: (b1, #[.int .i64 Y.s, .slice Y.A Y.n Y.c, .int .i64 Y.t, .slice Y.B Y.m Y.d], 50) :: (b0, #[.int .i64 X.s, .slice X.A X.n X.c, .int .i64 X.t, .slice X.B X.m X.d], 50) :: L1) (⟨rdP y.B y.m y.d y.k, rdS y.B y.m⟩ :: ⟨rdP y.A y.n y.c y.l, rdS y.A y.n⟩ :: (⟨rdP X.B X.m X.d X.k, rdS X.B X.m⟩ :: ⟨rdP X.A X.n X.c X.l, rdS X.A X.n⟩ :: ⟨rdP Y.B Y.m Y.d Y.k, rdS Y.B Y.m⟩ :: ⟨rdP Y.A Y.n Y.c Y.l, rdS Y.A Y.n⟩ :: ⟨rdP Z.B Z.m Z.d Z.k, rdS Z.B Z.m⟩ :: ⟨rdP Z.A Z.n Z.c Z.l, rdS Z.A Z.n⟩ :: D)) V) => callSub h HX.out hz ZMB ZMB ZMB ZMB)
 have HNo2 := Lib.hid (fun V (y u : Rw) (er : Int) (z : Rat) (hz : mulK f q = true → z = f * q) (G : Hid (SubS x z u er)) (h : St w0 ((b3, #[.int .i64 0, .slice none 0 0, .int .i64 0, .slice none 0 0], 50) :: (b2, #[.int .i64 Z.s, .slice Z.A Z.n Z.c, .int .i64 Z.t, .slice Z.B Z.m Z.d], 50) :: (b1, #[.int .i64 Y.s, .slice Y.A Y.n Y.c, .int .i64 Y.t, .slice Y.B Y.m Y.d], 50) :: (b0, #[.int .i64 X.s, .slice X.A X.n X.c, .int .i64 X.t, .slice X.B X.m X.d], 50) :: L1) (⟨rdP u.B u.m u.d u.k, rdS u.B u.m⟩ :: ⟨rdP u.A u.n u.c u.l, rdS u.A u.n⟩ :: ⟨rdP y.B y.m y.d y.k, rdS y.B y.m⟩ :: ⟨rdP y.A y.n y.c y.l, rdS y.A y.n⟩ :: (⟨rdP X.B X.m X.d X.k, rdS X.B X.m⟩ :: ⟨rdP X.A X.n X.c X.l, rdS X.A X.n⟩ :: ⟨rdP Y.B Y.m Y.d Y.k, rdS Y.B Y.m⟩ :: ⟨rdP Y.A Y.n Y.c Y.l, rdS Y.A Y.n⟩ :: ⟨rdP Z.B Z.m Z.d Z.k, rdS Z.B Z.m⟩ :: ⟨rdP Z.A Z.n Z.c Z.l, rdS Z.A Z.n⟩ :: D)) V) => callGot (L' := ((b3, #[.int .i64 0, .slice none 0 0, .int .i64 0, .slice none 0 0], 50) :: (b2, #[.int .i64 Z.s, .slice Z.A Z.n Z.c, .int .i64 Z.t, .slice Z.B Z.m Z.d], 50) :: (b1, #[.int .i64 Y.s, .slice Y.A Y.n Y.c, .int .i64 Y.t, .slice Y.B Y.m Y.d], 50) :: (b0, #[.int .i64 X.s, .slice X.A X.n X.c, .int .i64 X.t, .slice X.B X.m X.d], 50) :: L')) h G.out.1 (HB2.out u er z hz G.out) (.tail _ (.tail _ (.tail _ (.tail _ HU2.out)))))
 have K0 := K.drew
 have s0 := HSA.out _ _ _ K0
 clear r K HB1 HB2 HU1 HU2
 refine wp_region_T 13 (fun V => (V.cell? ⟨b0, 0, none⟩ = some (.int .i64 X.s) ∧ V.cell? ⟨b0, 1, none⟩ = some (.slice X.A X.n X.c) ∧ V.cell? ⟨b0, 2, none⟩ = some (.int .i64 X.t) ∧ V.cell? ⟨b0, 3, none⟩ = some (.slice X.B X.m X.d)) ∧ (V.cell? ⟨b1, 0, none⟩ = some (.int .i64 Y.s) ∧ V.cell? ⟨b1, 1, none⟩ = some (.slice Y.A Y.n Y.c) ∧ V.cell? ⟨b1, 2, none⟩ = some (.int .i64 Y.t) ∧ V.cell? ⟨b1, 3, none⟩ = some (.slice Y.B Y.m Y.d)) ∧ (V.cell? ⟨b2, 0, none⟩ = some (.int .i64 Z.s) ∧ V.cell? ⟨b2, 1, none⟩ = some (.slice Z.A Z.n Z.c) ∧ V.cell? ⟨b2, 2, none⟩ = some (.int .i64 Z.t) ∧ V.cell? ⟨b2, 3, none⟩ = some (.slice Z.B Z.m Z.d))) (by kernel_rfl) s0 (fun hSh => ?_)
 clear s0
 refine wpAnyT.tk 0 rfl ?_
 refine wpAnyT.tk 1 rfl ?_
 refine wpAnyT.tk 2 rfl ?_
 refine wpAnyT.tk 3 rfl ?_
 refine wpAnyT.tk 4 rfl ?_
 refine wpAnyT.on 5 rfl fun KK hKK => ?_
 go_simp
 go_at_call 52; refine (HMu1.out _ K0).mono ?_; rintro e w5 ⟨y, em, rfl, gy, k5⟩
 go_wp2_with fail
 refine hKK.out _ _ ?_ (fun hSh => ?_)
 · exact HSA.out _ _ _ (by assumption)
 clear hKK KK
 refine ZPT ?_
 refine wpAnyT.tk 6 rfl ?_
 refine wpAnyT.tk 7 rfl ?_
 refine wpAnyT.on 8 rfl fun KK hKK => ?_
 go_simp
 go_at_call 119; refine (HNo1.out _ _ _ gy k5).mono ?_; rintro e w6 ⟨y2, z2, rfl, g2, k6⟩
 go_wp2_with fail
 refine hKK.out _ _ ?_ (fun hSh => ?_)
 · exact HSA.out _ _ _ (by assumption)
 clear hKK KK
 refine ZPT ?_
 have hm2 := Lib.hid (fun hk : mulK f q = true => g2.out.2 (by
  have := gy.out.2
  rw [hk] at this
  simpa using this))
 refine wpAnyT.on 9 rfl fun KK hKK => ?_
 go_simp
 go_at_call 42; refine (HSu1.out _ _ _ g2.out.1 k6).mono ?_; rintro e w7 ⟨y3, es, rfl, g3, k7⟩
 go_wp2_with fail
 refine hKK.out _ _ ?_ (fun hSh => ?_)
 · exact HSA.out _ _ _ (by assumption)
 clear hKK KK
 refine ZPT ?_
 refine wpAnyT.tk 10 rfl ?_
 refine wpAnyT.tk 11 rfl ?_
 refine wpAnyT.on 12 rfl fun KK hKK => ?_
 go_simp
 go_at_call 119; refine (HNo2.out _ _ _ _ _ hm2.out g3 k7).mono ?_; rintro e w8 ⟨y4, z4, rfl, g4, k8⟩
 go_wp2_with fail
 refine hKK.out _ _ ?_ (fun hSh => ?_)
 · exact HSA.out _ _ _ (by assumption)
 clear hKK KK
 refine ZPT ?_
 refine wpAnyT.last rfl (by kernel_rfl) ?_
 have HQ := Lib.hid (⟨g4.out.1, HV.out _ _ _ _ hm2.out g3.out g4.out.2⟩ : isQ y4 z4 ∧ (stepK x f q = true → z4 = x - f * q))
 clear k7 k6 k5 K0 HSA HMu1 HSu1 HNo1 HNo2 hSh gy g2 hm2 g3 g4 HV HX HY HZ
 refine k8.storeA (b := b3) (cs := #[.int .i64 0, .slice none 0 0, .int .i64 0, .slice none 0 0]) (cs' := #[.int .i64 y4.s, .slice y4.A y4.n y4.c, .int .i64 y4.t, .slice y4.B y4.m y4.d]) (t := 50) rfl rfl _ _ _ rfl rfl rfl ZUA frac_size rfl rfl rfl ?_
 intro W8 K
 clear k8
 have r := K.rawS
 have HE := Lib.hid (⟨y4, z4, rfl, HQ, (K.part (List.sublist_append_right [_, _, _, _] L')).lessS (by repeat (first | with_reducible exact List.Sublist.refl _ | with_reducible apply List.Sublist.cons_cons | with_reducible apply List.Sublist.cons))⟩ : FrG w0 L' D (fun z => stepK x f q = true → z = x - f * q) (.returned (.agg #[.int .i64 y4.s, .slice y4.A y4.n y4.c, .int .i64 y4.t, .slice y4.B y4.m y4.d])) W8)
 clear HQ
 go_wp2_with fail
 exact bodyPost_ret (v := .agg #[.int .i64 y4.s, .slice y4.A y4.n y4.c, .int .i64 y4.t, .slice y4.B y4.m y4.d]) (by simp [results, Tryz.results160, go_sem, r]) rfl HE.out
theorem rdF_raw {w : World} {B : Nat} {A : Option Addr} {n cap : Nat} {l : List Fv} (h : RdF w B A n cap l) : ∃ v : Nat → Rw, Rd 4 (flat Rw.cs) w B A n cap (ofF n v) ∧ (∀ i, i < n → RdI w B (v i).A (v i).n (v i).c (v i).l ∧ RdI w B (v i).B (v i).m (v i).d (v i).k) ∧ ∀ i, i < n → l[i]? = some (v i).fv := by
 by_cases hn : n = 0
 · subst hn
   exact ⟨fun _ => Rw.zero, ⟨rfl, h.2.1, h.2.2.1, fun h => absurd h (by omega)⟩, fun i hi => absurd hi (by omega), fun i hi => absurd hi (by omega)⟩
 · obtain ⟨b, off, rfl, hb, hc⟩ := h.2.2.2 (by omega)
   have hl := h.1
   have ex : ∀ k, k < n → ∃ x : Rw, l[k]? = some x.fv ∧ (∀ (j : Nat) u, x.cs[j]? = some u → w.cell? ⟨b, off + k * 4 + j, none⟩ = some u) ∧ RdI w B x.A x.n x.c x.l ∧ RdI w B x.B x.m x.d x.k := fun k hk => by
    obtain ⟨cs, ⟨A1, n1, c1, A2, n2, c2, rfl, h1, h2⟩, _, hj⟩ := hc k (by omega)
    exact ⟨⟨l[k].s, A1, n1, c1, l[k].l, l[k].t, A2, n2, c2, l[k].m⟩, by rw [List.getElem?_eq_getElem (by omega)]; rfl, hj, h1, h2⟩
   obtain ⟨v, hv⟩ : ∃ v : Nat → Rw, ∀ k, (hk : k < n) → v k = Classical.choose (ex k hk) := ⟨fun k => if hk : k < n then Classical.choose (ex k hk) else Rw.zero, fun k hk => dif_pos hk⟩
   have hs : ∀ k, k < n → l[k]? = some (v k).fv ∧ (∀ (j : Nat) u, (v k).cs[j]? = some u → w.cell? ⟨b, off + k * 4 + j, none⟩ = some u) ∧ RdI w B (v k).A (v k).n (v k).c (v k).l ∧ RdI w B (v k).B (v k).m (v k).d (v k).k := fun k hk => by
    rw [hv k hk]
    exact Classical.choose_spec (ex k hk)
   refine ⟨v, ⟨ofF_len, h.2.1, h.2.2.1, fun _ => ⟨b, off, rfl, hb, fun k hk => ?_⟩⟩, fun i hi => (hs i hi).2.2, fun i hi => (hs i hi).1⟩
   rw [ofF_len] at hk
   refine ⟨(v k).cs, ?_, rfl, (hs k hk).2.1⟩
   have e : (ofF n v)[k]'(by rw [ofF_len]; exact hk) = v k := by
    have := ofF_get (f := v) hk
    exact ZQ38
   rw [e]
   rfl
theorem frac_parts : ∃ i z, Tryz.prog.info? 50 = some i ∧ i.zero = some z ∧ i.size = 4 ∧ i.bytes = 64 ∧ z.cells.size = 4 := by
 obtain ⟨i, h1, h2⟩ := Option.map_eq_some_iff.1 frac_made
 simp only [Prod.mk.injEq] at h2
 obtain ⟨h2, h3, h4⟩ := h2
 obtain ⟨z, h5, h6⟩ := Option.map_eq_some_iff.1 h2
 exact ⟨i, z, h1, h5, h3, h4, by rw [h6]; rfl⟩
theorem lclone_own (A : Option Addr) (n cap : Nat) (v : Nat → Rw) (w0 w : World) (L : List Blk) (D : List Hl) (K : St w0 L D w) (hl : Rd 4 (flat Rw.cs) w w.heap.size A n cap (ofF n v)) (hn2 : n ≤ 1000) :
 Calls Tryz.prog 84 #[.slice A n cap] w fun e w' => ∃ val X, e = .returned val ∧ OwL 4 Rw.cs 50 val (ofF n v) X ∧ St w0 (X ++ L) D w' := by
 obtain ⟨i0, z0, hi0, hz0, hz1, hz2, hz3⟩ := frac_parts
 have ho0 : Own 4 Rw.cs (w.alloc (.cells #[] 50)) w.heap.size 50 (.slice (some ⟨w.heap.size, 0, none⟩) 0 0) ([] : List Rw) := Own.lit rw_sized (Nat.le_refl _) [] #[] rfl rfl (by omega)
 have hb0 := (Below.refl w.heap.size w).alloc (Nat.le_refl _) (.cells #[] 50)
 have HK := Lib.hid K
 cases A with
 | none =>
  have hn0 : n = 0 := by
   rcases Nat.eq_zero_or_pos n with h | h
   · exact h
   · obtain ⟨b, off, h, _⟩ := hl.2.2.2 h; cases h
  subst hn0
  have hnil := fun w => run_eql_slice_nil (P := Tryz.prog) w 23 50 none 0 cap Tryz.underlying23
  clear ho0 hb0 hl K
  go_enter Tryz.func84, Tryz.ntmps84
  go_wp2
  go_ret
  exact ⟨_, [], rfl, OwL.nil, HK.out⟩
 | some a =>
  have hnil := fun w => run_eql_slice_nil (P := Tryz.prog) w 23 50 (some a) n cap Tryz.underlying23
  have hk0 := (Kept.refl (fun b => (Value.slice none 0 0).ownBlock = some b) w).alloc (.cells #[] 50)
  clear K
  go_enter Tryz.func84, Tryz.ntmps84
  go_wp2_with (at_builtin
               refine wpList_app _ rw_sized rfl _ _ 23 rfl w.heap.size 50 i0 _ 64 Tryz.underlying23 hi0 hz0 hz1 hz2 hz3 _ [] rfl ho0 _ _ n cap (ofF n v) rfl (hl.up (flat_lasts _) hb0) (by simp only [maxLen, List.length_nil]; omega) (by simp only [List.length_nil]; omega) (by simp) ?_
               intro v4 w4 ho4 hg4 hx4
               have hb4 : Below w.heap.size w w4 := Own.grow ho0 (Nat.le_refl _) hb0 (by simp) hg4)
  go_ret
  rw [List.nil_append] at ho4
  have hk4 : Kept (fun b => (Value.slice none 0 0).ownBlock = some b) w w4 := ⟨hb4.os, hb4.tape, hb4.output, hb4.size, fun i hi _ => hb4.block i hi⟩
  obtain ⟨X', hX, hK'⟩ := OwL.of (X := []) rw_sized OwL.nil HK.out (ho4.mono HK.out.1.size) hk4 (fun g hg => Or.inr (by
   rcases ho4.2 with ⟨rfl, -⟩ | ⟨g', cap', cur, rfl, hg', -⟩
   · cases hg
   · have e : some g' = some g := hg
     injection e with e
     rw [← e]; exact hg'))
  exact ⟨_, X', rfl, hX, hK'⟩
def fxP (A : Option Addr) (n cap : Nat) (v : Nat → Rw) : World → Prop := fun W => Rd 4 (flat Rw.cs) W W.heap.size A n cap (ofF n v) ∧ rwP n v W
def fxS (A : Option Addr) (n : Nat) (v : Nat → Rw) : Nat → Prop := fun b => rdS A n b ∨ rwS n v b
theorem Rd.only {α : Type} {sz : Nat} {enc : α → List Value} {W W' : World} {A : Option Addr} {n cap : Nat} {l : List α} (h : Rd sz (flat enc) W W.heap.size A n cap l) (hs : W.heap.size ≤ W'.heap.size) (hb : ∀ b, rdS A n b → W'.heap[b]? = W.heap[b]?) : Rd sz (flat enc) W' W'.heap.size A n cap l := by
 refine ⟨h.1, h.2.1, h.2.2.1, fun hn => ?_⟩
 obtain ⟨b', off, e, hlt, hc⟩ := h.2.2.2 hn
 refine ⟨b', off, e, Nat.lt_of_lt_of_le hlt hs, fun k hk => ?_⟩
 obtain ⟨cs, hr, hlen, hj⟩ := hc k hk
 exact ⟨cs, hr, hlen, fun j u hu => (cell_of (p := ⟨b', off + k * sz + j, none⟩) (hb b' ⟨hn, _, e, rfl⟩)).trans (hj j u hu)⟩
theorem fx_keep {A : Option Addr} {n cap : Nat} {v : Nat → Rw} {W W' : World} (h : fxP A n cap v W) (hs : W.heap.size ≤ W'.heap.size) (hb : ∀ b, fxS A n v b → W'.heap[b]? = W.heap[b]?) : fxP A n cap v W' :=
 ⟨h.1.only hs fun b hS => hb b (Or.inl hS), fun i hi => ⟨rdP_keep (h.2 i hi).1 hs fun b hS => hb b (Or.inr ⟨i, hi, Or.inl hS⟩), rdP_keep (h.2 i hi).2 hs fun b hS => hb b (Or.inr ⟨i, hi, Or.inr hS⟩)⟩⟩
theorem Rd.sup {α : Type} {sz : Nat} {R : Enc α} {W : World} {B : Nat} {A : Option Addr} {n cap : Nat} {l : List α} (h : Rd sz R W B A n cap l) {b : Nat} (hS : rdS A n b) : b < B := by
 obtain ⟨hn, a, rfl, rfl⟩ := hS
 obtain ⟨b', off, e, hlt, -⟩ := h.2.2.2 hn
 rw [Option.some.inj e]
 exact hlt
theorem fx_sup {A : Option Addr} {n cap : Nat} {v : Nat → Rw} {W : World} (h : fxP A n cap v W) {b : Nat} (hS : fxS A n v b) : b < W.heap.size := by
 rcases hS with hS | ⟨i, hi, hS | hS⟩
 · exact h.1.sup hS
 · exact Rd.sup (h.2 i hi).1 hS
 · exact Rd.sup (h.2 i hi).2 hS
section
variable {w0 w W : World} {L : List Blk} {D : List Hl} {A : Option Addr} {n cap i : Nat} {v : Nat → Rw}
theorem St.fxAdd (K : St w0 L D W) (h : fxP A n cap v W) (hd : ∀ b, fxS A n v b → ∀ p ∈ L, p.1 ≠ b) : St w0 L (⟨fxP A n cap v, fxS A n v⟩ :: D) W :=
 K.add ⟨h, fun b hS => ⟨fx_sup h hS, hd b hS⟩, fun W' h1 h2 => fx_keep h h1 h2⟩
theorem St.fxOld (K : St w L D W) {l : List Fv} (h : RdF w w.heap.size A n cap l) : ∃ v : Nat → Rw, (∀ i, i < n → l[i]? = some (v i).fv) ∧ St w L (⟨fxP A n cap v, fxS A n v⟩ :: D) W := by
 obtain ⟨v, h1, h2, h3⟩ := rdF_raw h
 have h0 : fxP A n cap v w := ⟨h1, fun i hi => h2 i hi⟩
 have hs : ∀ b, fxS A n v b → b < w.heap.size := fun b hS => fx_sup h0 hS
 refine ⟨v, h3, K.fxAdd (fx_keep h0 K.1.size fun b hS => K.1.block b (hs b hS)) fun b hS p hp e => ?_⟩
 have g1 := (K.2.1 p hp).1
 have g2 := hs b hS
 omega
theorem St.fxRd (K : St w0 L D W) (hm : (⟨fxP A n cap v, fxS A n v⟩ : Hl) ∈ D) (hi : i < n) : St w0 L (⟨rdP (v i).B (v i).m (v i).d (v i).k, rdS (v i).B (v i).m⟩ :: ⟨rdP (v i).A (v i).n (v i).c (v i).l, rdS (v i).A (v i).n⟩ :: D) W := by
 have h := K.okAt hm
 have h1 : (⟨rdP (v i).A (v i).n (v i).c (v i).l, rdS (v i).A (v i).n⟩ : Hl).ok L W := ⟨(h.1.2 i hi).1, fun b hS => h.2.1 b (Or.inr ⟨i, hi, Or.inl hS⟩), fun W' g1 g2 => rdP_keep (h.1.2 i hi).1 g1 g2⟩
 have h2 : (⟨rdP (v i).B (v i).m (v i).d (v i).k, rdS (v i).B (v i).m⟩ : Hl).ok L W := ⟨(h.1.2 i hi).2, fun b hS => h.2.1 b (Or.inr ⟨i, hi, Or.inr hS⟩), fun W' g1 g2 => rdP_keep (h.1.2 i hi).2 g1 g2⟩
 exact (K.add h1).add h2
theorem St.fxAt (K : St w0 L D W) (hm : (⟨fxP A n cap v, fxS A n v⟩ : Hl) ∈ D) (hn : 0 < n) : ∃ b off, A = some ⟨b, off, none⟩ := by
 obtain ⟨b, off, e, -⟩ := (K.okAt hm).1.1.2.2.2 hn
 exact ⟨b, off, e⟩
theorem St.fxCell {b off : Nat} (K : St w0 L D W) (hm : (⟨fxP (some ⟨b, off, none⟩) n cap v, fxS (some ⟨b, off, none⟩) n v⟩ : Hl) ∈ D) (hi : i < n) :
 W.cell? ⟨b, off + i * 4, none⟩ = some (.int .i64 (v i).s) ∧ W.cell? ⟨b, off + i * 4 + 1, none⟩ = some (.slice (v i).A (v i).n (v i).c) ∧ W.cell? ⟨b, off + i * 4 + 2, none⟩ = some (.int .i64 (v i).t) ∧ W.cell? ⟨b, off + i * 4 + 3, none⟩ = some (.slice (v i).B (v i).m (v i).d) := by
 obtain ⟨b', off', e, hlt, hc⟩ := (K.okAt hm).1.1.2.2.2 (by omega)
 cases e
 obtain ⟨cs, hr, hlen, hj⟩ := hc i (by rw [ofF_len]; exact hi)
 have e2 : (ofF n v)[i]'(by rw [ofF_len]; exact hi) = v i := by
  have := ofF_get (f := v) hi
  rw [List.getElem?_eq_getElem (by rw [ofF_len]; exact hi)] at this
  exact Option.some.inj this
 rw [e2] at hr
 have hr : cs = (v i).cs := hr
 subst hr
 exact ⟨hj 0 _ rfl, hj 1 _ rfl, hj 2 _ rfl, hj 3 _ rfl⟩
theorem St.fxCap (K : St w0 L D W) (hm : (⟨fxP A n cap v, fxS A n v⟩ : Hl) ∈ D) : n ≤ cap ∧ cap ≤ 9223372036854775807 := ⟨(K.okAt hm).1.1.2.1, (K.okAt hm).1.1.2.2.1.1⟩
end
theorem addS {x z : Rat} {y : Rw} {o : Option Rat} {er : Int} (ho : o = binO true (addK x z) (x + z)) (he : er = binE true (addK x z)) (h : OptF y.s y.l y.t y.k o) : AddS x z y er := by
 unfold binO at ho
 unfold binE at he
 unfold AddS
 generalize hk : addK x z = B at ho he
 cases B
 · have e1 : er = 6 := by simpa using he
   subst e1
   exact ⟨(fun e => by cases e), rfl⟩
 · have e1 : er = 0 := by simpa using he
   have e2 : o = some (x + z) := by simpa using ho
   subst e1 e2
   exact ⟨fun _ => ⟨h, addK_fits hk⟩, rfl⟩
theorem divS {x z : Rat} {y : Rw} {o : Option Rat} {er : Int} (h0 : z ≠ 0) (ho : o = divO1 x z) (he : er = divE1 x z) (h : OptF y.s y.l y.t y.k o) : DivS x z y er := by
 unfold divO1 at ho
 unfold divE1 at he
 unfold DivS
 generalize hk : divK x z = B at ho he
 cases B
 · exact ZQ102
 · rw [if_pos rfl] at ho he
   subst ho he
   exact ⟨fun _ => ⟨h, divK_fits hk h0⟩, rfl⟩
section
variable {w0 W : World} {L : List Blk} {D : List Hl}
theorem callAdd {Y Z : Rw} {f q : Rat} (K : St w0 L D W) (hY : isQ Y f) (hZ : isQ Z q) (m1 : (⟨rdP Y.A Y.n Y.c Y.l, rdS Y.A Y.n⟩ : Hl) ∈ D) (m2 : (⟨rdP Y.B Y.m Y.d Y.k, rdS Y.B Y.m⟩ : Hl) ∈ D) (m3 : (⟨rdP Z.A Z.n Z.c Z.l, rdS Z.A Z.n⟩ : Hl) ∈ D) (m4 : (⟨rdP Z.B Z.m Z.d Z.k, rdS Z.B Z.m⟩ : Hl) ∈ D) :
 Calls Tryz.prog 53 #[.agg #[.int .i64 Y.s, .slice Y.A Y.n Y.c, .int .i64 Y.t, .slice Y.B Y.m Y.d], .agg #[.int .i64 Z.s, .slice Z.A Z.n Z.c, .int .i64 Z.t, .slice Z.B Z.m Z.d]] W (FrT w0 L D (AddS f q)) := by
 obtain ⟨o, ho⟩ : ∃ o, o = binO true (addK f q) (f + q) := ⟨_, rfl⟩
 obtain ⟨er, her⟩ : ∃ er, er = binE true (addK f q) := ⟨_, rfl⟩
 have h := fAdd_any Y.s Y.t Z.s Z.t Y.A Y.B Z.A Z.B Y.n Y.c Y.m Y.d Z.n Z.c Z.m Z.d Y.l Y.k Z.l Z.k W (K.rd m1) (K.rd m2) (K.rd m3) (K.rd m4)
 rw [hY.1.right hY.2, hZ.1.right hZ.2, hY.1.rat, hZ.1.rat, Bool.and_true, ← ho, ← her] at h
 have HS := fun y : Rw => addS (y := y) ho her
 clear ho her
 exact h.mono fun e W' ⟨s31, A31, n31, c31, l31, t31, B31, m31, d31, k31, he, ⟨hra, hrb⟩, hop, ⟨hfa, hfb⟩, hbb⟩ => ⟨⟨s31, A31, n31, c31, l31, t31, B31, m31, d31, k31⟩, er, he, Lib.hid (HS _ hop), K.retF hbb hra hrb hfa hfb⟩
theorem callDiv {Y Z : Rw} {f q : Rat} (K : St w0 L D W) (hY : isQ Y f) (hZ : isQ Z q) (h0 : q ≠ 0) (m1 : (⟨rdP Y.A Y.n Y.c Y.l, rdS Y.A Y.n⟩ : Hl) ∈ D) (m2 : (⟨rdP Y.B Y.m Y.d Y.k, rdS Y.B Y.m⟩ : Hl) ∈ D) (m3 : (⟨rdP Z.A Z.n Z.c Z.l, rdS Z.A Z.n⟩ : Hl) ∈ D) (m4 : (⟨rdP Z.B Z.m Z.d Z.k, rdS Z.B Z.m⟩ : Hl) ∈ D) :
 Calls Tryz.prog 128 #[.agg #[.int .i64 Y.s, .slice Y.A Y.n Y.c, .int .i64 Y.t, .slice Y.B Y.m Y.d], .agg #[.int .i64 Z.s, .slice Z.A Z.n Z.c, .int .i64 Z.t, .slice Z.B Z.m Z.d]] W (FrT w0 L D (DivS f q)) := by
 obtain ⟨o, ho⟩ : ∃ o, o = divO1 f q := ⟨_, rfl⟩
 obtain ⟨er, her⟩ : ∃ er, er = divE1 f q := ⟨_, rfl⟩
 have h := qDiv f q Y.s Y.t Z.s Z.t Y.A Y.B Z.A Z.B Y.n Y.c Y.m Y.d Z.n Z.c Z.m Z.d Y.l Y.k Z.l Z.k W (K.rd m1) (K.rd m2) (K.rd m3) (K.rd m4) hY.1 hY.2 hZ.1 hZ.2 h0
 rw [← ho, ← her] at h
 have HS := fun y : Rw => divS (y := y) h0 ho her
 clear ho her
 exact h.mono fun e W' ⟨s31, A31, n31, c31, l31, t31, B31, m31, d31, k31, he, ⟨hra, hrb⟩, hop, ⟨hfa, hfb⟩, hbb⟩ => ⟨⟨s31, A31, n31, c31, l31, t31, B31, m31, d31, k31⟩, er, he, Lib.hid (HS _ hop), K.retF hbb hra hrb hfa hfb⟩
end
def prdK (x y : Nat → Rat) : Nat → Bool
 | 0 => true
 | n + 1 => prdK x y n && (mulK (x n) (y n) && addK (smQ (fun i => x i * y i) n) (x n * y n))
theorem prdK_succ (x y : Nat → Rat) (n : Nat) : prdK x y (n + 1) = (prdK x y n && (mulK (x n) (y n) && addK (smQ (fun i => x i * y i) n) (x n * y n))) := by rw [prdK]
theorem prdK_pre {x y : Nat → Rat} : ∀ {n k : Nat}, prdK x y n = true → k ≤ n → prdK x y k = true
 | 0, k, h, hk => by rw [show k = 0 by omega]; exact h
 | n + 1, k, h, hk => by
  by_cases e : k = n + 1
  · rw [e]; exact h
  · rw [prdK_succ, Bool.and_eq_true] at h
    exact prdK_pre h.1 (by omega)
theorem prd_step {x y : Nat → Rat} {k : Nat} {b b1 b2 b3 p : Bool} {z m v : Rat} (hp : p = prdK x y k) (h1 : b1 = (b || !p)) (h2 : b2 = (b1 || !mulK (x k) (y k))) (h3 : b3 = (b2 || !addK z m)) (hz : p = true → z = smQ (fun i => x i * y i) k) (hm : mulK (x k) (y k) = true → m = x k * y k) (hv : addK z m = true → v = z + m) :
 b3 = (b || !prdK x y (k + 1)) ∧ (prdK x y (k + 1) = true → v = smQ (fun i => x i * y i) (k + 1)) := by
 rw [prdK_succ, ← hp, smQ]
 subst h1 h2 h3
 generalize hM : mulK (x k) (y k) = M at hm ⊢
 cases p
 · simp
 · rw [hz rfl] at hv ⊢
   cases M
   · simp
   · rw [hm rfl] at hv ⊢
     generalize addK (smQ (fun i => x i * y i) k) (x k * y k) = C at hv ⊢
     cases C
     · simp
     · exact ⟨by simp, fun _ => hv rfl⟩
end Go.Proofs.YtdlcglndhhndpaaGreat
