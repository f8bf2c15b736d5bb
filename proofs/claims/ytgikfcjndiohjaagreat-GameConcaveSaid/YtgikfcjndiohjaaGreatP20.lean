/- Laws and walks; conditions stand in each theorem. -/
import Derived.Test.YtgikfcjndiohjaaGreatP19
import Derived.Test.YtgikfcjndiohjaaGreatP16
set_option linter.unusedSimpArgs false
set_option linter.unusedVariables false
set_option maxHeartbeats 4000000
set_option maxRecDepth 100000
namespace Go.Proofs.YtgikfcjndiohjaaGreat
open Go.RowKit
def MulS (f q:Rat) (y:Rw) (er:Int):Prop:=(er=0→isQ y (f*q))∧(er !=0)= !mulK f q
def SubS (x z:Rat) (y:Rw) (er:Int):Prop:=(er=0→isQ y (x-z))∧(er !=0)= !addK x (-z)
def DivS (x z:Rat) (y:Rw) (er:Int):Prop:=(er=0→isQ y (x / z))∧(er !=0)= !divK x z
def AddS (x z:Rat) (y:Rw) (er:Int):Prop:=(er=0→isQ y (x+z))∧(er !=0)= !addK x z
def FrT (w0:World) (L:List Blk) (D:List Hl) (G:Rw→Int→Prop) (e:Ending) (W':World):Prop :=
 ∃y er,e=Ending.returned (.tuple #[.agg #[.int .i64 y.s,.slice y.A y.n y.c,.int .i64 y.t,.slice y.B y.m y.d],.int .i64 er])∧Hid (G y er)∧St w0 L (⟨rdP y.B y.m y.d y.k,rdS y.B y.m⟩::⟨rdP y.A y.n y.c y.l,rdS y.A y.n⟩::D) W'
theorem mulS {f q:Rat} {y:Rw} {o:Option Rat} {er:Int} (ho:o=jfQ f q) (he:er=jfP f q) (h:OptF y.s y.l y.t y.k o):MulS f q y er:=by
 unfold jfQ at ho
 unfold jfP at he
 unfold MulS
 generalize hk:mulK f q=B at ho he
 cases B
 ·exact jny
 ·rw [if_pos rfl] at ho he
  subst ho he
  exact ⟨fun _=>⟨h,jjP hk⟩,rfl⟩
theorem subS {x z:Rat} {y:Rw} {o:Option Rat} {er:Int} (ho:o=jhF x (some z)) (he:er=jhD x (some z)) (h:OptF y.s y.l y.t y.k o):SubS x z y er:=by
 rw [jhG] at ho
 rw [jhE] at he
 unfold SubS
 generalize hk:addK x (-z)=B at ho he
 cases B
 ·exact jny
 ·rw [if_pos rfl] at ho he
  subst ho he
  exact ⟨fun _=>⟨h,by rw [Rat.sub_eq_add_neg];exact jft hk⟩,rfl⟩
section
variable {w0 W:World} {L:List Blk} {D:List Hl}
theorem jhW {Y Z:Rw} {f q:Rat} (K:St w0 L D W) (hY:isQ Y f) (hZ:isQ Z q) (m1:(⟨rdP Y.A Y.n Y.c Y.l,rdS Y.A Y.n⟩:Hl)∈D) (m2:(⟨rdP Y.B Y.m Y.d Y.k,rdS Y.B Y.m⟩:Hl)∈D) (m3:(⟨rdP Z.A Z.n Z.c Z.l,rdS Z.A Z.n⟩:Hl)∈D) (m4:(⟨rdP Z.B Z.m Z.d Z.k,rdS Z.B Z.m⟩:Hl)∈D) :
 Calls Tryz.prog 123 #[.agg #[.int .i64 Y.s,.slice Y.A Y.n Y.c,.int .i64 Y.t,.slice Y.B Y.m Y.d],.agg #[.int .i64 Z.s,.slice Z.A Z.n Z.c,.int .i64 Z.t,.slice Z.B Z.m Z.d]] W (FrT w0 L D (MulS f q)):=by
 obtain ⟨o,ho⟩:∃o,o=jfQ f q:=⟨_,rfl⟩
 obtain ⟨er,her⟩:∃er,er=jfP f q:=⟨_,rfl⟩
 have h:=(qMul f q Y.s Y.t Z.s Z.t Y.A Y.B Z.A Z.B Y.n Y.c Y.m Y.d Z.n Z.c Z.m Z.d Y.l Y.k Z.l Z.k W (K.rd m1) (K.rd m2) (K.rd m3) (K.rd m4) hY.1 hY.2 hZ.1 hZ.2)
 rw [←ho,←her] at h
 have HS:=fun y:Rw=>mulS (y:=y) ho her
 clear ho her
 exact h.mono fun e W' ⟨s31,A31,n31,c31,l31,t31,B31,m31,d31,k31,he,⟨hra,hrb⟩,hop,⟨hfa,hfb⟩,hbb⟩=>⟨⟨s31,A31,n31,c31,l31,t31,B31,m31,d31,k31⟩,er,he,jpk (HS _ hop),K.retF hbb hra hrb hfa hfb⟩
theorem jcY {Y Z:Rw} {f q:Rat} (K:St w0 L D W) (hY:isQ Y f) (hZ:isQ Z q) (m1:(⟨rdP Y.A Y.n Y.c Y.l,rdS Y.A Y.n⟩:Hl)∈D) (m2:(⟨rdP Y.B Y.m Y.d Y.k,rdS Y.B Y.m⟩:Hl)∈D) (m3:(⟨rdP Z.A Z.n Z.c Z.l,rdS Z.A Z.n⟩:Hl)∈D) (m4:(⟨rdP Z.B Z.m Z.d Z.k,rdS Z.B Z.m⟩:Hl)∈D) :
 Calls Tryz.prog 31 #[.agg #[.int .i64 Y.s,.slice Y.A Y.n Y.c,.int .i64 Y.t,.slice Y.B Y.m Y.d],.agg #[.int .i64 Z.s,.slice Z.A Z.n Z.c,.int .i64 Z.t,.slice Z.B Z.m Z.d]] W (FrT w0 L D (SubS f q)):=by
 obtain ⟨o,ho⟩:∃o,o=jhF f (some q):=⟨_,rfl⟩
 obtain ⟨er,her⟩:∃er,er=jhD f (some q):=⟨_,rfl⟩
 have h:=(qSub f Y.s Y.t Z.s Z.t Y.A Y.B Z.A Z.B Y.n Y.c Y.m Y.d Z.n Z.c Z.m Z.d Y.l Y.k Z.l Z.k W (K.rd m1) (K.rd m2) (K.rd m3) (K.rd m4) hY.1 hY.2 (some q) hZ.1 (fun z hz=>by rw [←Option.some.inj hz];exact hZ.2))
 rw [←ho,←her] at h
 have HS:=fun y:Rw=>subS (y:=y) ho her
 clear ho her
 exact h.mono fun e W' ⟨s31,A31,n31,c31,l31,t31,B31,m31,d31,k31,he,⟨hra,hrb⟩,hop,⟨hfa,hfb⟩,hbb⟩=>⟨⟨s31,A31,n31,c31,l31,t31,B31,m31,d31,k31⟩,er,he,jpk (HS _ hop),K.retF hbb hra hrb hfa hfb⟩
def FrG (w0:World) (L:List Blk) (D:List Hl) (G:Rat→Prop) (e:Ending) (W':World):Prop :=
 ∃(y:Rw) (z:Rat),e=Ending.returned (.agg #[.int .i64 y.s,.slice y.A y.n y.c,.int .i64 y.t,.slice y.B y.m y.d])∧Hid (isQ y z∧G z)∧St w0 L (⟨rdP y.B y.m y.d y.k,rdS y.B y.m⟩::⟨rdP y.A y.n y.c y.l,rdS y.A y.n⟩::D) W'
theorem jck {L':List Blk} {mb:Nat} {b b':Bool} {R:List Value} {T:TypeId} {y:Rw} {er:Int} {q:Rat} (K:St w0 L (⟨rdP y.B y.m y.d y.k,rdS y.B y.m⟩::⟨rdP y.A y.n y.c y.l,rdS y.A y.n⟩::D) W) (hq:er=0→isQ y q) (hb:b'=(b||er !=0)) (hU:Upd mb (Value.bool b::R).toArray T (Value.bool b'::R).toArray L L') :
 Calls Tryz.prog 113 #[.pointer (some ⟨mb,0,none⟩),.agg #[.int .i64 y.s,.slice y.A y.n y.c,.int .i64 y.t,.slice y.B y.m y.d],.int .i64 er] W (FrG w0 L' D fun z=>er=0→z=q) :=
 (jnR w0 W L L' D mb b b' R T er y.s y.t y.A y.B y.n y.c y.m y.d y.l y.k q K hq hb hU).mono fun e W' ⟨s,A,n,c,l,t,B,m,d,k,z,he,h1,h2,h3⟩=>⟨⟨s,A,n,c,l,t,B,m,d,k⟩,z,he,jpk ⟨h1,h2⟩,h3⟩
end
theorem jc9 (w0 W:World) (L L':List Blk) (D:List Hl) (mb:Nat) (b b':Bool) (R:List Value) (T:TypeId) (X Y Z:Rw) (x f q:Rat)
 (K:St w0 L (⟨rdP X.B X.m X.d X.k,rdS X.B X.m⟩::⟨rdP X.A X.n X.c X.l,rdS X.A X.n⟩::⟨rdP Y.B Y.m Y.d Y.k,rdS Y.B Y.m⟩::⟨rdP Y.A Y.n Y.c Y.l,rdS Y.A Y.n⟩::⟨rdP Z.B Z.m Z.d Z.k,rdS Z.B Z.m⟩::⟨rdP Z.A Z.n Z.c Z.l,rdS Z.A Z.n⟩::D) W) (hX:isQ X x) (hY:isQ Y f) (hZ:isQ Z q) (hb:b'=(b|| !jaP x f q)) (hU:Upd mb (Value.bool b::R).toArray T (Value.bool b'::R).toArray L L') :
 Calls Tryz.prog 137 #[.pointer (some ⟨mb,0,none⟩),.agg #[.int .i64 X.s,.slice X.A X.n X.c,.int .i64 X.t,.slice X.B X.m X.d],.agg #[.int .i64 Y.s,.slice Y.A Y.n Y.c,.int .i64 Y.t,.slice Y.B Y.m Y.d],.agg #[.int .i64 Z.s,.slice Z.A Z.n Z.c,.int .i64 Z.t,.slice Z.B Z.m Z.d]] W (FrG w0 L' D fun z=>jaP x f q=true→z=x-f*q):=by
 obtain ⟨bm,hbm⟩:∃bm,bm=(b|| !mulK f q):=⟨_,rfl⟩
 obtain ⟨L1,hU1,hU2⟩:=hU.mid (Value.bool bm::R).toArray
 have HU1:=jpk hU1
 have HU2:=jpk hU2
 have HX:=jpk hX
 have HY:=jpk hY
 have HZ:=jpk hZ
 have HB1:=jpk (fun (y:Rw) (er:Int) (h:MulS f q y er)=>(by rw [h.2];exact hbm:bm=(b||er !=0)))
 have HB2:=jpk (fun (y:Rw) (er:Int) (z:Rat) (hz:mulK f q=true→z=f*q) (h:SubS x z y er)=>(by
  rw [h.2,hb,hbm]
  unfold jaP
  generalize hk:mulK f q=B at hz ⊢
  cases B
  ·simp
  ·rw [hz rfl]
   simp:b'=(bm||er !=0)))
 have HV:=jpk (fun (y:Rw) (er:Int) (z v:Rat) (hz:mulK f q=true→z=f*q) (h:SubS x z y er) (hv:er=0→v=x-z)=>(by
  intro hs
  unfold jaP at hs
  rw [Bool.and_eq_true] at hs
  have e1:=hz hs.1
  have e2:=h.2
  rw [e1,hs.2] at e2
  rw [hv (by simpa using e2),e1]:jaP x f q=true→v=x-f*q))
 clear hU hU1 hU2 hX hY hZ hb hbm
 have r:=K.raw
 go_enter Tryz.func137,Tryz.ntmps137
 go_upto_region 1 with (first|(refine ZAL ?_;clear K r;(first|((fail_if_success revert b0);intro W b0 K r)|((fail_if_success revert b1);intro W b1 K r)|((fail_if_success revert b2);intro W b2 K r)|((fail_if_success revert b3);intro W b3 K r)|intro W b K r))|(refine ZST ?_;clear K r;intro W K r))
 have HSA:=jpk (fun V L2 D2 (h:St w0 ((b3,#[.int .i64 0,.slice none 0 0,.int .i64 0,.slice none 0 0],29)::(b2,#[.int .i64 Z.s,.slice Z.A Z.n Z.c,.int .i64 Z.t,.slice Z.B Z.m Z.d],29)::(b1,#[.int .i64 Y.s,.slice Y.A Y.n Y.c,.int .i64 Y.t,.slice Y.B Y.m Y.d],29)::(b0,#[.int .i64 X.s,.slice X.A X.n X.c,.int .i64 X.t,.slice X.B X.m X.d],29)::L2) D2 V)=>(show (V.cell? ⟨b0,0,none⟩=some (.int .i64 X.s)∧V.cell? ⟨b0,1,none⟩=some (.slice X.A X.n X.c)∧V.cell? ⟨b0,2,none⟩=some (.int .i64 X.t)∧V.cell? ⟨b0,3,none⟩=some (.slice X.B X.m X.d))∧(V.cell? ⟨b1,0,none⟩=some (.int .i64 Y.s)∧V.cell? ⟨b1,1,none⟩=some (.slice Y.A Y.n Y.c)∧V.cell? ⟨b1,2,none⟩=some (.int .i64 Y.t)∧V.cell? ⟨b1,3,none⟩=some (.slice Y.B Y.m Y.d))∧(V.cell? ⟨b2,0,none⟩=some (.int .i64 Z.s)∧V.cell? ⟨b2,1,none⟩=some (.slice Z.A Z.n Z.c)∧V.cell? ⟨b2,2,none⟩=some (.int .i64 Z.t)∧V.cell? ⟨b2,3,none⟩=some (.slice Z.B Z.m Z.d)) from by
  have r:=h.rawS
  exact ⟨r.2.2.2.1,r.2.2.1,r.2.1⟩))
 have HMu1:=jpk (fun V (h:St w0 ((b3,#[.int .i64 0,.slice none 0 0,.int .i64 0,.slice none 0 0],29)::(b2,#[.int .i64 Z.s,.slice Z.A Z.n Z.c,.int .i64 Z.t,.slice Z.B Z.m Z.d],29)::(b1,#[.int .i64 Y.s,.slice Y.A Y.n Y.c,.int .i64 Y.t,.slice Y.B Y.m Y.d],29)::(b0,#[.int .i64 X.s,.slice X.A X.n X.c,.int .i64 X.t,.slice X.B X.m X.d],29)::L) (⟨rdP X.B X.m X.d X.k,rdS X.B X.m⟩::⟨rdP X.A X.n X.c X.l,rdS X.A X.n⟩::⟨rdP Y.B Y.m Y.d Y.k,rdS Y.B Y.m⟩::⟨rdP Y.A Y.n Y.c Y.l,rdS Y.A Y.n⟩::⟨rdP Z.B Z.m Z.d Z.k,rdS Z.B Z.m⟩::⟨rdP Z.A Z.n Z.c Z.l,rdS Z.A Z.n⟩::D) V)=>jhW h HY.out HZ.out ZMB ZMB ZMB ZMB)
 have HNo1:=jpk (fun V (y:Rw) (er:Int) (G:Hid (MulS f q y er)) (h:St w0 ((b3,#[.int .i64 0,.slice none 0 0,.int .i64 0,.slice none 0 0],29)::(b2,#[.int .i64 Z.s,.slice Z.A Z.n Z.c,.int .i64 Z.t,.slice Z.B Z.m Z.d],29)::(b1,#[.int .i64 Y.s,.slice Y.A Y.n Y.c,.int .i64 Y.t,.slice Y.B Y.m Y.d],29)::(b0,#[.int .i64 X.s,.slice X.A X.n X.c,.int .i64 X.t,.slice X.B X.m X.d],29)::L) (⟨rdP y.B y.m y.d y.k,rdS y.B y.m⟩::⟨rdP y.A y.n y.c y.l,rdS y.A y.n⟩::(⟨rdP X.B X.m X.d X.k,rdS X.B X.m⟩::⟨rdP X.A X.n X.c X.l,rdS X.A X.n⟩::⟨rdP Y.B Y.m Y.d Y.k,rdS Y.B Y.m⟩::⟨rdP Y.A Y.n Y.c Y.l,rdS Y.A Y.n⟩::⟨rdP Z.B Z.m Z.d Z.k,rdS Z.B Z.m⟩::⟨rdP Z.A Z.n Z.c Z.l,rdS Z.A Z.n⟩::D)) V)=>jck (L':=((b3,#[.int .i64 0,.slice none 0 0,.int .i64 0,.slice none 0 0],29)::(b2,#[.int .i64 Z.s,.slice Z.A Z.n Z.c,.int .i64 Z.t,.slice Z.B Z.m Z.d],29)::(b1,#[.int .i64 Y.s,.slice Y.A Y.n Y.c,.int .i64 Y.t,.slice Y.B Y.m Y.d],29)::(b0,#[.int .i64 X.s,.slice X.A X.n X.c,.int .i64 X.t,.slice X.B X.m X.d],29)::L1)) h G.out.1 (HB1.out y er G.out) (.tail _ (.tail _ (.tail _ (.tail _ HU1.out)))))
 have HSu1:=jpk (fun V (y:Rw) (z:Rat) (hz:isQ y z) (h:St w0 ((b3,#[.int .i64 0,.slice none 0 0,.int .i64 0,.slice none 0 0],29)::(b2,#[.int .i64 Z.s,.slice Z.A Z.n Z.c,.int .i64 Z.t,.slice Z.B Z.m Z.d],29)::(b1,#[.int .i64 Y.s,.slice Y.A Y.n Y.c,.int .i64 Y.t,.slice Y.B Y.m Y.d],29)::(b0,#[.int .i64 X.s,.slice X.A X.n X.c,.int .i64 X.t,.slice X.B X.m X.d],29)::L1) (⟨rdP y.B y.m y.d y.k,rdS y.B y.m⟩::⟨rdP y.A y.n y.c y.l,rdS y.A y.n⟩::(⟨rdP X.B X.m X.d X.k,rdS X.B X.m⟩::⟨rdP X.A X.n X.c X.l,rdS X.A X.n⟩::⟨rdP Y.B Y.m Y.d Y.k,rdS Y.B Y.m⟩::⟨rdP Y.A Y.n Y.c Y.l,rdS Y.A Y.n⟩::⟨rdP Z.B Z.m Z.d Z.k,rdS Z.B Z.m⟩::⟨rdP Z.A Z.n Z.c Z.l,rdS Z.A Z.n⟩::D)) V)=>jcY h HX.out hz ZMB ZMB ZMB ZMB)
 have HNo2:=jpk (fun V (y u:Rw) (er:Int) (z:Rat) (hz:mulK f q=true→z=f*q) (G:Hid (SubS x z u er)) (h:St w0 ((b3,#[.int .i64 0,.slice none 0 0,.int .i64 0,.slice none 0 0],29)::(b2,#[.int .i64 Z.s,.slice Z.A Z.n Z.c,.int .i64 Z.t,.slice Z.B Z.m Z.d],29)::(b1,#[.int .i64 Y.s,.slice Y.A Y.n Y.c,.int .i64 Y.t,.slice Y.B Y.m Y.d],29)::(b0,#[.int .i64 X.s,.slice X.A X.n X.c,.int .i64 X.t,.slice X.B X.m X.d],29)::L1) (⟨rdP u.B u.m u.d u.k,rdS u.B u.m⟩::⟨rdP u.A u.n u.c u.l,rdS u.A u.n⟩::⟨rdP y.B y.m y.d y.k,rdS y.B y.m⟩::⟨rdP y.A y.n y.c y.l,rdS y.A y.n⟩::(⟨rdP X.B X.m X.d X.k,rdS X.B X.m⟩::⟨rdP X.A X.n X.c X.l,rdS X.A X.n⟩::⟨rdP Y.B Y.m Y.d Y.k,rdS Y.B Y.m⟩::⟨rdP Y.A Y.n Y.c Y.l,rdS Y.A Y.n⟩::⟨rdP Z.B Z.m Z.d Z.k,rdS Z.B Z.m⟩::⟨rdP Z.A Z.n Z.c Z.l,rdS Z.A Z.n⟩::D)) V)=>jck (L':=((b3,#[.int .i64 0,.slice none 0 0,.int .i64 0,.slice none 0 0],29)::(b2,#[.int .i64 Z.s,.slice Z.A Z.n Z.c,.int .i64 Z.t,.slice Z.B Z.m Z.d],29)::(b1,#[.int .i64 Y.s,.slice Y.A Y.n Y.c,.int .i64 Y.t,.slice Y.B Y.m Y.d],29)::(b0,#[.int .i64 X.s,.slice X.A X.n X.c,.int .i64 X.t,.slice X.B X.m X.d],29)::L')) h G.out.1 (HB2.out u er z hz G.out) (.tail _ (.tail _ (.tail _ (.tail _ HU2.out)))))
 have K0:=K.drew
 have s0:=HSA.out _ _ _ K0
 clear r K HB1 HB2 HU1 HU2
 refine jak 13 (fun V=>(V.cell? ⟨b0,0,none⟩=some (.int .i64 X.s)∧V.cell? ⟨b0,1,none⟩=some (.slice X.A X.n X.c)∧V.cell? ⟨b0,2,none⟩=some (.int .i64 X.t)∧V.cell? ⟨b0,3,none⟩=some (.slice X.B X.m X.d))∧(V.cell? ⟨b1,0,none⟩=some (.int .i64 Y.s)∧V.cell? ⟨b1,1,none⟩=some (.slice Y.A Y.n Y.c)∧V.cell? ⟨b1,2,none⟩=some (.int .i64 Y.t)∧V.cell? ⟨b1,3,none⟩=some (.slice Y.B Y.m Y.d))∧(V.cell? ⟨b2,0,none⟩=some (.int .i64 Z.s)∧V.cell? ⟨b2,1,none⟩=some (.slice Z.A Z.n Z.c)∧V.cell? ⟨b2,2,none⟩=some (.int .i64 Z.t)∧V.cell? ⟨b2,3,none⟩=some (.slice Z.B Z.m Z.d))) Zb9 s0 (fun hSh=>?_)
 clear s0
 refine jaa.tk 0 rfl ?_
 refine jaa.tk 1 rfl ?_
 refine jaa.tk 2 rfl ?_
 refine jaa.tk 3 rfl ?_
 refine jaa.tk 4 rfl ?_
 refine jaa.on 5 rfl fun KK hKK=>?_
 go_simp
 go_at_call 123;refine (HMu1.out _ K0).mono ?_;rintro e w5 ⟨y,em,rfl,gy,k5⟩
 go_wp2_with fail
 refine hKK.out _ _ ?_ (fun hSh=>?_)
 ·exact HSA.out _ _ _ Zb6
 clear hKK KK
 refine ZPT ?_
 refine jaa.tk 6 rfl ?_
 refine jaa.tk 7 rfl ?_
 refine jaa.on 8 rfl fun KK hKK=>?_
 go_simp
 go_at_call 113;refine (HNo1.out _ _ _ gy k5).mono ?_;rintro e w6 ⟨y2,z2,rfl,g2,k6⟩
 go_wp2_with fail
 refine hKK.out _ _ ?_ (fun hSh=>?_)
 ·exact HSA.out _ _ _ Zb6
 clear hKK KK
 refine ZPT ?_
 have hm2:=jpk (fun hk:mulK f q=true=>g2.out.2 (by
  have:=gy.out.2
  rw [hk] at this
  simpa using this))
 refine jaa.on 9 rfl fun KK hKK=>?_
 go_simp
 go_at_call 31;refine (HSu1.out _ _ _ g2.out.1 k6).mono ?_;rintro e w7 ⟨y3,es,rfl,g3,k7⟩
 go_wp2_with fail
 refine hKK.out _ _ ?_ (fun hSh=>?_)
 ·exact HSA.out _ _ _ Zb6
 clear hKK KK
 refine ZPT ?_
 refine jaa.tk 10 rfl ?_
 refine jaa.tk 11 rfl ?_
 refine jaa.on 12 rfl fun KK hKK=>?_
 go_simp
 go_at_call 113;refine (HNo2.out _ _ _ _ _ hm2.out g3 k7).mono ?_;rintro e w8 ⟨y4,z4,rfl,g4,k8⟩
 go_wp2_with fail
 refine hKK.out _ _ ?_ (fun hSh=>?_)
 ·exact HSA.out _ _ _ Zb6
 clear hKK KK
 refine ZPT ?_
 refine jaa.last rfl Zb9 ?_
 have HQ:=jpk (⟨g4.out.1,HV.out _ _ _ _ hm2.out g3.out g4.out.2⟩:isQ y4 z4∧(jaP x f q=true→z4=x-f*q))
 clear k7 k6 k5 K0 HSA HMu1 HSu1 HNo1 HNo2 hSh gy g2 hm2 g3 g4 HV HX HY HZ
 refine k8.storeA (b:=b3) (cs:=#[.int .i64 0,.slice none 0 0,.int .i64 0,.slice none 0 0]) (cs':=#[.int .i64 y4.s,.slice y4.A y4.n y4.c,.int .i64 y4.t,.slice y4.B y4.m y4.d]) (t:=29) rfl rfl _ _ _ rfl rfl rfl ZUA jar rfl rfl rfl ?_
 intro W8 K
 clear k8
 have r:=K.rawS
 have HE:=jpk (⟨y4,z4,rfl,HQ,(K.part (List.sublist_append_right [_,_,_,_] L')).lessS Zb10⟩:FrG w0 L' D (fun z=>jaP x f q=true→z=x-f*q) (.returned (.agg #[.int .i64 y4.s,.slice y4.A y4.n y4.c,.int .i64 y4.t,.slice y4.B y4.m y4.d])) W8)
 clear HQ
 go_wp2_with fail
 exact bodyPost_ret (v:=.agg #[.int .i64 y4.s,.slice y4.A y4.n y4.c,.int .i64 y4.t,.slice y4.B y4.m y4.d]) (by simp [results,Tryz.results137,go_sem,r]) rfl HE.out
theorem addS {x z:Rat} {y:Rw} {o:Option Rat} {er:Int} (ho:o=binO true (addK x z) (x+z)) (he:er=binE true (addK x z)) (h:OptF y.s y.l y.t y.k o):AddS x z y er:=by
 unfold binO at ho
 unfold binE at he
 unfold AddS
 generalize hk:addK x z=B at ho he
 cases B
 ·have e1:er=6:=by simpa using he
  subst e1
  exact ⟨(fun e=>by cases e),rfl⟩
 ·have e1:er=0:=by simpa using he
  have e2:o=some (x+z):=by simpa using ho
  subst e1 e2
  exact ⟨fun _=>⟨h,jft hk⟩,rfl⟩
theorem divS {x z:Rat} {y:Rw} {o:Option Rat} {er:Int} (h0:z≠0) (ho:o=jhs x z) (he:er=jhr x z) (h:OptF y.s y.l y.t y.k o):DivS x z y er:=by
 unfold jhs at ho
 unfold jhr at he
 unfold DivS
 generalize hk:divK x z=B at ho he
 cases B
 ·exact jny
 ·rw [if_pos rfl] at ho he
  subst ho he
  exact ⟨fun _=>⟨h,jh8 hk h0⟩,rfl⟩
section
variable {w0 W:World} {L:List Blk} {D:List Hl}
theorem jnC {Y Z:Rw} {f q:Rat} (K:St w0 L D W) (hY:isQ Y f) (hZ:isQ Z q) (m1:(⟨rdP Y.A Y.n Y.c Y.l,rdS Y.A Y.n⟩:Hl)∈D) (m2:(⟨rdP Y.B Y.m Y.d Y.k,rdS Y.B Y.m⟩:Hl)∈D) (m3:(⟨rdP Z.A Z.n Z.c Z.l,rdS Z.A Z.n⟩:Hl)∈D) (m4:(⟨rdP Z.B Z.m Z.d Z.k,rdS Z.B Z.m⟩:Hl)∈D) :
 Calls Tryz.prog 21 #[.agg #[.int .i64 Y.s,.slice Y.A Y.n Y.c,.int .i64 Y.t,.slice Y.B Y.m Y.d],.agg #[.int .i64 Z.s,.slice Z.A Z.n Z.c,.int .i64 Z.t,.slice Z.B Z.m Z.d]] W (FrT w0 L D (AddS f q)):=by
 obtain ⟨o,ho⟩:∃o,o=binO true (addK f q) (f+q):=⟨_,rfl⟩
 obtain ⟨er,her⟩:∃er,er=binE true (addK f q):=⟨_,rfl⟩
 have h:=je5 Y.s Y.t Z.s Z.t Y.A Y.B Z.A Z.B Y.n Y.c Y.m Y.d Z.n Z.c Z.m Z.d Y.l Y.k Z.l Z.k W (K.rd m1) (K.rd m2) (K.rd m3) (K.rd m4)
 rw [hY.1.right hY.2,hZ.1.right hZ.2,hY.1.rat,hZ.1.rat,Bool.and_true,←ho,←her] at h
 have HS:=fun y:Rw=>addS (y:=y) ho her
 clear ho her
 exact h.mono fun e W' ⟨s31,A31,n31,c31,l31,t31,B31,m31,d31,k31,he,⟨hra,hrb⟩,hop,⟨hfa,hfb⟩,hbb⟩=>⟨⟨s31,A31,n31,c31,l31,t31,B31,m31,d31,k31⟩,er,he,jpk (HS _ hop),K.retF hbb hra hrb hfa hfb⟩
theorem jf3 {Y Z:Rw} {f q:Rat} (K:St w0 L D W) (hY:isQ Y f) (hZ:isQ Z q) (h0:q≠0) (m1:(⟨rdP Y.A Y.n Y.c Y.l,rdS Y.A Y.n⟩:Hl)∈D) (m2:(⟨rdP Y.B Y.m Y.d Y.k,rdS Y.B Y.m⟩:Hl)∈D) (m3:(⟨rdP Z.A Z.n Z.c Z.l,rdS Z.A Z.n⟩:Hl)∈D) (m4:(⟨rdP Z.B Z.m Z.d Z.k,rdS Z.B Z.m⟩:Hl)∈D) :
 Calls Tryz.prog 133 #[.agg #[.int .i64 Y.s,.slice Y.A Y.n Y.c,.int .i64 Y.t,.slice Y.B Y.m Y.d],.agg #[.int .i64 Z.s,.slice Z.A Z.n Z.c,.int .i64 Z.t,.slice Z.B Z.m Z.d]] W (FrT w0 L D (DivS f q)):=by
 obtain ⟨o,ho⟩:∃o,o=jhs f q:=⟨_,rfl⟩
 obtain ⟨er,her⟩:∃er,er=jhr f q:=⟨_,rfl⟩
 have h:=qDiv f q Y.s Y.t Z.s Z.t Y.A Y.B Z.A Z.B Y.n Y.c Y.m Y.d Z.n Z.c Z.m Z.d Y.l Y.k Z.l Z.k W (K.rd m1) (K.rd m2) (K.rd m3) (K.rd m4) hY.1 hY.2 hZ.1 hZ.2 h0
 rw [←ho,←her] at h
 have HS:=fun y:Rw=>divS (y:=y) h0 ho her
 clear ho her
 exact h.mono fun e W' ⟨s31,A31,n31,c31,l31,t31,B31,m31,d31,k31,he,⟨hra,hrb⟩,hop,⟨hfa,hfb⟩,hbb⟩=>⟨⟨s31,A31,n31,c31,l31,t31,B31,m31,d31,k31⟩,er,he,jpk (HS _ hop),K.retF hbb hra hrb hfa hfb⟩
end
def prdK (x y:Nat→Rat):Nat→Bool
 | 0=>true
 | n+1=>prdK x y n&&(mulK (x n) (y n)&&addK (smQ (fun i=>x i*y i) n) (x n*y n))
theorem jde (x y:Nat→Rat) (n:Nat):prdK x y (n+1)=(prdK x y n&&(mulK (x n) (y n)&&addK (smQ (fun i=>x i*y i) n) (x n*y n))):=by rw [prdK]
theorem jg3 {x y:Nat→Rat} {k:Nat} {b b1 b2 b3 p:Bool} {z m v:Rat} (hp:p=prdK x y k) (h1:b1=(b|| !p)) (h2:b2=(b1|| !mulK (x k) (y k))) (h3:b3=(b2|| !addK z m)) (hz:p=true→z=smQ (fun i=>x i*y i) k) (hm:mulK (x k) (y k)=true→m=x k*y k) (hv:addK z m=true→v=z+m) :
 b3=(b|| !prdK x y (k+1))∧(prdK x y (k+1)=true→v=smQ (fun i=>x i*y i) (k+1)):=by
 rw [jde,←hp,smQ]
 subst h1 h2 h3
 generalize hM:mulK (x k) (y k)=M at hm ⊢
 cases p
 ·simp
 ·rw [hz rfl] at hv ⊢
  cases M
  ·simp
  ·rw [hm rfl] at hv ⊢
   generalize addK (smQ (fun i=>x i*y i) k) (x k*y k)=C at hv ⊢
   cases C
   ·simp
   ·exact ⟨by simp,fun _=>hv rfl⟩
theorem Upd.none {b:Nat} {c c':Bool} {R:List Value} {t:TypeId} {L L':List Blk} (h:Upd b (Value.bool c::R).toArray t (Value.bool c'::R).toArray L L') (e:c=c'):L=L':=by
 subst e
 revert h
 generalize (Value.bool c::R).toArray=cs
 intro h
 induction h with
 | head L=>rfl
 | tail x h ih=>rw [ih]
theorem jbB (w0 W:World) (L L':List Blk) (D:List Hl) (mb:Nat) (b b':Bool) (R:List Value) (T:TypeId) (A B:Option Addr) (n cap n' cap':Nat) (u v:Nat→Rw) (x y:Nat→Rat)
 (K:St w0 L D W) (m1:(⟨fxP A n cap u,fxS A n u⟩:Hl)∈D) (m2:(⟨fxP B n' cap' v,fxS B n' v⟩:Hl)∈D) (hn:n≤n'∧n≤1000000) (hx:∀i,i<n→isQ (u i) (x i)) (hy:∀i,i<n→isQ (v i) (y i))
 (hb:b'=(b|| !prdK x y n)) (hU:Upd mb (Value.bool b::R).toArray T (Value.bool b'::R).toArray L L') :
 Calls Tryz.prog 82 #[.pointer (some ⟨mb,0,none⟩),.slice A n cap,.slice B n' cap'] W (FrG w0 L' D fun z=>prdK x y n=true→z=smQ (fun i=>x i*y i) n):=by
 have HU:=jpk hU
 have HX:=jpk hx
 have HY:=jpk hy
 have M1:=jpk m1
 have M2:=jpk m2
 have HB:=jpk hb
 have HZ:=jpk jbc
 have hcap:=K.fxCap m1
 have hcbp:=K.fxCap m2
 clear hU hx hy m1 m2 hb
 have r:=K.raw
 go_enter Tryz.func82,Tryz.ntmps82
 go_wp2_with (first|(refine ZAL ?_;clear K r;(first|((fail_if_success revert b0);intro W b0 K r)|((fail_if_success revert b1);intro W b1 K r)|((fail_if_success revert b2);intro W b2 K r)|((fail_if_success revert b3);intro W b3 K r)|intro W b K r))|(refine ZST ?_;clear K r;intro W K r))
 refine (HZ.out _).mono ?_
 rintro e W' ⟨s7,A7,n7,c7,l7,t7,B7,m7,d7,k7,rfl,⟨hra,hrb⟩,ho,⟨hfa,hfb⟩,hb⟩
 have hf7:=jpk (hfa.mono K.1.size)
 have hg7:=jpk (hfb.mono K.1.size)
 replace K:=K.retF hb hra hrb hfa hfb
 clear r
 have r:=K.rawS
 clear hra hrb hfa hfb hb
 clear hf7 hg7
 have HO:=jpk ho
 clear ho
 go_wp2_with (first|(refine ZAL ?_;clear K r;(first|((fail_if_success revert b0);intro W b0 K r)|((fail_if_success revert b1);intro W b1 K r)|((fail_if_success revert b2);intro W b2 K r)|((fail_if_success revert b3);intro W b3 K r)|intro W b K r))|(refine ZST ?_;clear K r;intro W K r))
 go_loopg [12] n (fun gk s12 wr=>∃(k:Nat) (bk:Bool) (Lk:List Blk) (z:Rw) (zq:Rat),k≤n∧gk=n-k∧s12=.int .i64 k∧Hid (bk=(b|| !prdK x y k))∧Hid (Upd mb (Value.bool bk::R).toArray T (Value.bool b'::R).toArray Lk L')∧Hid (isQ z zq∧(prdK x y k=true→zq=smQ (fun i=>x i*y i) k))∧St w0 ((b1,#[.int .i64 z.s,.slice z.A z.n z.c,.int .i64 z.t,.slice z.B z.m z.d],29)::(b0,#[.int .i64 0,.slice none 0 0,.int .i64 0,.slice none 0 0],29)::Lk) (⟨rdP z.B z.m z.d z.k,rdS z.B z.m⟩::⟨rdP z.A z.n z.c z.l,rdS z.A z.n⟩::D) wr)
 case atStart=>exact ⟨0,b,L,⟨s7,A7,n7,c7,l7,t7,B7,m7,d7,k7⟩,0,Nat.zero_le _,rfl,rfl,jpk (by simp [prdK]),HU,jpk ⟨⟨HO.out,jbe⟩,fun _=>rfl⟩,K⟩
 case round =>
  clear K r HU HO
  obtain ⟨k,bk,Lk,z,zq,hk,rfl,rfl,HBk,HU,HQ,K⟩:=hrel
  by_cases hlt:k<n
  ·have hki:(k:Int)<(n:Int):=by omega
   have hkj:(k:Int)<(n':Int):=by omega
   have hk0:(0:Int)≤(k:Int):=by omega
   have hkn:k<n':=by omega
   obtain ⟨ab,ao,hA⟩:=K.fxAt (List.mem_cons_of_mem _ (List.mem_cons_of_mem _ M1.out)) ZO
   obtain ⟨bb,bo,hBB⟩:=K.fxAt (List.mem_cons_of_mem _ (List.mem_cons_of_mem _ M2.out)) ZO
   subst hA hBB
   have K:=(K.fxRd (List.mem_cons_of_mem _ (List.mem_cons_of_mem _ M1.out)) hlt).fxRd (List.mem_cons_of_mem _ (List.mem_cons_of_mem _ (List.mem_cons_of_mem _ (List.mem_cons_of_mem _ M2.out)))) hkn
   obtain ⟨bm,hbm⟩:∃bm,bm=(bk|| !mulK (x k) (y k)):=⟨_,rfl⟩
   obtain ⟨bn,hbn⟩:∃bn,bn=(b|| !prdK x y (k+1)):=⟨_,rfl⟩
   obtain ⟨L1,hU1,hU2⟩:=HU.out.mid (Value.bool bm::R).toArray
   obtain ⟨L2,hU3,hU4⟩:=hU2.mid (Value.bool bn::R).toArray
   have HU1:=jpk hU1
   have HU3:=jpk hU3
   have HU4:=jpk hU4
   have HBn:=jpk hbn
   have HB1:=jpk (fun (t:Rw) (er:Int) (h:MulS (x k) (y k) t er)=>(by rw [h.2];exact hbm:bm=(bk||er !=0)))
   have HB2:=jpk (fun (t:Rw) (er:Int) (m:Rat) (hm:mulK (x k) (y k)=true→m=x k*y k) (h:AddS zq m t er)=>(by
    rw [h.2,hbn]
    exact (jg3 rfl HBk.out hbm rfl HQ.out.2 hm (fun _=>rfl)).1.symm:bn=(bm||er !=0)))
   have HV:=jpk (fun (t:Rw) (er:Int) (m g:Rat) (hm:mulK (x k) (y k)=true→m=x k*y k) (h:AddS zq m t er) (hv:er=0→g=zq+m)=>(by
    refine (jg3 (b3:=bm|| !addK zq m) rfl HBk.out hbm rfl HQ.out.2 hm (fun hk2=>hv ?_)).2
    have e2:=h.2
    rw [hk2] at e2
    simpa using e2:prdK x y (k+1)=true→g=smQ (fun i=>x i*y i) (k+1)))
   have HSA:=jpk (fun V L2 D2 (m3:(⟨fxP (some ⟨ab,ao,none⟩) n cap u,fxS (some ⟨ab,ao,none⟩) n u⟩:Hl)∈D2) (m4:(⟨fxP (some ⟨bb,bo,none⟩) n' cap' v,fxS (some ⟨bb,bo,none⟩) n' v⟩:Hl)∈D2) (h:St w0 ((b1,#[.int .i64 z.s,.slice z.A z.n z.c,.int .i64 z.t,.slice z.B z.m z.d],29)::(b0,#[.int .i64 0,.slice none 0 0,.int .i64 0,.slice none 0 0],29)::L2) D2 V)=>(show (V.cell? ⟨b1,0,none⟩=some (.int .i64 z.s)∧V.cell? ⟨b1,1,none⟩=some (.slice z.A z.n z.c)∧V.cell? ⟨b1,2,none⟩=some (.int .i64 z.t)∧V.cell? ⟨b1,3,none⟩=some (.slice z.B z.m z.d))∧(V.cell? ⟨ab,ao+k*4,none⟩=some (.int .i64 (u k).s)∧V.cell? ⟨ab,ao+k*4+1,none⟩=some (.slice (u k).A (u k).n (u k).c)∧V.cell? ⟨ab,ao+k*4+2,none⟩=some (.int .i64 (u k).t)∧V.cell? ⟨ab,ao+k*4+3,none⟩=some (.slice (u k).B (u k).m (u k).d))∧(V.cell? ⟨bb,bo+k*4,none⟩=some (.int .i64 (v k).s)∧V.cell? ⟨bb,bo+k*4+1,none⟩=some (.slice (v k).A (v k).n (v k).c)∧V.cell? ⟨bb,bo+k*4+2,none⟩=some (.int .i64 (v k).t)∧V.cell? ⟨bb,bo+k*4+3,none⟩=some (.slice (v k).B (v k).m (v k).d)) from by
    have r:=h.rawS
    exact ⟨r.1,h.fxCell m3 hlt,h.fxCell m4 hkn⟩))
   have HMu1:=jpk (fun V (h:St w0 ((b1,#[.int .i64 z.s,.slice z.A z.n z.c,.int .i64 z.t,.slice z.B z.m z.d],29)::(b0,#[.int .i64 0,.slice none 0 0,.int .i64 0,.slice none 0 0],29)::Lk) (⟨rdP (v k).B (v k).m (v k).d (v k).k,rdS (v k).B (v k).m⟩::⟨rdP (v k).A (v k).n (v k).c (v k).l,rdS (v k).A (v k).n⟩::⟨rdP (u k).B (u k).m (u k).d (u k).k,rdS (u k).B (u k).m⟩::⟨rdP (u k).A (u k).n (u k).c (u k).l,rdS (u k).A (u k).n⟩::⟨rdP z.B z.m z.d z.k,rdS z.B z.m⟩::⟨rdP z.A z.n z.c z.l,rdS z.A z.n⟩::D) V)=>jhW h (HX.out k hlt) (HY.out k hlt) ZMB ZMB ZMB ZMB)
   have HNo1:=jpk (fun V (t:Rw) (er:Int) (G:Hid (MulS (x k) (y k) t er)) (h:St w0 ((b1,#[.int .i64 z.s,.slice z.A z.n z.c,.int .i64 z.t,.slice z.B z.m z.d],29)::(b0,#[.int .i64 0,.slice none 0 0,.int .i64 0,.slice none 0 0],29)::Lk) (⟨rdP t.B t.m t.d t.k,rdS t.B t.m⟩::⟨rdP t.A t.n t.c t.l,rdS t.A t.n⟩::(⟨rdP (v k).B (v k).m (v k).d (v k).k,rdS (v k).B (v k).m⟩::⟨rdP (v k).A (v k).n (v k).c (v k).l,rdS (v k).A (v k).n⟩::⟨rdP (u k).B (u k).m (u k).d (u k).k,rdS (u k).B (u k).m⟩::⟨rdP (u k).A (u k).n (u k).c (u k).l,rdS (u k).A (u k).n⟩::⟨rdP z.B z.m z.d z.k,rdS z.B z.m⟩::⟨rdP z.A z.n z.c z.l,rdS z.A z.n⟩::D)) V)=>jck (L':=((b1,#[.int .i64 z.s,.slice z.A z.n z.c,.int .i64 z.t,.slice z.B z.m z.d],29)::(b0,#[.int .i64 0,.slice none 0 0,.int .i64 0,.slice none 0 0],29)::L1)) h G.out.1 (HB1.out t er G.out) (.tail _ (.tail _ HU1.out)))
   have HAd1:=jpk (fun V (t:Rw) (m:Rat) (hm:isQ t m) (h:St w0 ((b1,#[.int .i64 z.s,.slice z.A z.n z.c,.int .i64 z.t,.slice z.B z.m z.d],29)::(b0,#[.int .i64 0,.slice none 0 0,.int .i64 0,.slice none 0 0],29)::L1) (⟨rdP t.B t.m t.d t.k,rdS t.B t.m⟩::⟨rdP t.A t.n t.c t.l,rdS t.A t.n⟩::(⟨rdP (v k).B (v k).m (v k).d (v k).k,rdS (v k).B (v k).m⟩::⟨rdP (v k).A (v k).n (v k).c (v k).l,rdS (v k).A (v k).n⟩::⟨rdP (u k).B (u k).m (u k).d (u k).k,rdS (u k).B (u k).m⟩::⟨rdP (u k).A (u k).n (u k).c (u k).l,rdS (u k).A (u k).n⟩::⟨rdP z.B z.m z.d z.k,rdS z.B z.m⟩::⟨rdP z.A z.n z.c z.l,rdS z.A z.n⟩::D)) V)=>jnC h HQ.out.1 hm ZMB ZMB ZMB ZMB)
   have HNo2:=jpk (fun V (t g:Rw) (er:Int) (m:Rat) (hm:mulK (x k) (y k)=true→m=x k*y k) (G:Hid (AddS zq m g er)) (h:St w0 ((b1,#[.int .i64 z.s,.slice z.A z.n z.c,.int .i64 z.t,.slice z.B z.m z.d],29)::(b0,#[.int .i64 0,.slice none 0 0,.int .i64 0,.slice none 0 0],29)::L1) (⟨rdP g.B g.m g.d g.k,rdS g.B g.m⟩::⟨rdP g.A g.n g.c g.l,rdS g.A g.n⟩::⟨rdP t.B t.m t.d t.k,rdS t.B t.m⟩::⟨rdP t.A t.n t.c t.l,rdS t.A t.n⟩::(⟨rdP (v k).B (v k).m (v k).d (v k).k,rdS (v k).B (v k).m⟩::⟨rdP (v k).A (v k).n (v k).c (v k).l,rdS (v k).A (v k).n⟩::⟨rdP (u k).B (u k).m (u k).d (u k).k,rdS (u k).B (u k).m⟩::⟨rdP (u k).A (u k).n (u k).c (u k).l,rdS (u k).A (u k).n⟩::⟨rdP z.B z.m z.d z.k,rdS z.B z.m⟩::⟨rdP z.A z.n z.c z.l,rdS z.A z.n⟩::D)) V)=>jck (L':=((b1,#[.int .i64 z.s,.slice z.A z.n z.c,.int .i64 z.t,.slice z.B z.m z.d],29)::(b0,#[.int .i64 0,.slice none 0 0,.int .i64 0,.slice none 0 0],29)::L2)) h G.out.1 (HB2.out g er m hm G.out) (.tail _ (.tail _ HU3.out)))
   go_upto_region 5 with fail
   have K0:=K.drew
   have s0:=HSA.out _ _ _ Zb11 Zb12 K0
   clear K hU1 hU2 hU3 hU4 hbm hbn HU HU1 HU3 HB1 HB2 HQ HBk
   refine jak 19 (fun V=>(V.cell? ⟨b1,0,none⟩=some (.int .i64 z.s)∧V.cell? ⟨b1,1,none⟩=some (.slice z.A z.n z.c)∧V.cell? ⟨b1,2,none⟩=some (.int .i64 z.t)∧V.cell? ⟨b1,3,none⟩=some (.slice z.B z.m z.d))∧(V.cell? ⟨ab,ao+k*4,none⟩=some (.int .i64 (u k).s)∧V.cell? ⟨ab,ao+k*4+1,none⟩=some (.slice (u k).A (u k).n (u k).c)∧V.cell? ⟨ab,ao+k*4+2,none⟩=some (.int .i64 (u k).t)∧V.cell? ⟨ab,ao+k*4+3,none⟩=some (.slice (u k).B (u k).m (u k).d))∧(V.cell? ⟨bb,bo+k*4,none⟩=some (.int .i64 (v k).s)∧V.cell? ⟨bb,bo+k*4+1,none⟩=some (.slice (v k).A (v k).n (v k).c)∧V.cell? ⟨bb,bo+k*4+2,none⟩=some (.int .i64 (v k).t)∧V.cell? ⟨bb,bo+k*4+3,none⟩=some (.slice (v k).B (v k).m (v k).d))) Zb9 s0 (fun hSh=>?_)
   clear s0
   refine jaa.tk 0 rfl ?_
   refine jaa.tk 1 rfl ?_
   refine jaa.tk 2 rfl ?_
   refine jaa.tk 3 rfl ?_
   refine jaa.tk 4 rfl ?_
   refine jaa.tk 5 rfl ?_
   refine jaa.tk 6 rfl ?_
   refine jaa.tk 7 rfl ?_
   refine jaa.tk 8 rfl ?_
   refine jaa.tk 9 rfl ?_
   refine jaa.tk 10 rfl ?_
   refine jaa.on 11 rfl fun KK hKK=>?_
   go_simp
   go_at_call 123;refine (HMu1.out _ K0).mono ?_;rintro e w5 ⟨y1,em,rfl,gy,k5⟩
   go_wp2_with fail
   refine hKK.out _ _ ?_ (fun hSh=>?_)
   ·exact HSA.out _ _ _ Zb11 Zb12 k5
   clear hKK KK
   refine ZPT ?_
   refine jaa.tk 12 rfl ?_
   refine jaa.tk 13 rfl ?_
   refine jaa.on 14 rfl fun KK hKK=>?_
   go_simp
   go_at_call 113;refine (HNo1.out _ _ _ gy k5).mono ?_;rintro e w6 ⟨y2,z2,rfl,g2,k6⟩
   go_wp2_with fail
   refine hKK.out _ _ ?_ (fun hSh=>?_)
   ·exact HSA.out _ _ _ Zb11 Zb12 k6
   clear hKK KK
   refine ZPT ?_
   have hm2:=jpk (fun hk:mulK (x k) (y k)=true=>g2.out.2 (by
    have:=gy.out.2
    rw [hk] at this
    simpa using this))
   refine jaa.on 15 rfl fun KK hKK=>?_
   go_simp
   go_at_call 21;refine (HAd1.out _ _ _ g2.out.1 k6).mono ?_;rintro e w7 ⟨y3,es,rfl,g3,k7⟩
   go_wp2_with fail
   refine hKK.out _ _ ?_ (fun hSh=>?_)
   ·exact HSA.out _ _ _ Zb11 Zb12 k7
   clear hKK KK
   refine ZPT ?_
   refine jaa.tk 16 rfl ?_
   refine jaa.tk 17 rfl ?_
   refine jaa.on 18 rfl fun KK hKK=>?_
   go_simp
   go_at_call 113;refine (HNo2.out _ _ _ _ _ hm2.out g3 k7).mono ?_;rintro e w8 ⟨y4,z4,rfl,g4,k8⟩
   go_wp2_with fail
   refine hKK.out _ _ ?_ (fun hSh=>?_)
   ·exact HSA.out _ _ _ Zb11 Zb12 k8
   clear hKK KK
   refine ZPT ?_
   refine jaa.last rfl Zb9 ?_
   have HQ:=jpk (⟨g4.out.1,HV.out _ _ _ _ hm2.out g3.out g4.out.2⟩:isQ y4 z4∧(prdK x y (k+1)=true→z4=smQ (fun i=>x i*y i) (k+1)))
   clear k7 k6 k5 K0 HSA HMu1 HAd1 HNo1 HNo2 hSh gy g2 hm2 g3 g4 HV
   refine k8.storeA (b:=b1) (cs:=#[.int .i64 z.s,.slice z.A z.n z.c,.int .i64 z.t,.slice z.B z.m z.d]) (cs':=#[.int .i64 y4.s,.slice y4.A y4.n y4.c,.int .i64 y4.t,.slice y4.B y4.m y4.d]) (t:=29) rfl rfl _ _ _ rfl rfl rfl ZUA jar rfl rfl rfl ?_
   intro W8 K
   clear k8
   have HK:=jpk (K.lessS (D':=⟨rdP y4.B y4.m y4.d y4.k,rdS y4.B y4.m⟩::⟨rdP y4.A y4.n y4.c y4.l,rdS y4.A y4.n⟩::D) Zb10)
   clear K
   go_wp2_with fail
   go_roundg (n-(k+1))
   case rel=>exact ⟨k+1,bn,L2,y4,z4,hlt,rfl,by go_num,HBn,HU4,HQ,HK.out⟩
   case measure=>omega
  ·have e:k=n:=by omega
   subst e
   have hL:Lk=L':=Upd.none (HU.out) (by rw [HBk.out,HB.out])
   subst hL
   have r:=K.rawS
   have HQ2:=jpk HQ.out
   clear HQ HU HBk
   go_wp2_with (first|(refine ZAL ?_;clear K r;(first|((fail_if_success revert b0);intro W b0 K r)|((fail_if_success revert b1);intro W b1 K r)|((fail_if_success revert b2);intro W b2 K r)|((fail_if_success revert b3);intro W b3 K r)|intro W b K r))|(refine ZST ?_;clear K r;intro W K r))
   have HE:=jpk (⟨z,zq,rfl,HQ2,(K.part (List.sublist_append_right [_,_] Lk)).lessS Zb10⟩:FrG w0 Lk D (fun z=>prdK x y k=true→z=smQ (fun i=>x i*y i) k) (.returned (.agg #[.int .i64 z.s,.slice z.A z.n z.c,.int .i64 z.t,.slice z.B z.m z.d])) W)
   exact bodyPost_ret (v:=.agg #[.int .i64 z.s,.slice z.A z.n z.c,.int .i64 z.t,.slice z.B z.m z.d]) (by simp [results,Tryz.results82,go_sem,r]) rfl HE.out
def ZrP (w0:World) (L:List Blk) (D:List Hl) (n:Nat) (x:Nat→Rat) (e:Ending) (W':World):Prop :=
 ∃(g:Nat) (v:Nat→Rw),e=Ending.returned (.slice (some ⟨g,0,none⟩) n n)∧Hid (∀j,j<n→isQ (v j) (x j))∧St w0 ((g,rwA n v [],29)::L) (⟨rwP n v,rwS n v⟩::D) W'
theorem jcB (n:Nat) (w0 W:World) (L:List Blk) (D:List Hl) (K:St w0 L D W) (hn:n≤1000) :
 Calls Tryz.prog 61 #[.int .i64 n] W (ZrP w0 L D n fun _=>0):=by
 have HZ:=jpk jbc
 have hn0:(0:Int)≤(n:Int):=by omega
 have r:=K.raw
 go_enter Tryz.func61,Tryz.ntmps61
 go_wp2_with (at_make;refine K.make rfl _ _ _ _ rfl _ _ _ Tryz.underlying25 jbF n rfl rfl _ (jeB n) ZO ZO ?_;clear K r;intro W0 g K;have r:=K.rawS)
 go_loopg [9] n (fun gk s9 wr=>∃(k:Nat) (v:Nat→Rw),k≤n∧gk=n-k∧s9=.int .i64 k∧Hid (∀j,j<k→isQ (v j) 0)∧St w0 ((g,rwA n v [],29)::L) (⟨rwP n v,rwS n v⟩::D) wr)
 case atStart=>exact ⟨0,fun _=>Rw.zero,Nat.zero_le _,rfl,rfl,jpk (fun j h=>absurd h ZO),K.rwNew n⟩
 case round =>
  clear K r
  obtain ⟨k,v,hk,rfl,rfl,HV,K⟩:=hrel
  by_cases hlt:k<n
  ·have hki:(k:Int)<(n:Int):=by omega
   have hk0:(0:Int)≤(k:Int):=by omega
   have r:=K.rawS
   go_wp2_with (first
    | (go_at_call 105;refine (HZ.out _).mono ?_;rintro e W' ⟨s7,A7,n7,c7,l7,t7,B7,m7,d7,k7,rfl,⟨hra,hrb⟩,ho,⟨hfa,hfb⟩,hb⟩;replace K:=K.retF hb hra hrb hfa hfb;clear hra hrb hfa hfb hb r;have HO:=jpk ho;clear ho;have r:=K.rawS)
    | (refine K.storeR rfl rfl _ _ _ rfl g k n (⟨s7,A7,n7,c7,l7,t7,B7,m7,d7,k7⟩:Rw) rfl rfl hlt ZUA jar ?_;clear K r;intro W8 K))
   have HK:=jpk ((K.rwPut (v:=v) (⟨s7,A7,n7,c7,l7,t7,B7,m7,d7,k7⟩:Rw) k ZMB ZMB ZMB).less (D':=⟨rwP n (putF v k (⟨s7,A7,n7,c7,l7,t7,B7,m7,d7,k7⟩:Rw)),rwS n (putF v k (⟨s7,A7,n7,c7,l7,t7,B7,m7,d7,k7⟩:Rw))⟩::D) fun x hx=>by
    simp only [List.mem_cons] at hx ⊢
    rcases hx with h|h
    ·exact Or.inl h
    ·exact Or.inr (Or.inr (Or.inr (Or.inr h))))
   have HV2:=jpk (show ∀j,j<k+1→isQ (putF v k (⟨s7,A7,n7,c7,l7,t7,B7,m7,d7,k7⟩:Rw) j) 0 from fun j hj=>by
    by_cases e:j=k
    ·subst e;rw [jaf];exact ⟨HO.out,jbe⟩
    ·rw [jad e];exact HV.out j ZO)
   clear K HO HV
   go_wp2_with fail
   go_roundg (n-(k+1))
   case rel=>exact ⟨k+1,_,hlt,rfl,by go_num,HV2,HK.out⟩
   case measure=>omega
  ·have e:n=k:=by omega
   subst e
   have HE:=jpk (⟨g,v,rfl,HV,K⟩:ZrP w0 L D n (fun _=>0) (.returned (.slice (some ⟨g,0,none⟩) n n)) wr)
   clear K HV hlt
   go_wp2_with fail
   go_ret
   exact HE.out
end Go.Proofs.YtgikfcjndiohjaaGreat
