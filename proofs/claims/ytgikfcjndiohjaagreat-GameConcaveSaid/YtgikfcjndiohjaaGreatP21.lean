/- Laws and walks; conditions stand in each theorem. -/
import Derived.Test.YtgikfcjndiohjaaGreatP20
set_option linter.unusedSimpArgs false
set_option linter.unusedVariables false
set_option maxHeartbeats 8000000
set_option maxRecDepth 100000
namespace Go.Proofs.YtgikfcjndiohjaaGreat
open Go.RowKit
section
variable {w0 W:World} {L:List Blk} {D:List Hl}
theorem jcX {Y Z:Rw} {f q:Rat} (K:St w0 L D W) (hY:isQ Y f) (hZ:isQ Z q) (m1:(⟨rdP Y.A Y.n Y.c Y.l,rdS Y.A Y.n⟩:Hl)∈D) (m2:(⟨rdP Y.B Y.m Y.d Y.k,rdS Y.B Y.m⟩:Hl)∈D) (m3:(⟨rdP Z.A Z.n Z.c Z.l,rdS Z.A Z.n⟩:Hl)∈D) (m4:(⟨rdP Z.B Z.m Z.d Z.k,rdS Z.B Z.m⟩:Hl)∈D) :
 Calls Tryz.prog 23 #[.agg #[.int .i64 Y.s,.slice Y.A Y.n Y.c,.int .i64 Y.t,.slice Y.B Y.m Y.d],.agg #[.int .i64 Z.s,.slice Z.A Z.n Z.c,.int .i64 Z.t,.slice Z.B Z.m Z.d]] W fun e W'=>e=.returned (.int .i64 (cmpQ f q))∧St w0 L D W':=by
 have h:=jfD Y.s Y.t Z.s Z.t Y.A Y.B Z.A Z.B Y.n Y.c Y.m Y.d Z.n Z.c Z.m Z.d Y.l Y.k Z.l Z.k W (K.rd m1) (K.rd m2) (K.rd m3) (K.rd m4)
 rw [hY.1.right hY.2,hZ.1.right hZ.2,hY.1.rat,hZ.1.rat] at h
 exact h.mono fun e W' ⟨he,hb⟩=>⟨he,K.keep hb⟩
end
def jbZ (t:Nat→Bool) (p:Nat→Bool):Nat→Bool
 | 0=>true
 | k+1=>jbZ t p k&&(t k&&p k)
theorem jcx {t p:Nat→Bool}:∀ {m:Nat},jbZ t p m=true↔∀i,i<m→t i=true∧p i=true
 | 0=>⟨fun _ i hi=>absurd hi ZO,fun _=>rfl⟩
 | m+1=>by
  rw [jbZ,Bool.and_eq_true,Bool.and_eq_true,jcx]
  constructor
  ·intro ⟨h1,h2,h3⟩ i hi
   by_cases e:i=m
   ·rw [e];exact ⟨h2,h3⟩
   ·exact h1 i ZO
  ·intro h
   exact ⟨fun i hi=>h i ZO,h m ZO⟩
theorem jfX {t p:Nat→Bool} {m k:Nat} (hk:k<m) (h:jbZ t p (k+1)=false):jbZ t p m=false:=by
 cases e:jbZ t p m
 ·rfl
 ·have:jbZ t p (k+1)=true:=jcx.2 fun i hi=>jcx.1 e i ZO
  rw [this] at h
  cases h
theorem jdg {t p:Nat→Bool} {k:Nat} {b bk b1 q:Bool} (h:(!bk)=(!b&&jbZ t p k)) (h1:b1=(bk|| !t k)) (hq:t k=true→q=p k) :
 (q=true→(!b1)=(!b&&jbZ t p (k+1)))∧(q=false→(!b&&jbZ t p (k+1))=false):=by
 subst h1
 rw [jbZ]
 cases ht:t k
 ·simp
 ·rw [hq ht]
  refine ⟨fun e=>?_,fun e=>?_⟩
  ·rw [e]
   simpa using h
  ·rw [e]
   simp
def belB (m n:Nat) (A:Nat→Nat→Rat) (b x:Nat→Rat):Bool:=jbZ (fun i=>prdK (A i) x n) (fun i=>decide (smQ (fun j=>A i j*x j) n≤b i)) m
def covB (m n:Nat) (A:Nat→Nat→Rat) (c y:Nat→Rat):Bool:=jbZ (fun k=>prdK y (fun i=>A i k) m) (fun k=>decide (c k≤smQ (fun i=>y i*A i k) m)) n
def TkY (goal:Bool) (i r s:Nat) (Y:Nat→Rw) (V:Nat→Nat→Rw):Prop:=goal=false→jaP (Y i).q (V i s).q (Y r).q=true
def TkW (goal:Bool) (i r s:Nat) (Y:Nat→Rw) (V:Nat→Nat→Rw) (Y':Nat→Rw):Prop:=(∀k,k≠i→Y' k=Y k)∧(goal=true→Y'=Y)∧(goal=false→jaP (Y i).q (V i s).q (Y r).q=true→(Y' i).q=(Y i).q-(V i s).q*(Y r).q)
def TkP (w0:World) (L0:List Blk) (D:List Hl) (M:Mm) (m q i rr s db hb:Nat) (HJ R:List Value) (goal b:Bool) (Y:Nat→Rw) (V:Nat→Nat→Rw) (e:Ending) (W':World):Prop :=
 ∃(b':Bool) (Y':Nat→Rw) (V':Nat→Nat→Rw),e=.returned (.tuple #[])∧Hid (jdE m Y'∧jdj q M.N V')∧Hid (FulK b b' (TkY goal i rr s Y V∧TkF M.N i rr s V))∧Hid (TkV M.N i rr s V V')∧Hid (TkW goal i rr s Y V Y')∧St w0 ((db,(Value.bool b'::R).toArray,92)::(hb,recA Ln.cs m (lnF Y' (M.hd q)) HJ,90)::((M.wV V').rows q++L0)) ((M.wV V').fam q::⟨rwP m Y',rwS m Y'⟩::D) W'
theorem St.rdUp {w W:World} {L:List Blk} {D:List Hl} {x:Rw} (K:St w L D W) (m1:(⟨rdP x.A x.n x.c x.l,rdS x.A x.n⟩:Hl)∈D) (m2:(⟨rdP x.B x.m x.d x.k,rdS x.B x.m⟩:Hl)∈D):St w L (⟨rdP x.B x.m x.d x.k,rdS x.B x.m⟩::⟨rdP x.A x.n x.c x.l,rdS x.A x.n⟩::D) W:=(K.add (K.okAt m1)).add (K.okAt m2)
theorem jkt (w0 w:World) (M:Mm) (L0:List Blk) (D:List Hl) (m q i rr s db hb:Nat) (HJ R:List Value) (b:Bool) (Y:Nat→Rw) (V:Nat→Nat→Rw)
 (K:St w0 ((db,(Value.bool b::R).toArray,92)::(hb,recA Ln.cs m (lnF Y (M.hd q)) HJ,90)::((M.wV V).rows q++L0)) ((M.wV V).fam q::⟨rwP m Y,rwS m Y⟩::D) w) (hi:i<q) (hr:rr<q) (hrm:rr<m) (hir:i≠rr) (hs:s<M.N) (hN:M.N≤1000) (hcp:∀i,i<q→M.N≤M.cp i∧M.cp i≤9223372036854775807) (hgy:jdE m Y) (hgv:jdj q M.N V) (hR:R[5]?=some (.slice (some ⟨M.rb i,0,none⟩) M.N (M.cp i))) :
 Calls Tryz.prog 134 #[.pointer (some ⟨db,0,none⟩),.pointer (some ⟨db,2,none⟩),.pointer (some ⟨hb,rr*5,none⟩),.int .i64 s,.bool true] w (TkP w0 L0 D M m q i rr s db hb HJ R true b Y V):=by
 have HGY:=jpk hgy
 have HGV:=jpk hgv
 have Hi:=jpk hi
 have Hr:=jpk hr
 have Hrm:=jpk hrm
 have Hs:=jpk hs
 have Hir:=jpk hir
 have hcpi:=hcp i hi
 have hcpr:=hcp rr hr
 have hsi:(s:Int)<(M.N:Int):=by omega
 have hs0:(0:Int)≤(s:Int):=by omega
 have HHC:=jpk (fun W5 b5 V5 L5 (h:St w0 L5 V5 W5) (hm:((db,(Value.bool b5::R).toArray,92):Blk)∈L5)=>(h.blk hm).cell (j:=6) (u:=.slice (some ⟨M.rb i,0,none⟩) M.N (M.cp i)) (by rw [List.getElem?_toArray];exact hR))
 clear hi hr hir hcp hgy hgv hrm hR
 have r0:=K.rawS
 have K:=(K.famRdV (M:=M) (V:=V) (i:=i) (j:=s) ZMB Hi.out hs).lessS (D':=_) (List.Sublist.refl _)
 have ch:=HHC.out _ _ _ _ K ZMB
 have cr:=K.cellV (M:=M) (V:=V) (r:=i) (k:=s) hs Zb14
 obtain ⟨x0,hx0⟩:∃x0,x0=V i s:=⟨_,rfl⟩
 rw [←hx0] at cr K
 have HI0:=jpk (show isQ x0 x0.q from by rw [hx0];exact HGV.out i s Hi.out hs)
 have HX0:=jpk (show x0.q=(V i s).q from by rw [hx0])
 have hcap1:=(K.rd (A:=x0.A) (n:=x0.n) (cap:=x0.c) (l:=x0.l) ZMB).caps
 have hcap2:=(K.rd (A:=x0.B) (n:=x0.m) (cap:=x0.d) (l:=x0.k) ZMB).caps
 clear hx0 hs r0
 have r:=K.rawS
 go_enter Tryz.func134,Tryz.ntmps134
 go_wp2_with ((first|(refine ZAL ?_;clear K r;(first|((fail_if_success revert b0);intro W b0 K r)|((fail_if_success revert b1);intro W b1 K r)|((fail_if_success revert b2);intro W b2 K r)|((fail_if_success revert b3);intro W b3 K r)|((fail_if_success revert b4);intro W b4 K r)|((fail_if_success revert b5);intro W b5 K r)|intro W b K r))|(refine ZST ?_;clear K r;intro W K r));clear ch;have ch:=HHC.out _ _ _ _ K ZMB)
 clear ch cr
 have K:=((K.add (x:=⟨rwP m Y,rwS m Y⟩) (K.okAt ZMB)).add (x:=(M.wV V).fam q) (K.okAt ZMB)).lessS (D':=((M.wV V).fam q::⟨rwP m Y,rwS m Y⟩::⟨rdP x0.B x0.m x0.d x0.k,rdS x0.B x0.m⟩::⟨rdP x0.A x0.n x0.c x0.l,rdS x0.A x0.n⟩::D)) Zb10
 go_loopg [42] M.N (fun gk s42 wr=>∃(k:Nat) (b2:Bool) (V2:Nat→Nat→Rw),k≤M.N∧gk=M.N-k∧s42=.int .i64 k∧Hid (jdj q M.N V2)∧Hid (LpQ i rr s k b b2 V V2)∧St w0 ((b0,#[.int .i64 x0.s,.slice x0.A x0.n x0.c,.int .i64 x0.t,.slice x0.B x0.m x0.d],29)::((db,(Value.bool b2::R).toArray,92)::(hb,recA Ln.cs m (lnF Y (M.hd q)) HJ,90)::((M.wV V2).rows q++L0))) ((M.wV V2).fam q::⟨rwP m Y,rwS m Y⟩::⟨rdP x0.B x0.m x0.d x0.k,rdS x0.B x0.m⟩::⟨rdP x0.A x0.n x0.c x0.l,rdS x0.A x0.n⟩::D) wr)
 case atStart=>exact ⟨0,_,V,Nat.zero_le _,rfl,rfl,HGV,jpk (LpQ.zero i rr s _ V),K⟩
 case round =>
  clear K
  obtain ⟨k,b2,V2,hk,rfl,rfl,HG2,HQ,K⟩:=hrel
  by_cases hlt:k<M.N
  ·have hki:(k:Int)<(M.N:Int):=by omega
   have hk0:(0:Int)≤(k:Int):=by omega
   by_cases hks:k=s
   ·have hse:((k:Int) !=(s:Int))=false:=by simp [hks]
    have HQ2:=jpk (show LpQ i rr s (k+1) b b2 V V2 from by
     subst hks
     exact HQ.out.skip)
    exact ZQ64
   ·have hse:((k:Int) !=(s:Int))=true:=by simp;omega
    obtain ⟨e1,e2,e3,e4⟩:=HQ.out.same Hir.out
    obtain ⟨bn,hbn⟩:∃bn,bn=(b2|| !jaP (V2 i k).q x0.q (V2 rr k).q):=⟨_,rfl⟩
    have HBn:=jpk hbn
    have HV:=jpk (fun (z:Rw) (zq:Rat) (hz:isQ z zq) (hs:jaP (V2 i k).q x0.q (V2 rr k).q=true→zq=(V2 i k).q-x0.q*(V2 rr k).q)=>HQ.out.step (b2:=bn) (x:=z) (z:=zq) hks (by rw [hbn,e1,e2,HX0.out]) hz (by rw [e1,e2,HX0.out] at hs;exact hs))
    have gx:=HG2.out i k Hi.out hlt
    have gq:=HG2.out rr k Hr.out hlt
    have K:=((K.famRdV (M:=M) (V:=V2) (i:=rr) (j:=k) ZMB Hr.out hlt).rdUp (x:=x0) ZMB ZMB).famRdV (M:=M) (V:=V2) (i:=i) (j:=k) ZMB Hi.out hlt
    have cq:=K.cellV (M:=M) (V:=V2) (r:=rr) (k:=k) hlt Zb15
    have cx:=K.cellV (M:=M) (V:=V2) (r:=i) (k:=k) hlt Zb14
    obtain ⟨x,hx⟩:∃x,x=V2 i k:=⟨_,rfl⟩
    obtain ⟨y,hy⟩:∃y,y=V2 rr k:=⟨_,rfl⟩
    rw [←hx,←hy] at K HV hbn
    rw [←hx] at gx
    rw [←hy] at gq
    have HX:=jpk hx
    have HY:=jpk hy
    have HSA:=jpk (fun W5 b5 D5 (h:St w0 ((b0,#[.int .i64 x0.s,.slice x0.A x0.n x0.c,.int .i64 x0.t,.slice x0.B x0.m x0.d],29)::((db,(Value.bool b5::R).toArray,92)::(hb,recA Ln.cs m (lnF Y (M.hd q)) HJ,90)::((M.wV V2).rows q++L0))) D5 W5)=>(show (W5.cell? ⟨db,6,none⟩=some (.slice (some ⟨M.rb i,0,none⟩) M.N (M.cp i))∧W5.cell? ⟨hb,rr*5+4,none⟩=some (.slice (some ⟨M.rb rr,0,none⟩) M.N (M.cp rr)))∧(W5.cell? ⟨b0,0,none⟩=some (.int .i64 x0.s)∧W5.cell? ⟨b0,1,none⟩=some (.slice x0.A x0.n x0.c)∧W5.cell? ⟨b0,2,none⟩=some (.int .i64 x0.t)∧W5.cell? ⟨b0,3,none⟩=some (.slice x0.B x0.m x0.d))∧(W5.cell? ⟨M.rb i,k*4,none⟩=some (.int .i64 x.s)∧W5.cell? ⟨M.rb i,k*4+1,none⟩=some (.slice x.A x.n x.c)∧W5.cell? ⟨M.rb i,k*4+2,none⟩=some (.int .i64 x.t)∧W5.cell? ⟨M.rb i,k*4+3,none⟩=some (.slice x.B x.m x.d))∧(W5.cell? ⟨M.rb rr,k*4,none⟩=some (.int .i64 y.s)∧W5.cell? ⟨M.rb rr,k*4+1,none⟩=some (.slice y.A y.n y.c)∧W5.cell? ⟨M.rb rr,k*4+2,none⟩=some (.int .i64 y.t)∧W5.cell? ⟨M.rb rr,k*4+3,none⟩=some (.slice y.B y.m y.d)) from by
     have r0:=h.rawS
     have cq:=h.cellV (M:=M) (V:=V2) (r:=rr) (k:=k) hlt Zb15
     have cx:=h.cellV (M:=M) (V:=V2) (r:=i) (k:=k) hlt Zb14
     rw [←HX.out] at cx
     rw [←HY.out] at cq
     exact ⟨⟨HHC.out _ _ _ _ h ZMB,(h.cellL (g:=hb) (h:=M.hd q) (Y:=Y) Hrm.out ZMB).2⟩,r0.1,cx,cq⟩))
    have HLs:=jpk (fun W5 (h:St w0 ((b0,#[.int .i64 x0.s,.slice x0.A x0.n x0.c,.int .i64 x0.t,.slice x0.B x0.m x0.d],29)::((db,(Value.bool b2::R).toArray,92)::(hb,recA Ln.cs m (lnF Y (M.hd q)) HJ,90)::((M.wV V2).rows q++L0))) (⟨rdP x.B x.m x.d x.k,rdS x.B x.m⟩::⟨rdP x.A x.n x.c x.l,rdS x.A x.n⟩::⟨rdP x0.B x0.m x0.d x0.k,rdS x0.B x0.m⟩::⟨rdP x0.A x0.n x0.c x0.l,rdS x0.A x0.n⟩::⟨rdP y.B y.m y.d y.k,rdS y.B y.m⟩::⟨rdP y.A y.n y.c y.l,rdS y.A y.n⟩::((M.wV V2).fam q::⟨rwP m Y,rwS m Y⟩::⟨rdP x0.B x0.m x0.d x0.k,rdS x0.B x0.m⟩::⟨rdP x0.A x0.n x0.c x0.l,rdS x0.A x0.n⟩::D)) W5)=>jc9 w0 W5 _ ((b0,#[.int .i64 x0.s,.slice x0.A x0.n x0.c,.int .i64 x0.t,.slice x0.B x0.m x0.d],29)::((db,(Value.bool bn::R).toArray,92)::(hb,recA Ln.cs m (lnF Y (M.hd q)) HJ,90)::((M.wV V2).rows q++L0))) _ db b2 bn R 92 x x0 y x.q x0.q y.q h gx HI0.out gq hbn (.tail _ (.head _)))
    have hcap3:=(K.rd (A:=x.A) (n:=x.n) (cap:=x.c) (l:=x.l) ZMB).caps
    have hcap4:=(K.rd (A:=x.B) (n:=x.m) (cap:=x.d) (l:=x.k) ZMB).caps
    have hcap5:=(K.rd (A:=y.A) (n:=y.n) (cap:=y.c) (l:=y.l) ZMB).caps
    have hcap6:=(K.rd (A:=y.B) (n:=y.m) (cap:=y.d) (l:=y.k) ZMB).caps
    clear hx hy hbn HQ e1 e2 e3 e4 cq cx gx gq
    go_upto_region 7 with fail
    have K0:=K.drew
    have s0:=HSA.out _ _ _ K0
    clear K
    refine jak 25 (fun W5=>(W5.cell? ⟨db,6,none⟩=some (.slice (some ⟨M.rb i,0,none⟩) M.N (M.cp i))∧W5.cell? ⟨hb,rr*5+4,none⟩=some (.slice (some ⟨M.rb rr,0,none⟩) M.N (M.cp rr)))∧(W5.cell? ⟨b0,0,none⟩=some (.int .i64 x0.s)∧W5.cell? ⟨b0,1,none⟩=some (.slice x0.A x0.n x0.c)∧W5.cell? ⟨b0,2,none⟩=some (.int .i64 x0.t)∧W5.cell? ⟨b0,3,none⟩=some (.slice x0.B x0.m x0.d))∧(W5.cell? ⟨M.rb i,k*4,none⟩=some (.int .i64 x.s)∧W5.cell? ⟨M.rb i,k*4+1,none⟩=some (.slice x.A x.n x.c)∧W5.cell? ⟨M.rb i,k*4+2,none⟩=some (.int .i64 x.t)∧W5.cell? ⟨M.rb i,k*4+3,none⟩=some (.slice x.B x.m x.d))∧(W5.cell? ⟨M.rb rr,k*4,none⟩=some (.int .i64 y.s)∧W5.cell? ⟨M.rb rr,k*4+1,none⟩=some (.slice y.A y.n y.c)∧W5.cell? ⟨M.rb rr,k*4+2,none⟩=some (.int .i64 y.t)∧W5.cell? ⟨M.rb rr,k*4+3,none⟩=some (.slice y.B y.m y.d))) Zb9 s0 (fun hSh=>?_)
    clear s0
    refine jaa.tk 0 rfl ?_
    refine jaa.tk 1 rfl ?_
    refine jaa.tk 2 rfl ?_
    refine jaa.tk 3 rfl ?_
    refine jaa.tk 4 rfl ?_
    refine jaa.tk 5 rfl ?_
    refine jaa.tk 6 rfl ?_
    refine jaa.tk 7 rfl ?_
    refine jaa.tk 8 rfl ?_
    refine jaa.tk 9 rfl ?_
    refine jaa.tk 10 rfl ?_
    refine jaa.tk 11 rfl ?_
    refine jaa.tk 12 rfl ?_
    refine jaa.tk 13 rfl ?_
    refine jaa.tk 14 rfl ?_
    refine jaa.tk 15 rfl ?_
    refine jaa.tk 16 rfl ?_
    refine jaa.tk 17 rfl ?_
    refine jaa.tk 18 rfl ?_
    refine jaa.tk 19 rfl ?_
    refine jaa.tk 20 rfl ?_
    refine jaa.tk 21 rfl ?_
    refine jaa.tk 22 rfl ?_
    refine jaa.on 23 rfl fun KK hKK=>?_
    go_simp
    go_at_call 137;refine (HLs.out _ K0).mono ?_;rintro e w5 ⟨z,zq,rfl,gz,k5⟩
    go_wp2_with fail
    refine hKK.out _ _ ?_ (fun hSh=>?_)
    ·exact HSA.out _ _ _ k5
    clear hKK KK
    refine ZPT ?_
    refine jaa.tk 24 rfl ?_
    refine jaa.last rfl Zb9 ?_
    have HQ:=jpk (HV.out z zq gz.out.1 gz.out.2)
    have HG3:=jpk (HG2.out.put (r:=i) (k:=k) gz.out.1)
    clear K0 HSA HLs hSh HV gz HX HY HBn
    refine k5.storeR (v:=V2 i) (J:=M.J i) (t:=29) rfl rfl _ _ _ rfl (M.rb i) k M.N z rfl rfl hlt Zb16 jar ?_
    intro W8 K
    clear k5
    have HK:=jpk ((K.famPutV (M:=M) (V:=V2) (n:=q) ZMB z ZMB ZMB i k).lessS (D':=((M.wV (put2 V2 i k z)).fam q::⟨rwP m Y,rwS m Y⟩::⟨rdP x0.B x0.m x0.d x0.k,rdS x0.B x0.m⟩::⟨rdP x0.A x0.n x0.c x0.l,rdS x0.A x0.n⟩::D)) Zb10)
    exact ZQ111
  ·have e:k=M.N:=by omega
   have HQ2:=jpk (show LpQ i rr s M.N b b2 V V2 from by rw [←e];exact HQ.out)
   have hki:¬(k:Int)<(M.N:Int):=by omega
   obtain ⟨e1,e2,e3,e4⟩:=HQ2.out.same Hir.out
   obtain ⟨bn,hbn⟩:∃bn,bn=(b2|| !jaP 0 x0.q (V2 rr s).q):=⟨_,rfl⟩
   have HV:=jpk (fun (z:Rw) (zq:Rat) (hz:isQ z zq) (hs:jaP 0 x0.q (V2 rr s).q=true→zq=0-x0.q*(V2 rr s).q)=>HQ2.out.last (b2:=bn) (x:=z) (z:=zq) Hs.out (by rw [hbn,e4,HX0.out]) hz (by rw [e4,HX0.out] at hs;exact hs))
   have gq:=HG2.out rr s Hr.out Hs.out
   have K:=K.famRdV (M:=M) (V:=V2) (i:=rr) (j:=s) ZMB Hr.out Hs.out
   obtain ⟨y,hy⟩:∃y,y=V2 rr s:=⟨_,rfl⟩
   rw [←hy] at K HV hbn
   rw [←hy] at gq
   have HY:=jpk hy
   have HSA:=jpk (fun W5 b5 D5 (h:St w0 ((b0,#[.int .i64 x0.s,.slice x0.A x0.n x0.c,.int .i64 x0.t,.slice x0.B x0.m x0.d],29)::((db,(Value.bool b5::R).toArray,92)::(hb,recA Ln.cs m (lnF Y (M.hd q)) HJ,90)::((M.wV V2).rows q++L0))) D5 W5)=>(show (W5.cell? ⟨db,6,none⟩=some (.slice (some ⟨M.rb i,0,none⟩) M.N (M.cp i))∧W5.cell? ⟨hb,rr*5+4,none⟩=some (.slice (some ⟨M.rb rr,0,none⟩) M.N (M.cp rr)))∧(W5.cell? ⟨b0,0,none⟩=some (.int .i64 x0.s)∧W5.cell? ⟨b0,1,none⟩=some (.slice x0.A x0.n x0.c)∧W5.cell? ⟨b0,2,none⟩=some (.int .i64 x0.t)∧W5.cell? ⟨b0,3,none⟩=some (.slice x0.B x0.m x0.d))∧(W5.cell? ⟨M.rb rr,s*4,none⟩=some (.int .i64 y.s)∧W5.cell? ⟨M.rb rr,s*4+1,none⟩=some (.slice y.A y.n y.c)∧W5.cell? ⟨M.rb rr,s*4+2,none⟩=some (.int .i64 y.t)∧W5.cell? ⟨M.rb rr,s*4+3,none⟩=some (.slice y.B y.m y.d)) from by
    have r0:=h.rawS
    have cq:=h.cellV (M:=M) (V:=V2) (r:=rr) (k:=s) Hs.out Zb15
    rw [←HY.out] at cq
    exact ⟨⟨HHC.out _ _ _ _ h ZMB,(h.cellL (g:=hb) (h:=M.hd q) (Y:=Y) Hrm.out ZMB).2⟩,r0.1,cq⟩))
   have HNu:=jpk (fun W5 D5 (h:St w0 ((b0,#[.int .i64 x0.s,.slice x0.A x0.n x0.c,.int .i64 x0.t,.slice x0.B x0.m x0.d],29)::((db,(Value.bool b2::R).toArray,92)::(hb,recA Ln.cs m (lnF Y (M.hd q)) HJ,90)::((M.wV V2).rows q++L0))) D5 W5)=>(jbc W5).mono fun e W6 ⟨s7,A7,n7,c7,l7,t7,B7,m7,d7,k7,he,⟨hra,hrb⟩,ho,⟨hfa,hfb⟩,hbl⟩=>(⟨⟨s7,A7,n7,c7,l7,t7,B7,m7,d7,k7⟩,he,jpk (⟨ho,jbe⟩:isQ ⟨s7,A7,n7,c7,l7,t7,B7,m7,d7,k7⟩ 0),h.retF hbl hra hrb hfa hfb⟩:∃z:Rw,e=Ending.returned (.agg #[.int .i64 z.s,.slice z.A z.n z.c,.int .i64 z.t,.slice z.B z.m z.d])∧Hid (isQ z 0)∧St w0 ((b0,#[.int .i64 x0.s,.slice x0.A x0.n x0.c,.int .i64 x0.t,.slice x0.B x0.m x0.d],29)::((db,(Value.bool b2::R).toArray,92)::(hb,recA Ln.cs m (lnF Y (M.hd q)) HJ,90)::((M.wV V2).rows q++L0))) (⟨rdP z.B z.m z.d z.k,rdS z.B z.m⟩::⟨rdP z.A z.n z.c z.l,rdS z.A z.n⟩::D5) W6))
   have HLs:=jpk (fun W5 (z:Rw) (hz:isQ z 0) (h:St w0 ((b0,#[.int .i64 x0.s,.slice x0.A x0.n x0.c,.int .i64 x0.t,.slice x0.B x0.m x0.d],29)::((db,(Value.bool b2::R).toArray,92)::(hb,recA Ln.cs m (lnF Y (M.hd q)) HJ,90)::((M.wV V2).rows q++L0))) (⟨rdP z.B z.m z.d z.k,rdS z.B z.m⟩::⟨rdP z.A z.n z.c z.l,rdS z.A z.n⟩::⟨rdP y.B y.m y.d y.k,rdS y.B y.m⟩::⟨rdP y.A y.n y.c y.l,rdS y.A y.n⟩::((M.wV V2).fam q::⟨rwP m Y,rwS m Y⟩::⟨rdP x0.B x0.m x0.d x0.k,rdS x0.B x0.m⟩::⟨rdP x0.A x0.n x0.c x0.l,rdS x0.A x0.n⟩::D)) W5)=>jc9 w0 W5 _ ((b0,#[.int .i64 x0.s,.slice x0.A x0.n x0.c,.int .i64 x0.t,.slice x0.B x0.m x0.d],29)::((db,(Value.bool bn::R).toArray,92)::(hb,recA Ln.cs m (lnF Y (M.hd q)) HJ,90)::((M.wV V2).rows q++L0))) ((M.wV V2).fam q::⟨rwP m Y,rwS m Y⟩::⟨rdP x0.B x0.m x0.d x0.k,rdS x0.B x0.m⟩::⟨rdP x0.A x0.n x0.c x0.l,rdS x0.A x0.n⟩::D) db b2 bn R 92 z x0 y 0 x0.q y.q ((((h.rdUp (x:=y) ZMB ZMB).rdUp (x:=x0) ZMB ZMB).rdUp (x:=z) ZMB ZMB).lessS Zb10) hz HI0.out gq hbn (.tail _ (.head _)))
   have hcap5:=(K.rd (A:=y.A) (n:=y.n) (cap:=y.c) (l:=y.l) ZMB).caps
   have hcap6:=(K.rd (A:=y.B) (n:=y.m) (cap:=y.d) (l:=y.k) ZMB).caps
   clear hy hbn HQ HQ2 e1 e2 e3 e4 gq
   go_upto_region 9 with fail
   have K0:=K.drew
   have s0:=HSA.out _ _ _ K0
   clear K
   refine jak 19 (fun W5=>(W5.cell? ⟨db,6,none⟩=some (.slice (some ⟨M.rb i,0,none⟩) M.N (M.cp i))∧W5.cell? ⟨hb,rr*5+4,none⟩=some (.slice (some ⟨M.rb rr,0,none⟩) M.N (M.cp rr)))∧(W5.cell? ⟨b0,0,none⟩=some (.int .i64 x0.s)∧W5.cell? ⟨b0,1,none⟩=some (.slice x0.A x0.n x0.c)∧W5.cell? ⟨b0,2,none⟩=some (.int .i64 x0.t)∧W5.cell? ⟨b0,3,none⟩=some (.slice x0.B x0.m x0.d))∧(W5.cell? ⟨M.rb rr,s*4,none⟩=some (.int .i64 y.s)∧W5.cell? ⟨M.rb rr,s*4+1,none⟩=some (.slice y.A y.n y.c)∧W5.cell? ⟨M.rb rr,s*4+2,none⟩=some (.int .i64 y.t)∧W5.cell? ⟨M.rb rr,s*4+3,none⟩=some (.slice y.B y.m y.d))) Zb9 s0 (fun hSh=>?_)
   clear s0
   refine jaa.tk 0 rfl ?_
   refine jaa.tk 1 rfl ?_
   refine jaa.tk 2 rfl ?_
   refine jaa.tk 3 rfl ?_
   refine jaa.tk 4 rfl ?_
   refine jaa.tk 5 rfl ?_
   refine jaa.tk 6 rfl ?_
   refine jaa.tk 7 rfl ?_
   refine jaa.tk 9 rfl ?_
   refine jaa.tk 10 rfl ?_
   refine jaa.tk 11 rfl ?_
   refine jaa.tk 12 rfl ?_
   refine jaa.tk 13 rfl ?_
   refine jaa.tk 14 rfl ?_
   refine jaa.tk 15 rfl ?_
   refine jaa.tk 16 rfl ?_
   refine jaa.on 8 rfl fun KK hKK=>?_
   go_simp
   go_at_call 105;refine (HNu.out _ _ K0).mono ?_;rintro e w4 ⟨z0,rfl,g0,k4⟩
   go_wp2_with fail
   refine hKK.out _ _ ?_ (fun hSh=>?_)
   ·exact HSA.out _ _ _ k4
   clear hKK KK
   refine ZPT ?_
   refine jaa.on 17 rfl fun KK hKK=>?_
   go_simp
   go_at_call 137;refine (HLs.out _ _ g0.out k4).mono ?_;rintro e w5 ⟨z,zq,rfl,gz,k5⟩
   go_wp2_with fail
   refine hKK.out _ _ ?_ (fun hSh=>?_)
   ·exact HSA.out _ _ _ k5
   clear hKK KK
   refine ZPT ?_
   refine jaa.tk 18 rfl ?_
   refine jaa.last rfl Zb9 ?_
   have HQ:=jpk (HV.out z zq gz.out.1 gz.out.2)
   have HG3:=jpk (HG2.out.put (r:=i) (k:=s) gz.out.1)
   clear k4 K0 HSA HLs HNu hSh HV gz g0 HY
   refine k5.storeR (v:=V2 i) (J:=M.J i) (t:=29) rfl rfl _ _ _ rfl (M.rb i) s M.N z rfl rfl Hs.out Zb16 jar ?_
   intro W8 K
   clear k5
   have HK:=jpk (((K.famPutV (M:=M) (V:=V2) (n:=q) ZMB z ZMB ZMB i s).lessS (D':=((M.wV (put2 V2 i s z)).fam q::⟨rwP m Y,rwS m Y⟩::D)) Zb10).part (List.sublist_cons_self _ _))
   clear K
   have HE:=jpk (show TkP w0 L0 D M m q i rr s db hb HJ R true b Y V (.returned (.tuple #[])) W8 from ⟨bn,Y,put2 V2 i s z,rfl,jpk ⟨HGY.out,HG3.out⟩,jpk (HQ.out.1.congr ⟨fun h=>⟨(fun e=>by cases e),h⟩,fun h=>h.2⟩),jpk HQ.out.2,jpk ⟨fun _ _=>rfl,fun _=>rfl,fun e=>by cases e⟩,HK.out⟩)
   go_wp2_with fail
   exact bodyPost_ret (v:=.tuple #[]) (by simp [results,Tryz.results134,go_sem]) rfl HE.out
theorem jku (w0 w:World) (M:Mm) (L0:List Blk) (D:List Hl) (m q i rr s db hb:Nat) (HJ R:List Value) (b:Bool) (Y:Nat→Rw) (V:Nat→Nat→Rw)
 (K:St w0 ((db,(Value.bool b::R).toArray,92)::(hb,recA Ln.cs m (lnF Y (M.hd q)) HJ,90)::((M.wV V).rows q++L0)) ((M.wV V).fam q::⟨rwP m Y,rwS m Y⟩::D) w) (hi:i<m) (hmq:m<q) (hrm:rr<m) (hir:i≠rr) (hs:s<M.N) (hN:M.N≤1000) (hcp:∀i,i<q→M.N≤M.cp i∧M.cp i≤9223372036854775807) (hgy:jdE m Y) (hgv:jdj q M.N V) :
 Calls Tryz.prog 134 #[.pointer (some ⟨db,0,none⟩),.pointer (some ⟨hb,i*5,none⟩),.pointer (some ⟨hb,rr*5,none⟩),.int .i64 s,.bool false] w (TkP w0 L0 D M m q i rr s db hb HJ R false b Y V):=by
 have HGY:=jpk hgy
 have HGV:=jpk hgv
 have Him:=jpk hi
 have Hi:=jpk (Nat.lt_trans hi hmq)
 have Hr:=jpk (Nat.lt_trans hrm hmq)
 have Hrm:=jpk hrm
 have Hs:=jpk hs
 have Hir:=jpk hir
 have hcpi:=hcp i Hi.out
 have hcpr:=hcp rr Hr.out
 have hsi:(s:Int)<(M.N:Int):=by omega
 have hs0:(0:Int)≤(s:Int):=by omega
 clear hi hir hcp hgy hgv hrm hmq
 have K:=K.famRdV (M:=M) (V:=V) (i:=i) (j:=s) ZMB Hi.out hs
 have ch:=(K.cellL (g:=hb) (h:=M.hd q) (Y:=Y) Him.out ZMB).2
 have cr:=K.cellV (M:=M) (V:=V) (r:=i) (k:=s) hs Zb14
 change w.cell? ⟨hb,i*5+4,none⟩=some (.slice (some ⟨M.rb i,0,none⟩) M.N (M.cp i)) at ch
 obtain ⟨x0,hx0⟩:∃x0,x0=V i s:=⟨_,rfl⟩
 rw [←hx0] at cr K
 have HI0:=jpk (show isQ x0 x0.q from by rw [hx0];exact HGV.out i s Hi.out hs)
 have HX0:=jpk (show x0.q=(V i s).q from by rw [hx0])
 have hcap1:=(K.rd (A:=x0.A) (n:=x0.n) (cap:=x0.c) (l:=x0.l) ZMB).caps
 have hcap2:=(K.rd (A:=x0.B) (n:=x0.m) (cap:=x0.d) (l:=x0.k) ZMB).caps
 clear hx0 hs
 have r:=K.raw
 have HL4:=jpk (fun W5 L5 D5 Y5 J5 t5 (h:St w0 L5 D5 W5) (hm:((hb,recA Ln.cs m (lnF Y5 (M.hd q)) J5,t5):Blk)∈L5)=>(show W5.cell? ⟨hb,i*5+4,none⟩=some (.slice (some ⟨M.rb i,0,none⟩) M.N (M.cp i)) from (h.cellL (g:=hb) (h:=M.hd q) (Y:=Y5) Him.out hm).2))
 go_enter Tryz.func134,Tryz.ntmps134
 go_upto_region 2 with ((first|(refine ZAL ?_;clear K r;(first|((fail_if_success revert b0);intro W b0 K r)|((fail_if_success revert b1);intro W b1 K r)|((fail_if_success revert b2);intro W b2 K r)|((fail_if_success revert b3);intro W b3 K r)|((fail_if_success revert b4);intro W b4 K r)|((fail_if_success revert b5);intro W b5 K r)|intro W b K r))|(refine ZST ?_;clear K r;intro W K r));clear ch;have ch:=HL4.out _ _ _ _ _ _ K ZMB)
 clear ch cr
 obtain ⟨b1,hb1⟩:∃b1,b1=(b|| !jaP (Y i).q x0.q (Y rr).q):=⟨_,rfl⟩
 have HV:=jpk (fun (z:Rw) (zq:Rat) (hz:isQ z zq) (hs:jaP (Y i).q x0.q (Y rr).q=true→zq=(Y i).q-x0.q*(Y rr).q)=>(show jdE m (putF Y i z)∧FulK b b1 (TkY false i rr s Y V)∧TkW false i rr s Y V (putF Y i z) from by
  rw [HX0.out] at hs hb1
  refine ⟨HGY.out.put hz,?_,fun k hk=>jad hk,(fun e=>by cases e),fun _ hk=>?_⟩
  ·unfold FulK TkY
   rw [hb1]
   cases b <;> cases jaP (Y i).q (V i s).q (Y rr).q <;> simp
  ·rw [jaf,hz.q]
   exact hs hk))
 have gx:=HGY.out i Him.out
 have gq:=HGY.out rr Hrm.out
 have K:=((K.rwRd (Y:=Y) (n:=m) (i:=rr) ZMB Hrm.out).rdUp (x:=x0) ZMB ZMB).rwRd (Y:=Y) (n:=m) (i:=i) ZMB Him.out
 have HSA:=jpk (fun W5 b5 D5 (h:St w0 ((b0,#[.int .i64 x0.s,.slice x0.A x0.n x0.c,.int .i64 x0.t,.slice x0.B x0.m x0.d],29)::((db,(Value.bool b5::R).toArray,92)::(hb,recA Ln.cs m (lnF Y (M.hd q)) HJ,90)::((M.wV V).rows q++L0))) D5 W5)=>(show (W5.cell? ⟨b0,0,none⟩=some (.int .i64 x0.s)∧W5.cell? ⟨b0,1,none⟩=some (.slice x0.A x0.n x0.c)∧W5.cell? ⟨b0,2,none⟩=some (.int .i64 x0.t)∧W5.cell? ⟨b0,3,none⟩=some (.slice x0.B x0.m x0.d))∧(W5.cell? ⟨hb,i*5,none⟩=some (.int .i64 (Y i).s)∧W5.cell? ⟨hb,i*5+1,none⟩=some (.slice (Y i).A (Y i).n (Y i).c)∧W5.cell? ⟨hb,i*5+2,none⟩=some (.int .i64 (Y i).t)∧W5.cell? ⟨hb,i*5+3,none⟩=some (.slice (Y i).B (Y i).m (Y i).d))∧(W5.cell? ⟨hb,rr*5,none⟩=some (.int .i64 (Y rr).s)∧W5.cell? ⟨hb,rr*5+1,none⟩=some (.slice (Y rr).A (Y rr).n (Y rr).c)∧W5.cell? ⟨hb,rr*5+2,none⟩=some (.int .i64 (Y rr).t)∧W5.cell? ⟨hb,rr*5+3,none⟩=some (.slice (Y rr).B (Y rr).m (Y rr).d)) from by
  have r0:=h.rawS
  exact ⟨r0.1,(h.cellL (g:=hb) (h:=M.hd q) (Y:=Y) Him.out ZMB).1,(h.cellL (g:=hb) (h:=M.hd q) (Y:=Y) Hrm.out ZMB).1⟩))
 have HLs:=jpk (fun W5 D5 (h:St w0 ((b0,#[.int .i64 x0.s,.slice x0.A x0.n x0.c,.int .i64 x0.t,.slice x0.B x0.m x0.d],29)::((db,(Value.bool b::R).toArray,92)::(hb,recA Ln.cs m (lnF Y (M.hd q)) HJ,90)::((M.wV V).rows q++L0))) (⟨rdP (Y i).B (Y i).m (Y i).d (Y i).k,rdS (Y i).B (Y i).m⟩::⟨rdP (Y i).A (Y i).n (Y i).c (Y i).l,rdS (Y i).A (Y i).n⟩::⟨rdP x0.B x0.m x0.d x0.k,rdS x0.B x0.m⟩::⟨rdP x0.A x0.n x0.c x0.l,rdS x0.A x0.n⟩::⟨rdP (Y rr).B (Y rr).m (Y rr).d (Y rr).k,rdS (Y rr).B (Y rr).m⟩::⟨rdP (Y rr).A (Y rr).n (Y rr).c (Y rr).l,rdS (Y rr).A (Y rr).n⟩::D5) W5)=>jc9 w0 W5 _ ((b0,#[.int .i64 x0.s,.slice x0.A x0.n x0.c,.int .i64 x0.t,.slice x0.B x0.m x0.d],29)::((db,(Value.bool b1::R).toArray,92)::(hb,recA Ln.cs m (lnF Y (M.hd q)) HJ,90)::((M.wV V).rows q++L0))) D5 db b b1 R 92 (Y i) x0 (Y rr) (Y i).q x0.q (Y rr).q h gx HI0.out gq hb1 (.tail _ (.head _)))
 have hcap3:=(K.rd (A:=(Y i).A) (n:=(Y i).n) (cap:=(Y i).c) (l:=(Y i).l) ZMB).caps
 have hcap4:=(K.rd (A:=(Y i).B) (n:=(Y i).m) (cap:=(Y i).d) (l:=(Y i).k) ZMB).caps
 have hcap5:=(K.rd (A:=(Y rr).A) (n:=(Y rr).n) (cap:=(Y rr).c) (l:=(Y rr).l) ZMB).caps
 have hcap6:=(K.rd (A:=(Y rr).B) (n:=(Y rr).m) (cap:=(Y rr).d) (l:=(Y rr).k) ZMB).caps
 clear gx gq r hb1
 have K0:=K.drew
 have s0:=HSA.out _ _ _ K0
 clear K
 refine jak 16 (fun W5=>(W5.cell? ⟨b0,0,none⟩=some (.int .i64 x0.s)∧W5.cell? ⟨b0,1,none⟩=some (.slice x0.A x0.n x0.c)∧W5.cell? ⟨b0,2,none⟩=some (.int .i64 x0.t)∧W5.cell? ⟨b0,3,none⟩=some (.slice x0.B x0.m x0.d))∧(W5.cell? ⟨hb,i*5,none⟩=some (.int .i64 (Y i).s)∧W5.cell? ⟨hb,i*5+1,none⟩=some (.slice (Y i).A (Y i).n (Y i).c)∧W5.cell? ⟨hb,i*5+2,none⟩=some (.int .i64 (Y i).t)∧W5.cell? ⟨hb,i*5+3,none⟩=some (.slice (Y i).B (Y i).m (Y i).d))∧(W5.cell? ⟨hb,rr*5,none⟩=some (.int .i64 (Y rr).s)∧W5.cell? ⟨hb,rr*5+1,none⟩=some (.slice (Y rr).A (Y rr).n (Y rr).c)∧W5.cell? ⟨hb,rr*5+2,none⟩=some (.int .i64 (Y rr).t)∧W5.cell? ⟨hb,rr*5+3,none⟩=some (.slice (Y rr).B (Y rr).m (Y rr).d))) Zb9 s0 (fun hSh=>?_)
 clear s0
 refine jaa.tk 0 rfl ?_
 refine jaa.tk 1 rfl ?_
 refine jaa.tk 2 rfl ?_
 refine jaa.tk 3 rfl ?_
 refine jaa.tk 4 rfl ?_
 refine jaa.tk 5 rfl ?_
 refine jaa.tk 6 rfl ?_
 refine jaa.tk 7 rfl ?_
 refine jaa.tk 8 rfl ?_
 refine jaa.tk 9 rfl ?_
 refine jaa.tk 10 rfl ?_
 refine jaa.tk 11 rfl ?_
 refine jaa.tk 12 rfl ?_
 refine jaa.on 13 rfl fun KK hKK=>?_
 go_simp
 go_at_call 137;refine (HLs.out _ _ K0).mono ?_;rintro e w5 ⟨z1,z1q,rfl,gz,k5⟩
 go_wp2_with fail
 refine hKK.out _ _ ?_ (fun hSh=>?_)
 ·exact HSA.out _ _ _ k5
 clear hKK KK
 refine ZPT ?_
 refine jaa.on 14 rfl fun KK hKK=>?_
 go_simp
 refine hKK.out _ _ Zb6 (fun hSh=>?_)
 clear hKK KK
 refine ZPT ?_
 refine jaa.on 15 rfl fun KK hKK=>?_
 go_simp
 refine hKK.out _ _ Zb6 (fun hSh=>?_)
 clear hKK KK
 refine ZPT ?_
 refine jaa.last rfl Zb9 ?_
 have HV1:=jpk (HV.out z1 z1q gz.out.1 gz.out.2)
 have HGY1:=jpk HV1.out.1
 have HF1:=jpk HV1.out.2.1
 have HYV:=jpk HV1.out.2.2
 clear HSA HLs hSh HV gz HV1 K0
 refine k5.storeL (Y:=Y) (h:=M.hd q) (J:=HJ) (t:=90) rfl rfl _ _ _ rfl hb i m z1 rfl rfl Him.out ZUA jar ?_
 intro W8 K
 clear k5
 replace K:=K.rwPut (v:=Y) z1 i ZMB ZMB ZMB
 replace K:=((K.add (x:=(M.wV V).fam q) (K.okAt ZMB)).lessS (D':=((M.wV V).fam q::⟨rwP m (putF Y i z1),rwS m (putF Y i z1)⟩::⟨rdP x0.B x0.m x0.d x0.k,rdS x0.B x0.m⟩::⟨rdP x0.A x0.n x0.c x0.l,rdS x0.A x0.n⟩::D)) Zb10)
 obtain ⟨Y1,hY1⟩:∃Y1,Y1=putF Y i z1:=⟨_,rfl⟩
 rw [←hY1] at K HGY1 HYV
 clear hY1
 have r:=K.rawS
 have ch:=HL4.out _ _ _ _ _ _ K ZMB
 go_wp2_with fail
 clear ch r
 go_loopg [42] M.N (fun gk s42 wr=>∃(k:Nat) (b2:Bool) (V2:Nat→Nat→Rw),k≤M.N∧gk=M.N-k∧s42=.int .i64 k∧Hid (jdj q M.N V2)∧Hid (LpQ i rr s k b1 b2 V V2)∧St w0 ((b0,#[.int .i64 x0.s,.slice x0.A x0.n x0.c,.int .i64 x0.t,.slice x0.B x0.m x0.d],29)::((db,(Value.bool b2::R).toArray,92)::(hb,recA Ln.cs m (lnF Y1 (M.hd q)) HJ,90)::((M.wV V2).rows q++L0))) ((M.wV V2).fam q::⟨rwP m Y1,rwS m Y1⟩::⟨rdP x0.B x0.m x0.d x0.k,rdS x0.B x0.m⟩::⟨rdP x0.A x0.n x0.c x0.l,rdS x0.A x0.n⟩::D) wr)
 case atStart=>exact ⟨0,_,V,Nat.zero_le _,rfl,rfl,HGV,jpk (LpQ.zero i rr s _ V),K⟩
 case round =>
  clear K
  obtain ⟨k,b2,V2,hk,rfl,rfl,HG2,HQ,K⟩:=hrel
  by_cases hlt:k<M.N
  ·have hki:(k:Int)<(M.N:Int):=by omega
   have hk0:(0:Int)≤(k:Int):=by omega
   by_cases hks:k=s
   ·have hse:((k:Int) !=(s:Int))=false:=by simp [hks]
    have HQ2:=jpk (show LpQ i rr s (k+1) b1 b2 V V2 from by
     subst hks
     exact HQ.out.skip)
    exact ZQ64
   ·have hse:((k:Int) !=(s:Int))=true:=by simp;omega
    obtain ⟨e1,e2,e3,e4⟩:=HQ.out.same Hir.out
    obtain ⟨bn,hbn⟩:∃bn,bn=(b2|| !jaP (V2 i k).q x0.q (V2 rr k).q):=⟨_,rfl⟩
    have HBn:=jpk hbn
    have HV:=jpk (fun (z:Rw) (zq:Rat) (hz:isQ z zq) (hs:jaP (V2 i k).q x0.q (V2 rr k).q=true→zq=(V2 i k).q-x0.q*(V2 rr k).q)=>HQ.out.step (b2:=bn) (x:=z) (z:=zq) hks (by rw [hbn,e1,e2,HX0.out]) hz (by rw [e1,e2,HX0.out] at hs;exact hs))
    have gx:=HG2.out i k Hi.out hlt
    have gq:=HG2.out rr k Hr.out hlt
    have K:=((K.famRdV (M:=M) (V:=V2) (i:=rr) (j:=k) ZMB Hr.out hlt).rdUp (x:=x0) ZMB ZMB).famRdV (M:=M) (V:=V2) (i:=i) (j:=k) ZMB Hi.out hlt
    have cq:=K.cellV (M:=M) (V:=V2) (r:=rr) (k:=k) hlt Zb15
    have cx:=K.cellV (M:=M) (V:=V2) (r:=i) (k:=k) hlt Zb14
    obtain ⟨x,hx⟩:∃x,x=V2 i k:=⟨_,rfl⟩
    obtain ⟨y,hy⟩:∃y,y=V2 rr k:=⟨_,rfl⟩
    rw [←hx,←hy] at K HV hbn
    rw [←hx] at gx
    rw [←hy] at gq
    have HX:=jpk hx
    have HY:=jpk hy
    have HSA:=jpk (fun W5 b5 D5 (h:St w0 ((b0,#[.int .i64 x0.s,.slice x0.A x0.n x0.c,.int .i64 x0.t,.slice x0.B x0.m x0.d],29)::((db,(Value.bool b5::R).toArray,92)::(hb,recA Ln.cs m (lnF Y1 (M.hd q)) HJ,90)::((M.wV V2).rows q++L0))) D5 W5)=>(show (W5.cell? ⟨hb,i*5+4,none⟩=some (.slice (some ⟨M.rb i,0,none⟩) M.N (M.cp i))∧W5.cell? ⟨hb,rr*5+4,none⟩=some (.slice (some ⟨M.rb rr,0,none⟩) M.N (M.cp rr)))∧(W5.cell? ⟨b0,0,none⟩=some (.int .i64 x0.s)∧W5.cell? ⟨b0,1,none⟩=some (.slice x0.A x0.n x0.c)∧W5.cell? ⟨b0,2,none⟩=some (.int .i64 x0.t)∧W5.cell? ⟨b0,3,none⟩=some (.slice x0.B x0.m x0.d))∧(W5.cell? ⟨M.rb i,k*4,none⟩=some (.int .i64 x.s)∧W5.cell? ⟨M.rb i,k*4+1,none⟩=some (.slice x.A x.n x.c)∧W5.cell? ⟨M.rb i,k*4+2,none⟩=some (.int .i64 x.t)∧W5.cell? ⟨M.rb i,k*4+3,none⟩=some (.slice x.B x.m x.d))∧(W5.cell? ⟨M.rb rr,k*4,none⟩=some (.int .i64 y.s)∧W5.cell? ⟨M.rb rr,k*4+1,none⟩=some (.slice y.A y.n y.c)∧W5.cell? ⟨M.rb rr,k*4+2,none⟩=some (.int .i64 y.t)∧W5.cell? ⟨M.rb rr,k*4+3,none⟩=some (.slice y.B y.m y.d)) from by
     have r0:=h.rawS
     have cq:=h.cellV (M:=M) (V:=V2) (r:=rr) (k:=k) hlt Zb15
     have cx:=h.cellV (M:=M) (V:=V2) (r:=i) (k:=k) hlt Zb14
     rw [←HX.out] at cx
     rw [←HY.out] at cq
     exact ⟨⟨HL4.out _ _ _ _ _ _ h ZMB,(h.cellL (g:=hb) (h:=M.hd q) (Y:=Y1) Hrm.out ZMB).2⟩,r0.1,cx,cq⟩))
    have HLs:=jpk (fun W5 (h:St w0 ((b0,#[.int .i64 x0.s,.slice x0.A x0.n x0.c,.int .i64 x0.t,.slice x0.B x0.m x0.d],29)::((db,(Value.bool b2::R).toArray,92)::(hb,recA Ln.cs m (lnF Y1 (M.hd q)) HJ,90)::((M.wV V2).rows q++L0))) (⟨rdP x.B x.m x.d x.k,rdS x.B x.m⟩::⟨rdP x.A x.n x.c x.l,rdS x.A x.n⟩::⟨rdP x0.B x0.m x0.d x0.k,rdS x0.B x0.m⟩::⟨rdP x0.A x0.n x0.c x0.l,rdS x0.A x0.n⟩::⟨rdP y.B y.m y.d y.k,rdS y.B y.m⟩::⟨rdP y.A y.n y.c y.l,rdS y.A y.n⟩::((M.wV V2).fam q::⟨rwP m Y1,rwS m Y1⟩::⟨rdP x0.B x0.m x0.d x0.k,rdS x0.B x0.m⟩::⟨rdP x0.A x0.n x0.c x0.l,rdS x0.A x0.n⟩::D)) W5)=>jc9 w0 W5 _ ((b0,#[.int .i64 x0.s,.slice x0.A x0.n x0.c,.int .i64 x0.t,.slice x0.B x0.m x0.d],29)::((db,(Value.bool bn::R).toArray,92)::(hb,recA Ln.cs m (lnF Y1 (M.hd q)) HJ,90)::((M.wV V2).rows q++L0))) _ db b2 bn R 92 x x0 y x.q x0.q y.q h gx HI0.out gq hbn (.tail _ (.head _)))
    have hcap3:=(K.rd (A:=x.A) (n:=x.n) (cap:=x.c) (l:=x.l) ZMB).caps
    have hcap4:=(K.rd (A:=x.B) (n:=x.m) (cap:=x.d) (l:=x.k) ZMB).caps
    have hcap5:=(K.rd (A:=y.A) (n:=y.n) (cap:=y.c) (l:=y.l) ZMB).caps
    have hcap6:=(K.rd (A:=y.B) (n:=y.m) (cap:=y.d) (l:=y.k) ZMB).caps
    clear hx hy hbn HQ e1 e2 e3 e4 cq cx gx gq
    go_upto_region 7 with fail
    have K0:=K.drew
    have s0:=HSA.out _ _ _ K0
    clear K
    refine jak 25 (fun W5=>(W5.cell? ⟨hb,i*5+4,none⟩=some (.slice (some ⟨M.rb i,0,none⟩) M.N (M.cp i))∧W5.cell? ⟨hb,rr*5+4,none⟩=some (.slice (some ⟨M.rb rr,0,none⟩) M.N (M.cp rr)))∧(W5.cell? ⟨b0,0,none⟩=some (.int .i64 x0.s)∧W5.cell? ⟨b0,1,none⟩=some (.slice x0.A x0.n x0.c)∧W5.cell? ⟨b0,2,none⟩=some (.int .i64 x0.t)∧W5.cell? ⟨b0,3,none⟩=some (.slice x0.B x0.m x0.d))∧(W5.cell? ⟨M.rb i,k*4,none⟩=some (.int .i64 x.s)∧W5.cell? ⟨M.rb i,k*4+1,none⟩=some (.slice x.A x.n x.c)∧W5.cell? ⟨M.rb i,k*4+2,none⟩=some (.int .i64 x.t)∧W5.cell? ⟨M.rb i,k*4+3,none⟩=some (.slice x.B x.m x.d))∧(W5.cell? ⟨M.rb rr,k*4,none⟩=some (.int .i64 y.s)∧W5.cell? ⟨M.rb rr,k*4+1,none⟩=some (.slice y.A y.n y.c)∧W5.cell? ⟨M.rb rr,k*4+2,none⟩=some (.int .i64 y.t)∧W5.cell? ⟨M.rb rr,k*4+3,none⟩=some (.slice y.B y.m y.d))) Zb9 s0 (fun hSh=>?_)
    clear s0
    refine jaa.tk 0 rfl ?_
    refine jaa.tk 1 rfl ?_
    refine jaa.tk 2 rfl ?_
    refine jaa.tk 3 rfl ?_
    refine jaa.tk 4 rfl ?_
    refine jaa.tk 5 rfl ?_
    refine jaa.tk 6 rfl ?_
    refine jaa.tk 7 rfl ?_
    refine jaa.tk 8 rfl ?_
    refine jaa.tk 9 rfl ?_
    refine jaa.tk 10 rfl ?_
    refine jaa.tk 11 rfl ?_
    refine jaa.tk 12 rfl ?_
    refine jaa.tk 13 rfl ?_
    refine jaa.tk 14 rfl ?_
    refine jaa.tk 15 rfl ?_
    refine jaa.tk 16 rfl ?_
    refine jaa.tk 17 rfl ?_
    refine jaa.tk 18 rfl ?_
    refine jaa.tk 19 rfl ?_
    refine jaa.tk 20 rfl ?_
    refine jaa.tk 21 rfl ?_
    refine jaa.tk 22 rfl ?_
    refine jaa.on 23 rfl fun KK hKK=>?_
    go_simp
    go_at_call 137;refine (HLs.out _ K0).mono ?_;rintro e w5 ⟨z,zq,rfl,gz,k5⟩
    go_wp2_with fail
    refine hKK.out _ _ ?_ (fun hSh=>?_)
    ·exact HSA.out _ _ _ k5
    clear hKK KK
    refine ZPT ?_
    refine jaa.tk 24 rfl ?_
    refine jaa.last rfl Zb9 ?_
    have HQ:=jpk (HV.out z zq gz.out.1 gz.out.2)
    have HG3:=jpk (HG2.out.put (r:=i) (k:=k) gz.out.1)
    clear K0 HSA HLs hSh HV gz HX HY HBn
    refine k5.storeR (v:=V2 i) (J:=M.J i) (t:=29) rfl rfl _ _ _ rfl (M.rb i) k M.N z rfl rfl hlt Zb16 jar ?_
    intro W8 K
    clear k5
    have HK:=jpk ((K.famPutV (M:=M) (V:=V2) (n:=q) ZMB z ZMB ZMB i k).lessS (D':=((M.wV (put2 V2 i k z)).fam q::⟨rwP m Y1,rwS m Y1⟩::⟨rdP x0.B x0.m x0.d x0.k,rdS x0.B x0.m⟩::⟨rdP x0.A x0.n x0.c x0.l,rdS x0.A x0.n⟩::D)) Zb10)
    exact ZQ111
  ·have e:k=M.N:=by omega
   have HQ2:=jpk (show LpQ i rr s M.N b1 b2 V V2 from by rw [←e];exact HQ.out)
   have hki:¬(k:Int)<(M.N:Int):=by omega
   obtain ⟨e1,e2,e3,e4⟩:=HQ2.out.same Hir.out
   obtain ⟨bn,hbn⟩:∃bn,bn=(b2|| !jaP 0 x0.q (V2 rr s).q):=⟨_,rfl⟩
   have HV:=jpk (fun (z:Rw) (zq:Rat) (hz:isQ z zq) (hs:jaP 0 x0.q (V2 rr s).q=true→zq=0-x0.q*(V2 rr s).q)=>HQ2.out.last (b2:=bn) (x:=z) (z:=zq) Hs.out (by rw [hbn,e4,HX0.out]) hz (by rw [e4,HX0.out] at hs;exact hs))
   have gq:=HG2.out rr s Hr.out Hs.out
   have K:=K.famRdV (M:=M) (V:=V2) (i:=rr) (j:=s) ZMB Hr.out Hs.out
   obtain ⟨y,hy⟩:∃y,y=V2 rr s:=⟨_,rfl⟩
   rw [←hy] at K HV hbn
   rw [←hy] at gq
   have HY:=jpk hy
   have HSA:=jpk (fun W5 b5 D5 (h:St w0 ((b0,#[.int .i64 x0.s,.slice x0.A x0.n x0.c,.int .i64 x0.t,.slice x0.B x0.m x0.d],29)::((db,(Value.bool b5::R).toArray,92)::(hb,recA Ln.cs m (lnF Y1 (M.hd q)) HJ,90)::((M.wV V2).rows q++L0))) D5 W5)=>(show (W5.cell? ⟨hb,i*5+4,none⟩=some (.slice (some ⟨M.rb i,0,none⟩) M.N (M.cp i))∧W5.cell? ⟨hb,rr*5+4,none⟩=some (.slice (some ⟨M.rb rr,0,none⟩) M.N (M.cp rr)))∧(W5.cell? ⟨b0,0,none⟩=some (.int .i64 x0.s)∧W5.cell? ⟨b0,1,none⟩=some (.slice x0.A x0.n x0.c)∧W5.cell? ⟨b0,2,none⟩=some (.int .i64 x0.t)∧W5.cell? ⟨b0,3,none⟩=some (.slice x0.B x0.m x0.d))∧(W5.cell? ⟨M.rb rr,s*4,none⟩=some (.int .i64 y.s)∧W5.cell? ⟨M.rb rr,s*4+1,none⟩=some (.slice y.A y.n y.c)∧W5.cell? ⟨M.rb rr,s*4+2,none⟩=some (.int .i64 y.t)∧W5.cell? ⟨M.rb rr,s*4+3,none⟩=some (.slice y.B y.m y.d)) from by
    have r0:=h.rawS
    have cq:=h.cellV (M:=M) (V:=V2) (r:=rr) (k:=s) Hs.out Zb15
    rw [←HY.out] at cq
    exact ⟨⟨HL4.out _ _ _ _ _ _ h ZMB,(h.cellL (g:=hb) (h:=M.hd q) (Y:=Y1) Hrm.out ZMB).2⟩,r0.1,cq⟩))
   have HNu:=jpk (fun W5 D5 (h:St w0 ((b0,#[.int .i64 x0.s,.slice x0.A x0.n x0.c,.int .i64 x0.t,.slice x0.B x0.m x0.d],29)::((db,(Value.bool b2::R).toArray,92)::(hb,recA Ln.cs m (lnF Y1 (M.hd q)) HJ,90)::((M.wV V2).rows q++L0))) D5 W5)=>(jbc W5).mono fun e W6 ⟨s7,A7,n7,c7,l7,t7,B7,m7,d7,k7,he,⟨hra,hrb⟩,ho,⟨hfa,hfb⟩,hbl⟩=>(⟨⟨s7,A7,n7,c7,l7,t7,B7,m7,d7,k7⟩,he,jpk (⟨ho,jbe⟩:isQ ⟨s7,A7,n7,c7,l7,t7,B7,m7,d7,k7⟩ 0),h.retF hbl hra hrb hfa hfb⟩:∃z:Rw,e=Ending.returned (.agg #[.int .i64 z.s,.slice z.A z.n z.c,.int .i64 z.t,.slice z.B z.m z.d])∧Hid (isQ z 0)∧St w0 ((b0,#[.int .i64 x0.s,.slice x0.A x0.n x0.c,.int .i64 x0.t,.slice x0.B x0.m x0.d],29)::((db,(Value.bool b2::R).toArray,92)::(hb,recA Ln.cs m (lnF Y1 (M.hd q)) HJ,90)::((M.wV V2).rows q++L0))) (⟨rdP z.B z.m z.d z.k,rdS z.B z.m⟩::⟨rdP z.A z.n z.c z.l,rdS z.A z.n⟩::D5) W6))
   have HLs:=jpk (fun W5 (z:Rw) (hz:isQ z 0) (h:St w0 ((b0,#[.int .i64 x0.s,.slice x0.A x0.n x0.c,.int .i64 x0.t,.slice x0.B x0.m x0.d],29)::((db,(Value.bool b2::R).toArray,92)::(hb,recA Ln.cs m (lnF Y1 (M.hd q)) HJ,90)::((M.wV V2).rows q++L0))) (⟨rdP z.B z.m z.d z.k,rdS z.B z.m⟩::⟨rdP z.A z.n z.c z.l,rdS z.A z.n⟩::⟨rdP y.B y.m y.d y.k,rdS y.B y.m⟩::⟨rdP y.A y.n y.c y.l,rdS y.A y.n⟩::((M.wV V2).fam q::⟨rwP m Y1,rwS m Y1⟩::⟨rdP x0.B x0.m x0.d x0.k,rdS x0.B x0.m⟩::⟨rdP x0.A x0.n x0.c x0.l,rdS x0.A x0.n⟩::D)) W5)=>jc9 w0 W5 _ ((b0,#[.int .i64 x0.s,.slice x0.A x0.n x0.c,.int .i64 x0.t,.slice x0.B x0.m x0.d],29)::((db,(Value.bool bn::R).toArray,92)::(hb,recA Ln.cs m (lnF Y1 (M.hd q)) HJ,90)::((M.wV V2).rows q++L0))) ((M.wV V2).fam q::⟨rwP m Y1,rwS m Y1⟩::⟨rdP x0.B x0.m x0.d x0.k,rdS x0.B x0.m⟩::⟨rdP x0.A x0.n x0.c x0.l,rdS x0.A x0.n⟩::D) db b2 bn R 92 z x0 y 0 x0.q y.q ((((h.rdUp (x:=y) ZMB ZMB).rdUp (x:=x0) ZMB ZMB).rdUp (x:=z) ZMB ZMB).lessS Zb10) hz HI0.out gq hbn (.tail _ (.head _)))
   have hcap5:=(K.rd (A:=y.A) (n:=y.n) (cap:=y.c) (l:=y.l) ZMB).caps
   have hcap6:=(K.rd (A:=y.B) (n:=y.m) (cap:=y.d) (l:=y.k) ZMB).caps
   clear hy hbn HQ HQ2 e1 e2 e3 e4 gq
   go_upto_region 9 with fail
   have K0:=K.drew
   have s0:=HSA.out _ _ _ K0
   clear K
   refine jak 19 (fun W5=>(W5.cell? ⟨hb,i*5+4,none⟩=some (.slice (some ⟨M.rb i,0,none⟩) M.N (M.cp i))∧W5.cell? ⟨hb,rr*5+4,none⟩=some (.slice (some ⟨M.rb rr,0,none⟩) M.N (M.cp rr)))∧(W5.cell? ⟨b0,0,none⟩=some (.int .i64 x0.s)∧W5.cell? ⟨b0,1,none⟩=some (.slice x0.A x0.n x0.c)∧W5.cell? ⟨b0,2,none⟩=some (.int .i64 x0.t)∧W5.cell? ⟨b0,3,none⟩=some (.slice x0.B x0.m x0.d))∧(W5.cell? ⟨M.rb rr,s*4,none⟩=some (.int .i64 y.s)∧W5.cell? ⟨M.rb rr,s*4+1,none⟩=some (.slice y.A y.n y.c)∧W5.cell? ⟨M.rb rr,s*4+2,none⟩=some (.int .i64 y.t)∧W5.cell? ⟨M.rb rr,s*4+3,none⟩=some (.slice y.B y.m y.d))) Zb9 s0 (fun hSh=>?_)
   clear s0
   refine jaa.tk 0 rfl ?_
   refine jaa.tk 1 rfl ?_
   refine jaa.tk 2 rfl ?_
   refine jaa.tk 3 rfl ?_
   refine jaa.tk 4 rfl ?_
   refine jaa.tk 5 rfl ?_
   refine jaa.tk 6 rfl ?_
   refine jaa.tk 7 rfl ?_
   refine jaa.tk 9 rfl ?_
   refine jaa.tk 10 rfl ?_
   refine jaa.tk 11 rfl ?_
   refine jaa.tk 12 rfl ?_
   refine jaa.tk 13 rfl ?_
   refine jaa.tk 14 rfl ?_
   refine jaa.tk 15 rfl ?_
   refine jaa.tk 16 rfl ?_
   refine jaa.on 8 rfl fun KK hKK=>?_
   go_simp
   go_at_call 105;refine (HNu.out _ _ K0).mono ?_;rintro e w4 ⟨z0,rfl,g0,k4⟩
   go_wp2_with fail
   refine hKK.out _ _ ?_ (fun hSh=>?_)
   ·exact HSA.out _ _ _ k4
   clear hKK KK
   refine ZPT ?_
   refine jaa.on 17 rfl fun KK hKK=>?_
   go_simp
   go_at_call 137;refine (HLs.out _ _ g0.out k4).mono ?_;rintro e w5 ⟨z,zq,rfl,gz,k5⟩
   go_wp2_with fail
   refine hKK.out _ _ ?_ (fun hSh=>?_)
   ·exact HSA.out _ _ _ k5
   clear hKK KK
   refine ZPT ?_
   refine jaa.tk 18 rfl ?_
   refine jaa.last rfl Zb9 ?_
   have HQ:=jpk (HV.out z zq gz.out.1 gz.out.2)
   have HG3:=jpk (HG2.out.put (r:=i) (k:=s) gz.out.1)
   clear k4 K0 HSA HLs HNu hSh HV gz g0 HY
   refine k5.storeR (v:=V2 i) (J:=M.J i) (t:=29) rfl rfl _ _ _ rfl (M.rb i) s M.N z rfl rfl Hs.out Zb16 jar ?_
   intro W8 K
   clear k5
   have HK:=jpk (((K.famPutV (M:=M) (V:=V2) (n:=q) ZMB z ZMB ZMB i s).lessS (D':=((M.wV (put2 V2 i s z)).fam q::⟨rwP m Y1,rwS m Y1⟩::D)) Zb10).part (List.sublist_cons_self _ _))
   clear K
   have HE:=jpk (show TkP w0 L0 D M m q i rr s db hb HJ R false b Y V (.returned (.tuple #[])) W8 from ⟨bn,Y1,put2 V2 i s z,rfl,jpk ⟨HGY1.out,HG3.out⟩,jpk (HF1.out.trans HQ.out.1),jpk HQ.out.2,HYV,HK.out⟩)
   go_wp2_with fail
   exact bodyPost_ret (v:=.tuple #[]) (by simp [results,Tryz.results134,go_sem]) rfl HE.out
section
variable {m n:Nat} {A:Nat→Nat→Rat} {b c:Nat→Rat} {D:Dc}
theorem jjN (x y:Rat):mulK x y=mulK y x:=by
 unfold mulK
 rw [Int.mul_comm x.num,Int.mul_comm (x.den:Int)]
theorem jd6 (x y:Nat→Rat):∀n:Nat,prdK x y n=prdK y x n
 | 0=>rfl
 | n+1=>by
  rw [jde,jde,jd6 x y n,jjN,Rat.mul_comm,jaj (f:=fun i=>x i*y i) (g:=fun i=>y i*x i) (fun i _=>Rat.mul_comm _ _)]
end
end Go.Proofs.YtgikfcjndiohjaaGreat
