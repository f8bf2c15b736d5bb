/- Laws and walks; conditions stand in each theorem. -/
import Derived.Test.YtdlcglndhhndpaaGreatP26
set_option linter.unusedSimpArgs false
set_option linter.unusedVariables false
set_option maxHeartbeats 8000000
set_option maxRecDepth 100000
namespace Go.Proofs.YtdlcglndhhndpaaGreat
open Go.RowKit
theorem jhe (w0 W:World) (L:List Blk) (D:List Hl) (mb:Nat) (b:Bool) (R:List Value) (T:TypeId) (A A' B:Option Addr) (n cap m cap' n' capx:Nat) (ls:List Rv) (v:Nat→Rw) (x:Nat→Rat)
 (K:St w0 L D W) (hmb:(mb,(Value.bool b::R).toArray,T)∈L) (hr:RdR w0 w0.heap.size A' m cap' ls) (hrow:∀(k:Nat) (X:Rv),ls[k]?=some X→rowF n X=true) (m2:(⟨fxP B n' capx v,fxS B n' v⟩:Hl)∈D) (hn:n≤n'∧n≤1000000) (hx:∀i,i<n→isQ (v i) (x i)) :
 Calls Tryz.prog 74 #[.pointer (some ⟨mb,0,none⟩),.agg #[.slice A n cap,.slice A' m cap'],.slice B n' capx,.bool true] W (SumP w0 mb R T b L D (belB m n (rwA2 ls) (rwB2 ls true) x)):=by
 have HX:=jmT hx;have HZ:=jmT jbj;have M2:=jmT m2;have HL:=jmT hr;have HRow:=jmT hrow;have hcap':=hr.caps;have hcap:=K.fxCap m2;obtain ⟨L9,hU9,rfl⟩:=Upd.same hmb;have HU0:=jmT hU9;clear hx hr hrow hmb hU9 m2;have r:=K.raw;go_enter Tryz.func74,Tryz.ntmps74
 go_wp2_with (first|(apply K.box;rfl;rfl;rfl;clear K r;intro W b0 K;have r:=K.rawS)|(apply K.alloc;rfl;rfl;exact ja9;clear K r;intro W b1 K;have r:=K.rawS)|(apply K.alloc;rfl;rfl;exact jaj;clear K r;intro W b2 K;have r:=K.rawS)|(apply K.storeA;rfl;rfl;rfl;rfl;rfl;(exact ZUP);(first|exact ja8|exact jae);rfl;rfl;rfl;clear K r;intro W K;have r:=K.rawS))
 go_loopg [15] m (fun gk s15 wr=>∃(k:Nat) (bk:Bool) (Lk:List Blk),k≤m∧gk=m-k∧s15=.int .i64 k∧Hid (Upd mb (Value.bool b::R).toArray T (Value.bool bk::R).toArray L9 Lk)∧Hid ((!bk)=(!b&&jaX (fun i=>prdK (rwA2 ls i) x n) (fun i=>decide (smQ (fun j=>rwA2 ls i j*x j) n≤rwB2 ls true i)) k))∧St w0 ((b0,#[.slice A n cap,.slice A' m cap'],38)::Lk) D wr)
 case atStart=>exact ⟨0,b,L9,Nat.zero_le _,rfl,rfl,HU0,jmT (by simp [jaX]),K⟩
 case round =>
  clear K r HU0;obtain ⟨k,bk,Lk,hk,rfl,rfl,HU,HS,K⟩:=hrel;by_cases hlt:k<m
  ·obtain ⟨eb,eo,A0,n0,c0,A1,n1,c1,A2,n2,c2,X,hA,hbB,hX,⟨z0,z1,z2,z3,z4⟩,r0,r1,r2⟩:=HL.out.atR hlt;subst hA;have hki:(k:Int)<(m:Int):=by omega
   have hk0:(0:Int)≤(k:Int):=by omega
   have y0:=(K.1.cell (p:=⟨eb,eo+k*5,none⟩) hbB).trans z0;have y1:=(K.1.cell (p:=⟨eb,eo+k*5+1,none⟩) hbB).trans z1;have y2:=(K.1.cell (p:=⟨eb,eo+k*5+2,none⟩) hbB).trans z2;have y3:=(K.1.cell (p:=⟨eb,eo+k*5+3,none⟩) hbB).trans z3;have y4:=(K.1.cell (p:=⟨eb,eo+k*5+4,none⟩) hbB).trans z4;have hc0:=r0.caps;have hc1:=r1.caps;have hc2:=r2.caps;have hF:=HRow.out k X hX;unfold rowF at hF;rw [Bool.and_eq_true,Bool.and_eq_true,decide_eq_true_eq] at hF;have hn0:n0=n:=by have:=hF.1.1;have:=r0.len;omega
   subst hn0;obtain ⟨u,hu,K⟩:=K.fxOld r0;have hQ:=jbR hF.1.2
   have HA:=jmT (show ∀i,i<n0→isQ (u i) (rwA2 ls k i) from fun i hi=>by
    exact ZQ47)
   replace K:=(K.rdOld r1).rdOld r2;clear hX z0 z1 z2 z3 z4 r0 r1 r2 hF hu hQ;have r:=K.rawS;go_upto_region 7 with (first|(first|(apply K.box;rfl;rfl;rfl;clear K r;intro W b0 K;have r:=K.rawS)|(apply K.alloc;rfl;rfl;exact ja9;clear K r;intro W b1 K;have r:=K.rawS)|(apply K.alloc;rfl;rfl;exact jaj;clear K r;intro W b2 K;have r:=K.rawS)|(apply K.storeA;rfl;rfl;rfl;rfl;rfl;(exact ZUP);(first|exact ja8|exact jae);rfl;rfl;rfl;clear K r;intro W K;have r:=K.rawS))|(go_at_call 112;refine (HZ.out _).mono ?_;rintro e W' ⟨s7,A7,n7,c7,l7,t7,B7,m7,d7,k7,rfl,⟨hra,hrb⟩,ho,⟨hfa,hfb⟩,hb⟩;replace K:=K.retF hb hra hrb hfa hfb;clear hra hrb hfa hfb hb r;have HO:=jmT ho;clear ho;have r:=K.rawS))
   have HQ:=jmT (show isQ (⟨s7,A7,n7,c7,l7,t7,B7,m7,d7,k7⟩:Rw) (rwB2 ls true k) from by
    unfold rwB2;rw [if_pos rfl]
    exact ⟨HO.out,jbn⟩)
   have K0:=K.drew;have r0:=K0.rawS;have s0:W.drew.cell? ⟨b1,0,none⟩=some (.slice A0 n0 c0)∧W.drew.cell? ⟨b2,0,none⟩=some (.int .i64 s7)∧W.drew.cell? ⟨b2,1,none⟩=some (.slice A7 n7 c7)∧W.drew.cell? ⟨b2,2,none⟩=some (.int .i64 t7)∧W.drew.cell? ⟨b2,3,none⟩=some (.slice B7 m7 d7):=⟨r0.2.1.1,r0.1⟩;obtain ⟨bn,hbn⟩:∃bn,bn=(bk|| !prdK (rwA2 ls k) x n0):=⟨_,rfl⟩;obtain ⟨Ln,hU1,hU2⟩:=HU.out.next (Value.bool bn::R).toArray;have HU1:=jmT hU1;have HU2:=jmT hU2;have HBn:=jmT hbn
   have HPr:=jmT (jbD w0 W.drew _ ((b2,#[.int .i64 ((⟨s7,A7,n7,c7,l7,t7,B7,m7,d7,k7⟩:Rw)).s,.slice ((⟨s7,A7,n7,c7,l7,t7,B7,m7,d7,k7⟩:Rw)).A ((⟨s7,A7,n7,c7,l7,t7,B7,m7,d7,k7⟩:Rw)).n ((⟨s7,A7,n7,c7,l7,t7,B7,m7,d7,k7⟩:Rw)).c,.int .i64 ((⟨s7,A7,n7,c7,l7,t7,B7,m7,d7,k7⟩:Rw)).t,.slice ((⟨s7,A7,n7,c7,l7,t7,B7,m7,d7,k7⟩:Rw)).B ((⟨s7,A7,n7,c7,l7,t7,B7,m7,d7,k7⟩:Rw)).m ((⟨s7,A7,n7,c7,l7,t7,B7,m7,d7,k7⟩:Rw)).d],50)::(b1,#[.slice A0 n0 c0,.int .i64 X.b.s,.slice A1 n1 c1,.int .i64 X.b.t,.slice A2 n2 c2],56)::(b0,#[.slice A n0 cap,.slice (some ⟨eb,eo,none⟩) m cap'],38)::Ln) _ mb bk bn R T A0 B n0 c0 n' capx u v (rwA2 ls k) x K0 ZMB Zb12 hn HA.out HX.out hbn (.tail _ (.tail _ (.tail _ hU1))))
   have HCm:=jmT (fun V (y2:Rw) (z2:Rat) (hz:isQ y2 z2) (h:St w0 ((b2,#[.int .i64 ((⟨s7,A7,n7,c7,l7,t7,B7,m7,d7,k7⟩:Rw)).s,.slice ((⟨s7,A7,n7,c7,l7,t7,B7,m7,d7,k7⟩:Rw)).A ((⟨s7,A7,n7,c7,l7,t7,B7,m7,d7,k7⟩:Rw)).n ((⟨s7,A7,n7,c7,l7,t7,B7,m7,d7,k7⟩:Rw)).c,.int .i64 ((⟨s7,A7,n7,c7,l7,t7,B7,m7,d7,k7⟩:Rw)).t,.slice ((⟨s7,A7,n7,c7,l7,t7,B7,m7,d7,k7⟩:Rw)).B ((⟨s7,A7,n7,c7,l7,t7,B7,m7,d7,k7⟩:Rw)).m ((⟨s7,A7,n7,c7,l7,t7,B7,m7,d7,k7⟩:Rw)).d],50)::(b1,#[.slice A0 n0 c0,.int .i64 X.b.s,.slice A1 n1 c1,.int .i64 X.b.t,.slice A2 n2 c2],56)::(b0,#[.slice A n0 cap,.slice (some ⟨eb,eo,none⟩) m cap'],38)::Ln) (⟨rdP y2.B y2.m y2.d y2.k,rdS y2.B y2.m⟩::⟨rdP y2.A y2.n y2.c y2.l,rdS y2.A y2.n⟩::⟨rdP B7 m7 d7 k7,rdS B7 m7⟩::⟨rdP A7 n7 c7 l7,rdS A7 n7⟩::⟨rdP A2 n2 c2 X.b.m,rdS A2 n2⟩::⟨rdP A1 n1 c1 X.b.l,rdS A1 n1⟩::⟨fxP A0 n0 c0 u,fxS A0 n0 u⟩::D) V)=>jdT h hz HQ.out ZMB ZMB ZMB ZMB)
   have HSA:=jmT (fun V D2 Lx (h:St w0 ((b2,#[.int .i64 ((⟨s7,A7,n7,c7,l7,t7,B7,m7,d7,k7⟩:Rw)).s,.slice ((⟨s7,A7,n7,c7,l7,t7,B7,m7,d7,k7⟩:Rw)).A ((⟨s7,A7,n7,c7,l7,t7,B7,m7,d7,k7⟩:Rw)).n ((⟨s7,A7,n7,c7,l7,t7,B7,m7,d7,k7⟩:Rw)).c,.int .i64 ((⟨s7,A7,n7,c7,l7,t7,B7,m7,d7,k7⟩:Rw)).t,.slice ((⟨s7,A7,n7,c7,l7,t7,B7,m7,d7,k7⟩:Rw)).B ((⟨s7,A7,n7,c7,l7,t7,B7,m7,d7,k7⟩:Rw)).m ((⟨s7,A7,n7,c7,l7,t7,B7,m7,d7,k7⟩:Rw)).d],50)::(b1,#[.slice A0 n0 c0,.int .i64 X.b.s,.slice A1 n1 c1,.int .i64 X.b.t,.slice A2 n2 c2],56)::Lx) D2 V)=>(show V.cell? ⟨b1,0,none⟩=some (.slice A0 n0 c0)∧V.cell? ⟨b2,0,none⟩=some (.int .i64 s7)∧V.cell? ⟨b2,1,none⟩=some (.slice A7 n7 c7)∧V.cell? ⟨b2,2,none⟩=some (.int .i64 t7)∧V.cell? ⟨b2,3,none⟩=some (.slice B7 m7 d7) from by
    have r:=h.rawS
    exact ⟨r.2.1.1,r.1⟩))
   clear hU1 hU2 hbn HU K r r0;refine jah 100 (fun V=>V.cell? ⟨b1,0,none⟩=some (.slice A0 n0 c0)∧V.cell? ⟨b2,0,none⟩=some (.int .i64 s7)∧V.cell? ⟨b2,1,none⟩=some (.slice A7 n7 c7)∧V.cell? ⟨b2,2,none⟩=some (.int .i64 t7)∧V.cell? ⟨b2,3,none⟩=some (.slice B7 m7 d7)) Zb9 s0 (fun hSh=>?_);clear s0;refine jaa.tkA 0 rfl ?_;refine jaa.tkA 1 rfl ?_;refine jaa.tkA 2 rfl ?_;refine jaa.tkA 3 rfl ?_;refine jaa.tkA 5 rfl ?_;refine jaa.on 4 rfl fun KK hKK=>?_
   go_simp;go_at_call 76;refine HPr.out.mono ?_;rintro e w5 ⟨y2,z2,rfl,g2,k5⟩;go_wp2_with fail;refine hKK.out _ _ ?_ (fun hSh=>?_)
   ·exact HSA.out _ _ _ k5
   clear hKK KK;refine ZPT ?_;refine jaa.on 6 rfl fun KK hKK=>?_
   go_simp;go_at_call 54;refine (HCm.out _ _ _ g2.out.1 k5).mono ?_;rintro e w6 ⟨rfl,k6⟩;go_wp2_with fail;refine hKK.out _ _ ?_ (fun hSh=>?_)
   ·exact HSA.out _ _ _ k6
   clear hKK KK;refine ZPT ?_;have hst:=jds (q:=decide (z2≤rwB2 ls true k)) HS.out HBn.out (p:=fun i=>decide (smQ (fun j=>rwA2 ls i j*x j) n0≤rwB2 ls true i)) (t:=fun i=>prdK (rwA2 ls i) x n0) (fun h=>by rw [g2.out.2 h]);have Hst:=jmT hst;have HK:=jmT (k6.lessS (D':=D) Zb13);clear hst k5 K0 HPr HCm HSA g2 HU1 HBn HS HA HQ HX HRow;by_cases hle:z2≤rwB2 ls true k
   ·have hc:¬cmpQ z2 (rwB2 ls true k)>0:=by have:=jck.2 hle;omega
    have hcd:decide (cmpQ z2 (rwB2 ls true k)>0)=false:=decide_eq_false hc;exact ZQ78
   ·have hc:cmpQ z2 (rwB2 ls true k)>0:=by
     have:¬cmpQ z2 (rwB2 ls true k)≤0:=fun h=>hle (jck.1 h)
     omega
    have hcd:decide (cmpQ z2 (rwB2 ls true k)>0)=true:=decide_eq_true hc;exact ZQ61
  ·have e:k=m:=by omega
   subst e;have HE:=jmT (⟨true,bk,Lk,rfl,HU,jmT (by rw [Bool.true_and];exact HS.out),K.part (List.sublist_cons_self _ _)⟩:SumP w0 mb R T b L9 D (belB k n (rwA2 ls) (rwB2 ls true) x) (.returned (.bool true)) wr);exact jjV
theorem jec (A A2:Option Addr) (n cap n2 cap2:Nat) (a b:List Fv) (w:World) (ha:RdF w w.heap.size A n cap a) (hb:RdF w w.heap.size A2 n2 cap2 b) :
 Calls Tryz.prog 25 #[.slice A n cap,.slice A2 n2 cap2] w fun e w'=>e=.returned (.bool (decide (a=b)))∧Below w.heap.size w w':=by
 have K:=St.start w;have r:=K.raw;have hla:=ha.len;have hlb:=hb.len;have hca:=ha.caps;have hcb:=hb.caps;have HA:=jmT ha;have HB:=jmT hb;obtain ⟨R,hR⟩:∃R,R=decide (a=b):=⟨_,rfl⟩;rw [←hR];clear ha hb;by_cases hnn:(n:Int)=(n2:Int)
 case neg =>
  have hd2:((n:Int) !=(n2:Int))=true:=by simp [hnn]
  have HR:=jmT (show R=false from by rw [hR];exact decide_eq_false fun h=>hnn (by rw [←hla,←hlb,h]));clear hR hnn hla hlb;go_enter Tryz.func25,Tryz.ntmps25
  go_wp2_with (first|(refine ZAL ?_;clear K r;intro W b K r)|(refine ZST ?_;clear K r;intro W K r))
  exact jjU
 obtain rfl:n=n2:=by omega
 have hd2:((n:Int) !=(n:Int))=false:=by simp
 have HEq:=jmT (show (∀j:Nat,j<n→a[j]?=b[j]?)→R=true from fun h=>by
  rw [hR];refine decide_eq_true (List.ext_getElem? fun j=>?_);by_cases hj:j<n
  ·exact h j hj
  ·rw [List.getElem?_eq_none ZO,List.getElem?_eq_none ZO])
 have HNe:=jmT (show ∀(j:Nat) x y,a[j]?=some x→b[j]?=some y→x≠y→R=false from fun j x y h1 h2 h3=>by
  rw [hR];refine decide_eq_false fun h=>h3 ?_
  rw [h,h2] at h1
  exact (Option.some.inj h1).symm)
 clear hla hlb hR hnn;go_enter Tryz.func25,Tryz.ntmps25
 go_wp2_with (first|(refine ZAL ?_;clear K r;intro W b K r)|(refine ZST ?_;clear K r;intro W K r))
 go_loopg [5] n (fun gk i wr=>∃k:Nat,k≤n∧gk=n-k∧i=.int .i64 k∧Hid (∀j:Nat,j<k→a[j]?=b[j]?)∧Below w.heap.size w wr)
 case atStart=>exact ⟨0,Nat.zero_le _,rfl,rfl,jmT (fun j hj=>absurd hj ZO),K.1⟩
 case round =>
  clear K r;obtain ⟨k,hk,rfl,rfl,Hall,hbel⟩:=hrel;by_cases hlt:k<n
  ·have K:=(St.start w).keep hbel;obtain ⟨eb1,off1,A1,n1,c1,B1,m1,d1,x,hA1,hbB1,hx1,⟨z0,z1,z2,z3⟩,r1,q1⟩:=HA.out.atF hlt;subst hA1;have Ex1:=jmT (fun W (h:Below w.heap.size w W)=>(⟨(h.cell (p:=⟨eb1,off1+k*4,none⟩) hbB1).trans z0,(h.cell (p:=⟨eb1,off1+k*4+1,none⟩) hbB1).trans z1,(h.cell (p:=⟨eb1,off1+k*4+2,none⟩) hbB1).trans z2,(h.cell (p:=⟨eb1,off1+k*4+3,none⟩) hbB1).trans z3⟩:W.cell? ⟨eb1,off1+k*4,none⟩=some (.int .i64 (x).s)∧W.cell? ⟨eb1,off1+k*4+1,none⟩=some (.slice A1 n1 c1)∧W.cell? ⟨eb1,off1+k*4+2,none⟩=some (.int .i64 (x).t)∧W.cell? ⟨eb1,off1+k*4+3,none⟩=some (.slice B1 m1 d1)));have hki:(k:Int)<(n:Int):=by omega
   have hk0:(0:Int)≤(k:Int):=by omega
   have hcap1:=r1.caps;have hcbp1:=q1.caps;replace K:=(K.oldRd r1).oldRd q1;have Hx1:=jmT hx1;clear hx1 z0 z1 z2 z3 r1 q1;obtain ⟨eb2,off2,A2,n2,c2,B2,m2,d2,y,hA2,hbB2,hx2,⟨z0,z1,z2,z3⟩,r2,q2⟩:=HB.out.atF hlt;subst hA2;have Ex2:=jmT (fun W (h:Below w.heap.size w W)=>(⟨(h.cell (p:=⟨eb2,off2+k*4,none⟩) hbB2).trans z0,(h.cell (p:=⟨eb2,off2+k*4+1,none⟩) hbB2).trans z1,(h.cell (p:=⟨eb2,off2+k*4+2,none⟩) hbB2).trans z2,(h.cell (p:=⟨eb2,off2+k*4+3,none⟩) hbB2).trans z3⟩:W.cell? ⟨eb2,off2+k*4,none⟩=some (.int .i64 (y).s)∧W.cell? ⟨eb2,off2+k*4+1,none⟩=some (.slice A2 n2 c2)∧W.cell? ⟨eb2,off2+k*4+2,none⟩=some (.int .i64 (y).t)∧W.cell? ⟨eb2,off2+k*4+3,none⟩=some (.slice B2 m2 d2)));have hki:(k:Int)<(n:Int):=by omega
   have hk0:(0:Int)≤(k:Int):=by omega
   have hcap2:=r2.caps;have hcbp2:=q2.caps;replace K:=(K.oldRd r2).oldRd q2;have Hx2:=jmT hx2;clear hx2 z0 z1 z2 z3 r2 q2;obtain ⟨ι,f,hne,hfw,hfk,hfc⟩:=jmu (fun W=>St w [] [⟨rdP B2 m2 d2 y.m,oldS w⟩,⟨rdP A2 n2 c2 y.l,oldS w⟩,⟨rdP B1 m1 d1 x.m,oldS w⟩,⟨rdP A1 n1 c1 x.l,oldS w⟩] W) wr K (fun W h=>h.drew);have QC:=jmT (fun q=>(jfG x.s x.t y.s y.t A1 B1 A2 B2 n1 c1 m1 d1 n2 c2 m2 d2 x.l x.m y.l y.m (f q) ((hfk q).rd ZMB) ((hfk q).rd ZMB) ((hfk q).rd ZMB) ((hfk q).rd ZMB)).mono fun e w'' ⟨he,hb⟩=>(⟨by rw [←jhY];exact he,hfc _ ((hfk q).keep hb)⟩:e=Ending.returned (.bool (decide (x=y)))∧∃s,w''=f s));have e1:=fun q=>(Ex1.out (f q) (hfk q).1).1
   have e2:=fun q=>(Ex1.out (f q) (hfk q).1).2.1
   have e3:=fun q=>(Ex1.out (f q) (hfk q).1).2.2.1
   have e4:=fun q=>(Ex1.out (f q) (hfk q).1).2.2.2
   have g1:=fun q=>(Ex2.out (f q) (hfk q).1).1
   have g2:=fun q=>(Ex2.out (f q) (hfk q).1).2.1
   have g3:=fun q=>(Ex2.out (f q) (hfk q).1).2.2.1
   have g4:=fun q=>(Ex2.out (f q) (hfk q).1).2.2.2
   have Hfw:=jmT hfw;have Hfk:=jmT (fun q=>(hfk q).1);clear hfw hfk hfc K hbel;by_cases hxy:x=y
   ·rw [decide_eq_true hxy] at QC
    have Hn:=jmT (show ∀j:Nat,j<k+1→a[j]?=b[j]? from fun j hj=>by
     by_cases e:j=k
     ·subst e;rw [Hx1.out,Hx2.out,hxy]
     ·exact Hall.out j ZO)
    clear hxy Hall;go_upto_region 6 with fail;refine jc4 (C:=fun w'=>∃n,w'=f n) Zb9 Zb9 Hfw.out ?_
    repeat (first
     | go_big_quiet_skip
     | (go_big_quiet_want;go_big_quiet_op;first | go_big_quiet_on | go_big_quiet_call ((go_at_call 50;with_reducible exact QC.out _))))
    refine wpQuiet_nil ?_;rintro _ ⟨nq,rfl⟩;have hB:=Hfk.out nq;clear QC e1 e2 e3 e4 g1 g2 g3 g4
    go_wp2
    go_roundg (n-(k+1))
    case rel=>exact ⟨k+1,by omega,rfl,by go_num,Hn,hB⟩
    case measure=>omega
   ·rw [decide_eq_false hxy] at QC;have Hf:=jmT (HNe.out k x y Hx1.out Hx2.out hxy);clear hxy Hall;go_upto_region 6 with fail;refine jc4 (C:=fun w'=>∃n,w'=f n) Zb9 Zb9 Hfw.out ?_
    repeat (first
     | go_big_quiet_skip
     | (go_big_quiet_want;go_big_quiet_op;first | go_big_quiet_on | go_big_quiet_call ((go_at_call 50;with_reducible exact QC.out _))))
    refine wpQuiet_nil ?_;rintro _ ⟨nq,rfl⟩;have hB:=Hfk.out nq;clear QC e1 e2 e3 e4 g1 g2 g3 g4
    go_wp2
    go_ret;exact ⟨by rw [Hf.out];first|done|rfl,hB⟩
  ·have ee:k=n:=by omega
   subst ee;have hd0:decide (k<k)=false:=by simp
   have Hf:=jmT (HEq.out Hall.out);clear hlt Hall
   go_wp2
   go_ret;exact ⟨by rw [Hf.out];first|done|rfl,hbel⟩
theorem jcZ (M:Int) (A:Option Addr) (n cap:Nat) (l:List Fv) (w:World) (hl:RdF w w.heap.size A n cap l) :
 Calls Tryz.prog 22 #[.slice A n cap,.int .i64 M] w fun e w'=>e=.returned (.bool (jdG M 1 l))∧Below w.heap.size w w':=by
 have hcaps:=hl.caps;have hlen:=hl.len;have HL:=jmT hl;obtain ⟨R,hR⟩:∃R,R=jdG M 1 l:=⟨_,rfl⟩;rw [←hR]
 have HNo:=jmT (show ∀(i:Nat) x,l[i]?=some x→fewV 1 x=false→R=false from fun i x hx h=>by
  rw [hR];unfold jdG;rw [Bool.and_eq_false_iff]
  right
  rw [List.all_eq_false]
  exact ⟨x,List.mem_of_getElem? hx,by rw [h];simp⟩)
 have HLong:=jmT (show M<(n:Int)→R=false from fun h=>by
  rw [hR];unfold jdG
  rw [hlen,decide_eq_false ZO,Bool.false_and])
 have HYes:=jmT (show (n:Int)≤M→(∀(i:Nat) x,i<n→l[i]?=some x→fewV 1 x=true)→R=true from fun h h1=>by
  rw [hR];unfold jdG;rw [hlen,decide_eq_true h,Bool.true_and,List.all_eq_true];intro x hx;obtain ⟨i,hi,rfl⟩:=List.mem_iff_getElem.1 hx
  exact h1 i _ ZO (List.getElem?_eq_getElem hi))
 clear hl hR hlen;go_enter Tryz.func22,Tryz.ntmps22
 go_wp2
 go_loopg [5] n (fun gk s5 wr=>∃k:Nat,k≤n∧gk=n-k∧s5=.int .i64 k∧Hid (∀(i:Nat) x,i<k→l[i]?=some x→fewV 1 x=true)∧Below w.heap.size w wr)
 case atStart=>exact ⟨0,Nat.zero_le _,rfl,rfl,jmT (fun j x h=>absurd h ZO),Below.refl _ _⟩
 case round =>
  obtain ⟨k,hk,rfl,rfl,HA,hb⟩:=hrel;have HB:=jmT hb;by_cases hlt:k<n
  ·have hltd:decide (k<n)=true:=decide_eq_true hlt;by_cases hM:(k:Int)≤M
   ·have hMd:decide ((k:Int)≤M)=true:=decide_eq_true hM;obtain ⟨eb,off,A1,n1,c1,B1,m1,d1,x,hA,hbB,hx,⟨z0,z1,z2,z3⟩,r1,r2⟩:=HL.out.atF hlt;subst hA;have e0:=(hb.cell (p:=⟨eb,off+k*4,none⟩) hbB).trans z0;have e1:=(hb.cell (p:=⟨eb,off+k*4+1,none⟩) hbB).trans z1;have e2:=(hb.cell (p:=⟨eb,off+k*4+2,none⟩) hbB).trans z2;have e3:=(hb.cell (p:=⟨eb,off+k*4+3,none⟩) hbB).trans z3;have hki:(k:Int)<(n:Int):=by omega
    have hk0:(0:Int)≤(k:Int):=by omega
    have hcp1:=r1.caps;have hcp2:=r2.caps;have HW:=jmT (fun W=>jgT x.s x.t A1 B1 n1 c1 m1 d1 1 W);have hv:fewF n1 m1 1=fewV 1 x:=by unfold fewV;rw [r1.len,r2.len]
    rw [hv] at HW;have Hx:=jmT hx;clear z0 z1 z2 z3 r1 r2 hx hv;cases hf:fewV 1 x
    ·rw [hf] at HW;have HR:=jmT (HNo.out k x Hx.out hf);clear hf HNo HYes HLong HA
     go_wp2_with (go_at_call 37;refine (HW.out _).mono ?_;rintro e w1 ⟨rfl,hb1⟩)
     go_ret;exact ⟨by rw [HR.out];first|done|rfl,HB.out.trans (hb1.mono HB.out.size)⟩
    ·rw [hf] at HW
     have HA2:=jmT (show ∀(i:Nat) y,i<k+1→l[i]?=some y→fewV 1 y=true from fun i y hi hy=>by
      by_cases e:i=k
      ·subst e;rw [Hx.out] at hy;cases hy;exact hf
      ·exact HA.out i y ZO hy)
     clear hf HA
     go_wp2_with (go_at_call 37;refine (HW.out _).mono ?_;rintro e w1 ⟨rfl,hb1⟩)
     go_roundg (n-(k+1))
     case rel=>exact ⟨k+1,hlt,rfl,by go_num,HA2,HB.out.trans (hb1.mono HB.out.size)⟩
     case measure=>omega
   ·have hMd:decide ((k:Int)≤M)=false:=decide_eq_false hM;have hn2:decide ((n:Int)≤M)=false:=decide_eq_false ZO;have HR:=jmT (HLong.out ZO);exact jmm
  ·have e:n=k:=by omega
   subst e;by_cases hM:(n:Int)≤M
   ·have hMd:decide ((n:Int)≤M)=true:=decide_eq_true hM;have HR:=jmT (HYes.out hM HA.out);exact jmm
   ·have hMd:decide ((n:Int)≤M)=false:=decide_eq_false hM;have HR:=jmT (HLong.out ZO);exact jmm
theorem jfd (p:Int) (w:World) (hp: -9223372036854775808≤p∧p≤9223372036854775807) :
 Calls Tryz.prog 66 #[.int .i64 p] w (FrV w (p:Rat)):=by
 have K:=St.start w;have r:=K.raw;have h:=fun W=>jd2 p 1 W hp Zb4
 rw [jbH Zb4,jbG Zb4,jgE] at h;have HO:=jmT h;clear h hp;generalize ((p:Int):Rat)=z at *;go_enter Tryz.func66,Tryz.ntmps66
 go_wp2_with (first|(refine ZAL ?_;clear K r;intro W b K r)|(refine ZST ?_;clear K r;intro W K r))
 refine (HO.out _).mono ?_;rintro e W' ⟨s7,A7,n7,c7,l7,t7,B7,m7,d7,k7,rfl,⟨hra,hrb⟩,ho,⟨hfa,hfb⟩,hb⟩;have hf7:=jmT (hfa.mono K.1.size);have hg7:=jmT (hfb.mono K.1.size);replace K:=K.retF hb hra hrb hfa hfb;clear r;have r:=K.rawS;clear hra hrb hfa hfb hb
 go_wp2_with (first|(refine ZAL ?_;clear K r;intro W b K r)|(refine ZST ?_;clear K r;intro W K r))
 have HE:=jmT (⟨s7,A7,n7,c7,l7,t7,B7,m7,d7,k7,rfl,⟨ZRD,ZRD⟩,ho,⟨hf7.out,hg7.out⟩,K.1⟩:FrV w z (.returned (.agg #[.int .i64 s7,.slice A7 n7 c7,.int .i64 t7,.slice B7 m7 d7])) W);clear ho;exact bodyPost_ret (v:=.agg #[.int .i64 s7,.slice A7 n7 c7,.int .i64 t7,.slice B7 m7 d7]) (by simp [results,Tryz.results66,go_sem,r]) rfl HE.out
def rbF (ls:List Rv) (i:Nat):Fv:=((ls[i]?).map fun r=>r.b).getD ⟨0,[],0,[]⟩
def raF (ls:List Rv) (j i:Nat):Fv:=((ls[i]?).bind fun r=>r.a[j]?).getD ⟨0,[],0,[]⟩
def LsF (w:World) (n:Nat) (x:Nat→Fv) (e:Ending) (w':World):Prop:=∃A c,e=.returned (.slice A n c)∧RdF w' w'.heap.size A n c (ofF n x)∧Below w.heap.size w w'
theorem jgv (A A':Option Addr) (n cap m cap':Nat) (ls:List Rv) (w:World) (hcap:n≤cap∧cap≤9223372036854775807∧n≤140737488351232) (hr:RdR w w.heap.size A' m cap' ls) (hm:m≤1000) :
 Calls Tryz.prog 80 #[.agg #[.slice A n cap,.slice A' m cap']] w (LsF w m (rbF ls)):=by
 have hcap':=hr.caps;have HL:=jmT hr;have K:=(St.start w).rwNew 0;clear hr;go_enter Tryz.func80,Tryz.ntmps80
 go_wp2_with (apply K.box;rfl;rfl;rfl;clear K;intro W b0 K)
 replace K:St w ([]++[((b0,#[.slice A n cap,.slice A' m cap'],38):Blk)]) _ _:=K
 go_loopg [3,4] m (fun gk s3 s4 wr=>∃(k:Nat) (v:Nat→Rw) (val:Value) (X:List Blk),k≤m∧gk=m-k∧s3=val∧s4=.int .i64 k∧Hid (∀j,j<k→(v j).fv=rbF ls j)∧Hid (OwL 4 Rw.cs 50 val (ofF k v) X)∧St w (X++[((b0,#[.slice A n cap,.slice A' m cap'],38):Blk)]) [⟨rwP k v,rwS k v⟩] wr)
 case atStart=>exact ⟨0,fun _=>Rw.zero,_,[],Nat.zero_le _,rfl,rfl,rfl,jmT (fun j h=>absurd h ZO),jmT OwL.nil,K⟩
 case round =>
  clear K;obtain ⟨k,v,val,X,hk,rfl,rfl,rfl,HV,Ho,K⟩:=hrel;have hB:=K.blk (b:=b0) (cs:=#[.slice A n cap,.slice A' m cap']) (t:=38) (List.mem_append_right _ List.mem_cons_self);have p0:=hB.cell (j:=0) rfl;have p1:=hB.cell (j:=1) rfl;clear hB;by_cases hlt:k<m
  ·have hki:(k:Int)<(m:Int):=by omega
   have hk0:(0:Int)≤(k:Int):=by omega
   have hltd:decide (k<m)=true:=decide_eq_true hlt;obtain ⟨eb,eo,A0,n0,c0,A1,n1,c1,A2,n2,c2,X5,hA,hbB,hX,⟨z0,z1,z2,z3,z4⟩,r0,r1,r2⟩:=HL.out.atR hlt;subst hA;have y0:=(K.1.cell (p:=⟨eb,eo+k*5,none⟩) hbB).trans z0;have y1:=(K.1.cell (p:=⟨eb,eo+k*5+1,none⟩) hbB).trans z1;have y2:=(K.1.cell (p:=⟨eb,eo+k*5+2,none⟩) hbB).trans z2;have y3:=(K.1.cell (p:=⟨eb,eo+k*5+3,none⟩) hbB).trans z3;have y4:=(K.1.cell (p:=⟨eb,eo+k*5+4,none⟩) hbB).trans z4;have hc0:=r0.caps;have hc1:=r1.caps;have hc2:=r2.caps;obtain ⟨y,hy⟩:∃y:Rw,y=⟨X5.b.s,A1,n1,c1,X5.b.l,X5.b.t,A2,n2,c2,X5.b.m⟩:=⟨_,rfl⟩
   have HY:=jmT (show y.fv=rbF ls k from by
    unfold rbF;rw [hX,Option.map_some,Option.getD_some,hy]
    rfl)
   replace K:=(K.rdOld r1).rdOld r2;have ey:X5.b.s=y.s∧A1=y.A∧n1=y.n∧c1=y.c∧X5.b.t=y.t∧A2=y.B∧n2=y.m∧c2=y.d∧X5.b.l=y.l∧X5.b.m=y.k:=by rw [hy];exact ⟨rfl,rfl,rfl,rfl,rfl,rfl,rfl,rfl,rfl,rfl⟩
   obtain ⟨q1,q2,q3,q4,q5,q6,q7,q8,q9,q10⟩:=ey;rw [q1] at y1;rw [q2,q3,q4] at y2;rw [q5] at y3;rw [q6,q7,q8] at y4;rw [q2,q3,q4,q6,q7,q8,q9,q10] at K;rw [q3,q4] at hc1;rw [q7,q8] at hc2;clear hX z0 z1 z2 z3 z4 r0 r1 r2 q1 q2 q3 q4 q5 q6 q7 q8 q9 q10 hy
   go_wp2_with (at_builtin;refine K.app1 Ho.out jax rfl _ _ 23 rfl _ 64 Tryz.underlying23 jaF rfl rfl y _ rfl _ rfl Zb23 Zb3 ZO ?_;clear y0 y1 y2 y3 y4;intro v4 X4 W4 ho4 K4)
   rw [jaP] at ho4
   have HV2:=jmT (show (∀j,j<k+1→(putF v k y j).fv=rbF ls j) from fun j hj=>by
    by_cases e:j=k
    ·rw [e,jaf];exact HY.out
    ·rw [jad e]
     exact HV.out j ZO)
   have Ho2:=jmT ho4;have HK:=jmT (((K4.rwAdd (v:=v) (n:=k) y ZMB ZMB ZMB).lessS (D':=[⟨rwP (k+1) (putF v k y),rwS (k+1) (putF v k y)⟩]) Zb10));clear K4 K ho4 HV Ho HY;go_roundg (m-(k+1))
   case rel=>exact ⟨k+1,_,_,X4,hlt,rfl,rfl,by go_num,HV2,Ho2,HK.out⟩
   case measure=>omega
  ·have e:m=k:=by omega
   subst e;have hltd:decide (m<m)=false:=decide_eq_false hlt;obtain ⟨Ao,co,hv,hro⟩:=Ho.out.rdF K ZMB ZO;subst hv;rw [jav (g:=rbF ls) (fun i hi=>HV.out i hi)] at hro;have HX:=jmT (show LsF w m (rbF ls) (.returned (.slice Ao m co)) wr from ⟨Ao,co,rfl,hro,K.1⟩);clear Ho K hro HV hlt;go_wp2_with fail;go_ret;exact HX.out
theorem jdY (A A':Option Addr) (n cap m cap':Nat) (ls:List Rv) (w:World) (hcap:n≤cap∧cap≤9223372036854775807∧n≤140737488351232) (hr:RdR w w.heap.size A' m cap' ls) (hm:m≤1000) (hrow:∀(k:Nat) (X:Rv),ls[k]?=some X→X.a.length=n) (j:Nat) (hj:j<n) :
 Calls Tryz.prog 122 #[.agg #[.slice A n cap,.slice A' m cap'],.int .i64 j] w (LsF w m (raF ls j)):=by
 have hcap':=hr.caps;have HL:=jmT hr;have HRow:=jmT hrow;have hji:(j:Int)<(n:Int):=by omega
 have hj0:(0:Int)≤(j:Int):=by omega
 have K:=(St.start w).rwNew 0;clear hr hrow;go_enter Tryz.func122,Tryz.ntmps122
 go_wp2_with (apply K.box;rfl;rfl;rfl;clear K;intro W b0 K)
 replace K:St w ([]++[((b0,#[.slice A n cap,.slice A' m cap'],38):Blk)]) _ _:=K
 go_loopg [5,6] m (fun gk s3 s4 wr=>∃(k:Nat) (v:Nat→Rw) (val:Value) (X:List Blk),k≤m∧gk=m-k∧s3=val∧s4=.int .i64 k∧Hid (∀i,i<k→(v i).fv=raF ls j i)∧Hid (OwL 4 Rw.cs 50 val (ofF k v) X)∧St w (X++[((b0,#[.slice A n cap,.slice A' m cap'],38):Blk)]) [⟨rwP k v,rwS k v⟩] wr)
 case atStart=>exact ⟨0,fun _=>Rw.zero,_,[],Nat.zero_le _,rfl,rfl,rfl,jmT (fun i h=>absurd h ZO),jmT OwL.nil,K⟩
 case round =>
  clear K;obtain ⟨k,v,val,X,hk,rfl,rfl,rfl,HV,Ho,K⟩:=hrel;have hB:=K.blk (b:=b0) (cs:=#[.slice A n cap,.slice A' m cap']) (t:=38) (List.mem_append_right _ List.mem_cons_self);have p0:=hB.cell (j:=0) rfl;have p1:=hB.cell (j:=1) rfl;clear hB;by_cases hlt:k<m
  ·have hki:(k:Int)<(m:Int):=by omega
   have hk0:(0:Int)≤(k:Int):=by omega
   have hltd:decide (k<m)=true:=decide_eq_true hlt;obtain ⟨eb,eo,A0,n0,c0,A1,n1,c1,A2,n2,c2,X5,hA,hbB,hX,⟨z0,z1,z2,z3,z4⟩,r0,r1,r2⟩:=HL.out.atR hlt;subst hA;have y0:=(K.1.cell (p:=⟨eb,eo+k*5,none⟩) hbB).trans z0;have y1:=(K.1.cell (p:=⟨eb,eo+k*5+1,none⟩) hbB).trans z1;have y2:=(K.1.cell (p:=⟨eb,eo+k*5+2,none⟩) hbB).trans z2;have y3:=(K.1.cell (p:=⟨eb,eo+k*5+3,none⟩) hbB).trans z3;have y4:=(K.1.cell (p:=⟨eb,eo+k*5+4,none⟩) hbB).trans z4;have hc0:=r0.caps;have hc1:=r1.caps;have hc2:=r2.caps;have hn0:n0=n:=by have h1:=HRow.out k X5 hX;have:=r0.len;omega
   subst hn0;obtain ⟨u,hu,K⟩:=K.fxOld r0
   have HY:=jmT (show (u j).fv=raF ls j k from by
    unfold raF
    rw [hX,Option.bind_some,hu j hj,Option.getD_some])
   obtain ⟨ab,ao,hA⟩:=K.fxAt (A:=A0) (n:=n0) (cap:=c0) (v:=u) ZMB ZO;subst hA;replace K:=K.fxRd (n:=n0) (v:=u) (i:=j) ZMB hj;obtain ⟨f0,f1,f2,f3⟩:=K.fxCell (n:=n0) (cap:=c0) (b:=ab) (off:=ao) (v:=u) ZMB hj;clear hX z0 z1 z2 z3 z4 r0 r1 r2 hu
   go_wp2_with (at_builtin;refine K.app1 Ho.out jax rfl _ _ 23 rfl _ 64 Tryz.underlying23 jaF rfl rfl (u j) _ rfl _ rfl Zb23 Zb3 ZO ?_;clear y0 y1 y2 y3 y4 f0 f1 f2 f3;intro v4 X4 W4 ho4 K4)
   rw [jaP] at ho4
   have HV2:=jmT (show (∀i,i<k+1→(putF v k (u j) i).fv=raF ls j i) from fun i hi=>by
    by_cases e:i=k
    ·rw [e,jaf];exact HY.out
    ·rw [jad e]
     exact HV.out i ZO)
   have Ho2:=jmT ho4;have HK:=jmT (((K4.rwAdd (v:=v) (n:=k) (u j) ZMB ZMB ZMB).lessS (D':=[⟨rwP (k+1) (putF v k (u j)),rwS (k+1) (putF v k (u j))⟩]) Zb10));clear K4 K ho4 HV Ho HY;go_roundg (m-(k+1))
   case rel=>exact ⟨k+1,_,_,X4,hlt,rfl,rfl,by go_num,HV2,Ho2,HK.out⟩
   case measure=>omega
  ·have e:m=k:=by omega
   subst e;have hltd:decide (m<m)=false:=decide_eq_false hlt;obtain ⟨Ao,co,hv,hro⟩:=Ho.out.rdF K ZMB ZO;subst hv;rw [jav (g:=raF ls j) (fun i hi=>HV.out i hi)] at hro;have HX:=jmT (show LsF w m (raF ls j) (.returned (.slice Ao m co)) wr from ⟨Ao,co,rfl,hro,K.1⟩);clear Ho K hro HV hlt;go_wp2_with fail;go_ret;exact HX.out
end Go.Proofs.YtdlcglndhhndpaaGreat
