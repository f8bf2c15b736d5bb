/- Laws and walks; conditions stand in each theorem. -/
import Derived.Test.YtgikfcjndiohjaaGreatP23
import Derived.Test.YtgikfcjndiohjaaGreatP22
set_option linter.unusedSimpArgs false
set_option linter.unusedVariables false
set_option maxHeartbeats 4000000
set_option maxRecDepth 100000
namespace Go.Proofs.YtgikfcjndiohjaaGreat
open Go.RowKit
theorem jhm (w0 W:World) (L:List Blk) (D:List Hl) (mb:Nat) (b:Bool) (R:List Value) (T:TypeId) (A A' B:Option Addr) (n cap m cap' n' capx:Nat) (ls:List Rv) (v:Nat→Rw) (x:Nat→Rat)
 (K:St w0 L D W) (hmb:(mb,(Value.bool b::R).toArray,T)∈L) (hr:RdR w0 w0.heap.size A' m cap' ls) (hrow:∀(k:Nat) (X:Rv),ls[k]?=some X→rowF n X=true) (m2:(⟨fxP B n' capx v,fxS B n' v⟩:Hl)∈D) (hn:n≤n'∧n≤1000000) (hx:∀i,i<n→isQ (v i) (x i)) :
 Calls Tryz.prog 80 #[.pointer (some ⟨mb,0,none⟩),.agg #[.slice A n cap,.slice A' m cap'],.slice B n' capx,.bool true] W (SumP w0 mb R T b L D (belB m n (rwA2 ls) (rwB2 ls true) x)):=by
 have HX:=jpk hx
 have HZ:=jpk jbc
 have M2:=jpk m2
 have HL:=jpk hr
 have HRow:=jpk hrow
 have hcap':=hr.caps
 have hcap:=K.fxCap m2
 obtain ⟨L9,hU9,rfl⟩:=Upd.same hmb
 have HU0:=jpk hU9
 clear hx hr hrow hmb hU9 m2
 have r:=K.raw
 go_enter Tryz.func80,Tryz.ntmps80
 go_wp2_with (first|(apply K.box;rfl;rfl;rfl;clear K r;intro W b0 K;have r:=K.rawS)|(apply K.alloc;rfl;rfl;exact ja3;clear K r;intro W b1 K;have r:=K.rawS)|(apply K.alloc;rfl;rfl;exact jbh;clear K r;intro W b2 K;have r:=K.rawS)|(apply K.storeA;rfl;rfl;rfl;rfl;rfl;(exact ZUP);(first|exact ja2|exact jar);rfl;rfl;rfl;clear K r;intro W K;have r:=K.rawS))
 go_loopg [15] m (fun gk s15 wr=>∃(k:Nat) (bk:Bool) (Lk:List Blk),k≤m∧gk=m-k∧s15=.int .i64 k∧Hid (Upd mb (Value.bool b::R).toArray T (Value.bool bk::R).toArray L9 Lk)∧Hid ((!bk)=(!b&&jbZ (fun i=>prdK (rwA2 ls i) x n) (fun i=>decide (smQ (fun j=>rwA2 ls i j*x j) n≤rwB2 ls true i)) k))∧St w0 ((b0,#[.slice A n cap,.slice A' m cap'],57)::Lk) D wr)
 case atStart=>exact ⟨0,b,L9,Nat.zero_le _,rfl,rfl,HU0,jpk (by simp [jbZ]),K⟩
 case round =>
  clear K r HU0
  obtain ⟨k,bk,Lk,hk,rfl,rfl,HU,HS,K⟩:=hrel
  by_cases hlt:k<m
  ·obtain ⟨eb,eo,A0,n0,c0,A1,n1,c1,A2,n2,c2,X,hA,hbB,hX,⟨z0,z1,z2,z3,z4⟩,r0,r1,r2⟩:=HL.out.atR hlt
   subst hA
   have hki:(k:Int)<(m:Int):=by omega
   have hk0:(0:Int)≤(k:Int):=by omega
   have y0:=(K.1.cell (p:=⟨eb,eo+k*5,none⟩) hbB).trans z0
   have y1:=(K.1.cell (p:=⟨eb,eo+k*5+1,none⟩) hbB).trans z1
   have y2:=(K.1.cell (p:=⟨eb,eo+k*5+2,none⟩) hbB).trans z2
   have y3:=(K.1.cell (p:=⟨eb,eo+k*5+3,none⟩) hbB).trans z3
   have y4:=(K.1.cell (p:=⟨eb,eo+k*5+4,none⟩) hbB).trans z4
   have hc0:=r0.caps
   have hc1:=r1.caps
   have hc2:=r2.caps
   have hF:=HRow.out k X hX
   unfold rowF at hF
   rw [Bool.and_eq_true,Bool.and_eq_true,decide_eq_true_eq] at hF
   have hn0:n0=n:=by have:=hF.1.1;have:=r0.len;omega
   subst hn0
   obtain ⟨u,hu,K⟩:=K.fxOld r0
   have hQ:=jbW hF.1.2
   have HA:=jpk (show ∀i,i<n0→isQ (u i) (rwA2 ls k i) from fun i hi=>by
    exact ZQ55)
   replace K:=(K.rdOld r1).rdOld r2
   clear hX z0 z1 z2 z3 z4 r0 r1 r2 hF hu hQ
   have r:=K.rawS
   go_upto_region 7 with (first|(first|(apply K.box;rfl;rfl;rfl;clear K r;intro W b0 K;have r:=K.rawS)|(apply K.alloc;rfl;rfl;exact ja3;clear K r;intro W b1 K;have r:=K.rawS)|(apply K.alloc;rfl;rfl;exact jbh;clear K r;intro W b2 K;have r:=K.rawS)|(apply K.storeA;rfl;rfl;rfl;rfl;rfl;(exact ZUP);(first|exact ja2|exact jar);rfl;rfl;rfl;clear K r;intro W K;have r:=K.rawS))|(go_at_call 105;refine (HZ.out _).mono ?_;rintro e W' ⟨s7,A7,n7,c7,l7,t7,B7,m7,d7,k7,rfl,⟨hra,hrb⟩,ho,⟨hfa,hfb⟩,hb⟩;replace K:=K.retF hb hra hrb hfa hfb;clear hra hrb hfa hfb hb r;have HO:=jpk ho;clear ho;have r:=K.rawS))
   have HQ:=jpk (show isQ (⟨s7,A7,n7,c7,l7,t7,B7,m7,d7,k7⟩:Rw) (rwB2 ls true k) from by
    unfold rwB2
    rw [if_pos rfl]
    exact ⟨HO.out,jbe⟩)
   have K0:=K.drew
   have r0:=K0.rawS
   have s0:W.drew.cell? ⟨b1,0,none⟩=some (.slice A0 n0 c0)∧W.drew.cell? ⟨b2,0,none⟩=some (.int .i64 s7)∧W.drew.cell? ⟨b2,1,none⟩=some (.slice A7 n7 c7)∧W.drew.cell? ⟨b2,2,none⟩=some (.int .i64 t7)∧W.drew.cell? ⟨b2,3,none⟩=some (.slice B7 m7 d7):=⟨r0.2.1.1,r0.1⟩
   obtain ⟨bn,hbn⟩:∃bn,bn=(bk|| !prdK (rwA2 ls k) x n0):=⟨_,rfl⟩
   obtain ⟨Ln,hU1,hU2⟩:=HU.out.next (Value.bool bn::R).toArray
   have HU1:=jpk hU1
   have HU2:=jpk hU2
   have HBn:=jpk hbn
   have HPr:=jpk (jbB w0 W.drew _ ((b2,#[.int .i64 ((⟨s7,A7,n7,c7,l7,t7,B7,m7,d7,k7⟩:Rw)).s,.slice ((⟨s7,A7,n7,c7,l7,t7,B7,m7,d7,k7⟩:Rw)).A ((⟨s7,A7,n7,c7,l7,t7,B7,m7,d7,k7⟩:Rw)).n ((⟨s7,A7,n7,c7,l7,t7,B7,m7,d7,k7⟩:Rw)).c,.int .i64 ((⟨s7,A7,n7,c7,l7,t7,B7,m7,d7,k7⟩:Rw)).t,.slice ((⟨s7,A7,n7,c7,l7,t7,B7,m7,d7,k7⟩:Rw)).B ((⟨s7,A7,n7,c7,l7,t7,B7,m7,d7,k7⟩:Rw)).m ((⟨s7,A7,n7,c7,l7,t7,B7,m7,d7,k7⟩:Rw)).d],29)::(b1,#[.slice A0 n0 c0,.int .i64 X.b.s,.slice A1 n1 c1,.int .i64 X.b.t,.slice A2 n2 c2],97)::(b0,#[.slice A n0 cap,.slice (some ⟨eb,eo,none⟩) m cap'],57)::Ln) _ mb bk bn R T A0 B n0 c0 n' capx u v (rwA2 ls k) x K0 ZMB Zb12 hn HA.out HX.out hbn (.tail _ (.tail _ (.tail _ hU1))))
   have HCm:=jpk (fun V (y2:Rw) (z2:Rat) (hz:isQ y2 z2) (h:St w0 ((b2,#[.int .i64 ((⟨s7,A7,n7,c7,l7,t7,B7,m7,d7,k7⟩:Rw)).s,.slice ((⟨s7,A7,n7,c7,l7,t7,B7,m7,d7,k7⟩:Rw)).A ((⟨s7,A7,n7,c7,l7,t7,B7,m7,d7,k7⟩:Rw)).n ((⟨s7,A7,n7,c7,l7,t7,B7,m7,d7,k7⟩:Rw)).c,.int .i64 ((⟨s7,A7,n7,c7,l7,t7,B7,m7,d7,k7⟩:Rw)).t,.slice ((⟨s7,A7,n7,c7,l7,t7,B7,m7,d7,k7⟩:Rw)).B ((⟨s7,A7,n7,c7,l7,t7,B7,m7,d7,k7⟩:Rw)).m ((⟨s7,A7,n7,c7,l7,t7,B7,m7,d7,k7⟩:Rw)).d],29)::(b1,#[.slice A0 n0 c0,.int .i64 X.b.s,.slice A1 n1 c1,.int .i64 X.b.t,.slice A2 n2 c2],97)::(b0,#[.slice A n0 cap,.slice (some ⟨eb,eo,none⟩) m cap'],57)::Ln) (⟨rdP y2.B y2.m y2.d y2.k,rdS y2.B y2.m⟩::⟨rdP y2.A y2.n y2.c y2.l,rdS y2.A y2.n⟩::⟨rdP B7 m7 d7 k7,rdS B7 m7⟩::⟨rdP A7 n7 c7 l7,rdS A7 n7⟩::⟨rdP A2 n2 c2 X.b.m,rdS A2 n2⟩::⟨rdP A1 n1 c1 X.b.l,rdS A1 n1⟩::⟨fxP A0 n0 c0 u,fxS A0 n0 u⟩::D) V)=>jcX h hz HQ.out ZMB ZMB ZMB ZMB)
   have HSA:=jpk (fun V D2 Lx (h:St w0 ((b2,#[.int .i64 ((⟨s7,A7,n7,c7,l7,t7,B7,m7,d7,k7⟩:Rw)).s,.slice ((⟨s7,A7,n7,c7,l7,t7,B7,m7,d7,k7⟩:Rw)).A ((⟨s7,A7,n7,c7,l7,t7,B7,m7,d7,k7⟩:Rw)).n ((⟨s7,A7,n7,c7,l7,t7,B7,m7,d7,k7⟩:Rw)).c,.int .i64 ((⟨s7,A7,n7,c7,l7,t7,B7,m7,d7,k7⟩:Rw)).t,.slice ((⟨s7,A7,n7,c7,l7,t7,B7,m7,d7,k7⟩:Rw)).B ((⟨s7,A7,n7,c7,l7,t7,B7,m7,d7,k7⟩:Rw)).m ((⟨s7,A7,n7,c7,l7,t7,B7,m7,d7,k7⟩:Rw)).d],29)::(b1,#[.slice A0 n0 c0,.int .i64 X.b.s,.slice A1 n1 c1,.int .i64 X.b.t,.slice A2 n2 c2],97)::Lx) D2 V)=>(show V.cell? ⟨b1,0,none⟩=some (.slice A0 n0 c0)∧V.cell? ⟨b2,0,none⟩=some (.int .i64 s7)∧V.cell? ⟨b2,1,none⟩=some (.slice A7 n7 c7)∧V.cell? ⟨b2,2,none⟩=some (.int .i64 t7)∧V.cell? ⟨b2,3,none⟩=some (.slice B7 m7 d7) from by
    have r:=h.rawS
    exact ⟨r.2.1.1,r.1⟩))
   clear hU1 hU2 hbn HU K r r0
   refine jak 100 (fun V=>V.cell? ⟨b1,0,none⟩=some (.slice A0 n0 c0)∧V.cell? ⟨b2,0,none⟩=some (.int .i64 s7)∧V.cell? ⟨b2,1,none⟩=some (.slice A7 n7 c7)∧V.cell? ⟨b2,2,none⟩=some (.int .i64 t7)∧V.cell? ⟨b2,3,none⟩=some (.slice B7 m7 d7)) Zb9 s0 (fun hSh=>?_)
   clear s0
   refine jaa.tkA 0 rfl ?_
   refine jaa.tkA 1 rfl ?_
   refine jaa.tkA 2 rfl ?_
   refine jaa.tkA 3 rfl ?_
   refine jaa.tkA 5 rfl ?_
   refine jaa.on 4 rfl fun KK hKK=>?_
   go_simp
   go_at_call 82;refine HPr.out.mono ?_;rintro e w5 ⟨y2,z2,rfl,g2,k5⟩
   go_wp2_with fail
   refine hKK.out _ _ ?_ (fun hSh=>?_)
   ·exact HSA.out _ _ _ k5
   clear hKK KK
   refine ZPT ?_
   refine jaa.on 6 rfl fun KK hKK=>?_
   go_simp
   go_at_call 23;refine (HCm.out _ _ _ g2.out.1 k5).mono ?_;rintro e w6 ⟨rfl,k6⟩
   go_wp2_with fail
   refine hKK.out _ _ ?_ (fun hSh=>?_)
   ·exact HSA.out _ _ _ k6
   clear hKK KK
   refine ZPT ?_
   have hst:=jdg (q:=decide (z2≤rwB2 ls true k)) HS.out HBn.out (p:=fun i=>decide (smQ (fun j=>rwA2 ls i j*x j) n0≤rwB2 ls true i)) (t:=fun i=>prdK (rwA2 ls i) x n0) (fun h=>by rw [g2.out.2 h])
   have Hst:=jpk hst
   have HK:=jpk (k6.lessS (D':=D) Zb13)
   clear hst k5 K0 HPr HCm HSA g2 HU1 HBn HS HA HQ HX HRow
   by_cases hle:z2≤rwB2 ls true k
   ·have hc:¬cmpQ z2 (rwB2 ls true k)>0:=by have:=jcm.2 hle;omega
    have hcd:decide (cmpQ z2 (rwB2 ls true k)>0)=false:=decide_eq_false hc
    exact ZQ65
   ·have hc:cmpQ z2 (rwB2 ls true k)>0:=by
     have:¬cmpQ z2 (rwB2 ls true k)≤0:=fun h=>hle (jcm.1 h)
     omega
    have hcd:decide (cmpQ z2 (rwB2 ls true k)>0)=true:=decide_eq_true hc
    exact ZQ52
  ·have e:k=m:=by omega
   subst e
   have HE:=jpk (⟨true,bk,Lk,rfl,HU,jpk (by rw [Bool.true_and];exact HS.out),K.part (List.sublist_cons_self _ _)⟩:SumP w0 mb R T b L9 D (belB k n (rwA2 ls) (rwB2 ls true) x) (.returned (.bool true)) wr)
   exact jkD
theorem jkh (A A2:Option Addr) (n cap n2 cap2:Nat) (a b:List Fv) (w:World) (ha:RdF w w.heap.size A n cap a) (hb:RdF w w.heap.size A2 n2 cap2 b) :
 Calls Tryz.prog 14 #[.slice A n cap,.slice A2 n2 cap2] w fun e w'=>e=.returned (.bool (decide (a=b)))∧Below w.heap.size w w':=by
 have K:=St.start w
 have r:=K.raw
 have hla:=ha.len
 have hlb:=hb.len
 have hca:=ha.caps
 have hcb:=hb.caps
 have HA:=jpk ha
 have HB:=jpk hb
 obtain ⟨R,hR⟩:∃R,R=decide (a=b):=⟨_,rfl⟩
 rw [←hR]
 clear ha hb
 by_cases hnn:(n:Int)=(n2:Int)
 case neg =>
  have hd2:((n:Int) !=(n2:Int))=true:=by simp [hnn]
  have HR:=jpk (show R=false from by rw [hR];exact decide_eq_false fun h=>hnn (by rw [←hla,←hlb,h]))
  clear hR hnn hla hlb
  go_enter Tryz.func14,Tryz.ntmps14
  go_wp2_with (first|(refine ZAL ?_;clear K r;intro W b K r)|(refine ZST ?_;clear K r;intro W K r))
  exact ZQ79
 obtain rfl:n=n2:=by omega
 have hd2:((n:Int) !=(n:Int))=false:=by simp
 have HEq:=jpk (show (∀j:Nat,j<n→a[j]?=b[j]?)→R=true from fun h=>by
  rw [hR]
  refine decide_eq_true (List.ext_getElem? fun j=>?_)
  by_cases hj:j<n
  ·exact h j hj
  ·rw [List.getElem?_eq_none ZO,List.getElem?_eq_none ZO])
 have HNe:=jpk (show ∀(j:Nat) x y,a[j]?=some x→b[j]?=some y→x≠y→R=false from fun j x y h1 h2 h3=>by
  rw [hR]
  refine decide_eq_false fun h=>h3 ?_
  rw [h,h2] at h1
  exact (Option.some.inj h1).symm)
 clear hla hlb hR hnn
 go_enter Tryz.func14,Tryz.ntmps14
 go_wp2_with (first|(refine ZAL ?_;clear K r;intro W b K r)|(refine ZST ?_;clear K r;intro W K r))
 go_loopg [5] n (fun gk i wr=>∃k:Nat,k≤n∧gk=n-k∧i=.int .i64 k∧Hid (∀j:Nat,j<k→a[j]?=b[j]?)∧Below w.heap.size w wr)
 case atStart=>exact ⟨0,Nat.zero_le _,rfl,rfl,jpk (fun j hj=>absurd hj ZO),K.1⟩
 case round =>
  clear K r
  obtain ⟨k,hk,rfl,rfl,Hall,hbel⟩:=hrel
  by_cases hlt:k<n
  ·have K:=(St.start w).keep hbel
   obtain ⟨eb1,off1,A1,n1,c1,B1,m1,d1,x,hA1,hbB1,hx1,⟨z0,z1,z2,z3⟩,r1,q1⟩:=HA.out.atF hlt
   subst hA1
   have Ex1:=jpk (fun W (h:Below w.heap.size w W)=>(⟨(h.cell (p:=⟨eb1,off1+k*4,none⟩) hbB1).trans z0,(h.cell (p:=⟨eb1,off1+k*4+1,none⟩) hbB1).trans z1,(h.cell (p:=⟨eb1,off1+k*4+2,none⟩) hbB1).trans z2,(h.cell (p:=⟨eb1,off1+k*4+3,none⟩) hbB1).trans z3⟩:W.cell? ⟨eb1,off1+k*4,none⟩=some (.int .i64 (x).s)∧W.cell? ⟨eb1,off1+k*4+1,none⟩=some (.slice A1 n1 c1)∧W.cell? ⟨eb1,off1+k*4+2,none⟩=some (.int .i64 (x).t)∧W.cell? ⟨eb1,off1+k*4+3,none⟩=some (.slice B1 m1 d1)))
   have hki:(k:Int)<(n:Int):=by omega
   have hk0:(0:Int)≤(k:Int):=by omega
   have hcap1:=r1.caps
   have hcbp1:=q1.caps
   replace K:=(K.oldRd r1).oldRd q1
   have Hx1:=jpk hx1
   clear hx1 z0 z1 z2 z3 r1 q1
   obtain ⟨eb2,off2,A2,n2,c2,B2,m2,d2,y,hA2,hbB2,hx2,⟨z0,z1,z2,z3⟩,r2,q2⟩:=HB.out.atF hlt
   subst hA2
   have Ex2:=jpk (fun W (h:Below w.heap.size w W)=>(⟨(h.cell (p:=⟨eb2,off2+k*4,none⟩) hbB2).trans z0,(h.cell (p:=⟨eb2,off2+k*4+1,none⟩) hbB2).trans z1,(h.cell (p:=⟨eb2,off2+k*4+2,none⟩) hbB2).trans z2,(h.cell (p:=⟨eb2,off2+k*4+3,none⟩) hbB2).trans z3⟩:W.cell? ⟨eb2,off2+k*4,none⟩=some (.int .i64 (y).s)∧W.cell? ⟨eb2,off2+k*4+1,none⟩=some (.slice A2 n2 c2)∧W.cell? ⟨eb2,off2+k*4+2,none⟩=some (.int .i64 (y).t)∧W.cell? ⟨eb2,off2+k*4+3,none⟩=some (.slice B2 m2 d2)))
   have hki:(k:Int)<(n:Int):=by omega
   have hk0:(0:Int)≤(k:Int):=by omega
   have hcap2:=r2.caps
   have hcbp2:=q2.caps
   replace K:=(K.oldRd r2).oldRd q2
   have Hx2:=jpk hx2
   clear hx2 z0 z1 z2 z3 r2 q2
   obtain ⟨ι,f,hne,hfw,hfk,hfc⟩:=jnD (fun W=>St w [] [⟨rdP B2 m2 d2 y.m,oldS w⟩,⟨rdP A2 n2 c2 y.l,oldS w⟩,⟨rdP B1 m1 d1 x.m,oldS w⟩,⟨rdP A1 n1 c1 x.l,oldS w⟩] W) wr K (fun W h=>h.drew)
   have QC:=jpk (fun q=>(jd2 x.s x.t y.s y.t A1 B1 A2 B2 n1 c1 m1 d1 n2 c2 m2 d2 x.l x.m y.l y.m (f q) ((hfk q).rd ZMB) ((hfk q).rd ZMB) ((hfk q).rd ZMB) ((hfk q).rd ZMB)).mono fun e w'' ⟨he,hb⟩=>(⟨by rw [←jgb];exact he,hfc _ ((hfk q).keep hb)⟩:e=Ending.returned (.bool (decide (x=y)))∧∃s,w''=f s))
   have e1:=fun q=>(Ex1.out (f q) (hfk q).1).1
   have e2:=fun q=>(Ex1.out (f q) (hfk q).1).2.1
   have e3:=fun q=>(Ex1.out (f q) (hfk q).1).2.2.1
   have e4:=fun q=>(Ex1.out (f q) (hfk q).1).2.2.2
   have g1:=fun q=>(Ex2.out (f q) (hfk q).1).1
   have g2:=fun q=>(Ex2.out (f q) (hfk q).1).2.1
   have g3:=fun q=>(Ex2.out (f q) (hfk q).1).2.2.1
   have g4:=fun q=>(Ex2.out (f q) (hfk q).1).2.2.2
   have Hfw:=jpk hfw
   have Hfk:=jpk (fun q=>(hfk q).1)
   clear hfw hfk hfc K hbel
   by_cases hxy:x=y
   ·rw [decide_eq_true hxy] at QC
    have Hn:=jpk (show ∀j:Nat,j<k+1→a[j]?=b[j]? from fun j hj=>by
     by_cases e:j=k
     ·subst e;rw [Hx1.out,Hx2.out,hxy]
     ·exact Hall.out j ZO)
    clear hxy Hall
    go_upto_region 6 with fail
    refine jcV (C:=fun w'=>∃n,w'=f n) Zb9 Zb9 Hfw.out ?_
    repeat (first
     | go_big_quiet_skip
     | (go_big_quiet_want;go_big_quiet_op;first | go_big_quiet_on | go_big_quiet_call ((go_at_call 15;with_reducible exact QC.out _))))
    refine wpQuiet_nil ?_
    rintro _ ⟨nq,rfl⟩
    have hB:=Hfk.out nq
    clear QC e1 e2 e3 e4 g1 g2 g3 g4
    go_wp2
    go_roundg (n-(k+1))
    case rel=>exact ⟨k+1,by omega,rfl,by go_num,Hn,hB⟩
    case measure=>omega
   ·rw [decide_eq_false hxy] at QC
    have Hf:=jpk (HNe.out k x y Hx1.out Hx2.out hxy)
    clear hxy Hall
    go_upto_region 6 with fail
    refine jcV (C:=fun w'=>∃n,w'=f n) Zb9 Zb9 Hfw.out ?_
    repeat (first
     | go_big_quiet_skip
     | (go_big_quiet_want;go_big_quiet_op;first | go_big_quiet_on | go_big_quiet_call ((go_at_call 15;with_reducible exact QC.out _))))
    refine wpQuiet_nil ?_
    rintro _ ⟨nq,rfl⟩
    have hB:=Hfk.out nq
    clear QC e1 e2 e3 e4 g1 g2 g3 g4
    go_wp2
    go_ret
    exact ⟨by rw [Hf.out];first|done|rfl,hB⟩
  ·have ee:k=n:=by omega
   subst ee
   have hd0:decide (k<k)=false:=by simp
   have Hf:=jpk (HEq.out Hall.out)
   clear hlt Hall
   go_wp2
   go_ret
   exact ⟨by rw [Hf.out];first|done|rfl,hbel⟩
theorem jhC (M:Int) (A:Option Addr) (n cap:Nat) (l:List Fv) (w:World) (hl:RdF w w.heap.size A n cap l) :
 Calls Tryz.prog 8 #[.slice A n cap,.int .i64 M] w fun e w'=>e=.returned (.bool (jfE M 1 l))∧Below w.heap.size w w':=by
 have hcaps:=hl.caps
 have hlen:=hl.len
 have HL:=jpk hl
 obtain ⟨R,hR⟩:∃R,R=jfE M 1 l:=⟨_,rfl⟩
 rw [←hR]
 have HNo:=jpk (show ∀(i:Nat) x,l[i]?=some x→fewV 1 x=false→R=false from fun i x hx h=>by
  rw [hR]
  unfold jfE
  rw [Bool.and_eq_false_iff]
  right
  rw [List.all_eq_false]
  exact ⟨x,List.mem_of_getElem? hx,by rw [h];simp⟩)
 have HLong:=jpk (show M<(n:Int)→R=false from fun h=>by
  rw [hR]
  unfold jfE
  rw [hlen,decide_eq_false ZO,Bool.false_and])
 have HYes:=jpk (show (n:Int)≤M→(∀(i:Nat) x,i<n→l[i]?=some x→fewV 1 x=true)→R=true from fun h h1=>by
  rw [hR]
  unfold jfE
  rw [hlen,decide_eq_true h,Bool.true_and,List.all_eq_true]
  intro x hx
  obtain ⟨i,hi,rfl⟩:=List.mem_iff_getElem.1 hx
  exact h1 i _ ZO (List.getElem?_eq_getElem hi))
 clear hl hR hlen
 go_enter Tryz.func8,Tryz.ntmps8
 go_wp2
 go_loopg [5] n (fun gk s5 wr=>∃k:Nat,k≤n∧gk=n-k∧s5=.int .i64 k∧Hid (∀(i:Nat) x,i<k→l[i]?=some x→fewV 1 x=true)∧Below w.heap.size w wr)
 case atStart=>exact ⟨0,Nat.zero_le _,rfl,rfl,jpk (fun j x h=>absurd h ZO),Below.refl _ _⟩
 case round =>
  obtain ⟨k,hk,rfl,rfl,HA,hb⟩:=hrel
  have HB:=jpk hb
  by_cases hlt:k<n
  ·have hltd:decide (k<n)=true:=decide_eq_true hlt
   by_cases hM:(k:Int)≤M
   ·have hMd:decide ((k:Int)≤M)=true:=decide_eq_true hM
    obtain ⟨eb,off,A1,n1,c1,B1,m1,d1,x,hA,hbB,hx,⟨z0,z1,z2,z3⟩,r1,r2⟩:=HL.out.atF hlt
    subst hA
    have e0:=(hb.cell (p:=⟨eb,off+k*4,none⟩) hbB).trans z0
    have e1:=(hb.cell (p:=⟨eb,off+k*4+1,none⟩) hbB).trans z1
    have e2:=(hb.cell (p:=⟨eb,off+k*4+2,none⟩) hbB).trans z2
    have e3:=(hb.cell (p:=⟨eb,off+k*4+3,none⟩) hbB).trans z3
    have hki:(k:Int)<(n:Int):=by omega
    have hk0:(0:Int)≤(k:Int):=by omega
    have hcp1:=r1.caps
    have hcp2:=r2.caps
    have HW:=jpk (fun W=>jmt x.s x.t A1 B1 n1 c1 m1 d1 1 W)
    have hv:fewF n1 m1 1=fewV 1 x:=by unfold fewV;rw [r1.len,r2.len]
    rw [hv] at HW
    have Hx:=jpk hx
    clear z0 z1 z2 z3 r1 r2 hx hv
    cases hf:fewV 1 x
    ·rw [hf] at HW
     have HR:=jpk (HNo.out k x Hx.out hf)
     clear hf HNo HYes HLong HA
     go_wp2_with (go_at_call 9;refine (HW.out _).mono ?_;rintro e w1 ⟨rfl,hb1⟩)
     go_ret
     exact ⟨by rw [HR.out];first|done|rfl,HB.out.trans (hb1.mono HB.out.size)⟩
    ·rw [hf] at HW
     have HA2:=jpk (show ∀(i:Nat) y,i<k+1→l[i]?=some y→fewV 1 y=true from fun i y hi hy=>by
      by_cases e:i=k
      ·subst e;rw [Hx.out] at hy;cases hy;exact hf
      ·exact HA.out i y ZO hy)
     clear hf HA
     go_wp2_with (go_at_call 9;refine (HW.out _).mono ?_;rintro e w1 ⟨rfl,hb1⟩)
     go_roundg (n-(k+1))
     case rel=>exact ⟨k+1,hlt,rfl,by go_num,HA2,HB.out.trans (hb1.mono HB.out.size)⟩
     case measure=>omega
   ·have hMd:decide ((k:Int)≤M)=false:=decide_eq_false hM
    have hn2:decide ((n:Int)≤M)=false:=decide_eq_false ZO
    have HR:=jpk (HLong.out ZO)
    exact jnv
  ·have e:n=k:=by omega
   subst e
   by_cases hM:(n:Int)≤M
   ·have hMd:decide ((n:Int)≤M)=true:=decide_eq_true hM
    have HR:=jpk (HYes.out hM HA.out)
    exact jnv
   ·have hMd:decide ((n:Int)≤M)=false:=decide_eq_false hM
    have HR:=jpk (HLong.out ZO)
    exact jnv
theorem jjT (p:Int) (w:World) (hp: -9223372036854775808≤p∧p≤9223372036854775807) :
 Calls Tryz.prog 22 #[.int .i64 p] w (FrV w (p:Rat)):=by
 have K:=St.start w
 have r:=K.raw
 have h:=fun W=>jgd p 1 W hp Zb4
 rw [jbk Zb4,jbj Zb4,jdG] at h
 have HO:=jpk h
 clear h hp
 generalize ((p:Int):Rat)=z at *
 go_enter Tryz.func22,Tryz.ntmps22
 go_wp2_with (first|(refine ZAL ?_;clear K r;intro W b K r)|(refine ZST ?_;clear K r;intro W K r))
 refine (HO.out _).mono ?_
 rintro e W' ⟨s7,A7,n7,c7,l7,t7,B7,m7,d7,k7,rfl,⟨hra,hrb⟩,ho,⟨hfa,hfb⟩,hb⟩
 have hf7:=jpk (hfa.mono K.1.size)
 have hg7:=jpk (hfb.mono K.1.size)
 replace K:=K.retF hb hra hrb hfa hfb
 clear r
 have r:=K.rawS
 clear hra hrb hfa hfb hb
 go_wp2_with (first|(refine ZAL ?_;clear K r;intro W b K r)|(refine ZST ?_;clear K r;intro W K r))
 have HE:=jpk (⟨s7,A7,n7,c7,l7,t7,B7,m7,d7,k7,rfl,⟨ZRD,ZRD⟩,ho,⟨hf7.out,hg7.out⟩,K.1⟩:FrV w z (.returned (.agg #[.int .i64 s7,.slice A7 n7 c7,.int .i64 t7,.slice B7 m7 d7])) W)
 clear ho
 exact bodyPost_ret (v:=.agg #[.int .i64 s7,.slice A7 n7 c7,.int .i64 t7,.slice B7 m7 d7]) (by simp [results,Tryz.results22,go_sem,r]) rfl HE.out
theorem jeJ:((6:Int) !=0)=true:=rfl
theorem jnd:((0:Int) !=0)=false:=rfl
theorem jdu {x y:Int} {z:Rat}:madO true x y=binO true false z∧madE true y=binE true false:=⟨rfl,rfl⟩
theorem jnc {x y:Int} {z:Rat} (hy:y≠0) (hz:Rat.divInt x y=z):madO false x y=binO true true z∧madE false y=binE true true:=by
 refine ⟨?_,?_⟩
 ·unfold madO;rw [if_neg Zb0,jbk hy,hz];exact (if_pos ⟨rfl,rfl⟩).symm
 ·unfold madE;rw [if_neg Zb0,jbj hy];rfl
theorem jnZ (x y:Rat) (b:Bool) (hb:b=((errZ true (x.num*y.num) !=0)||(errZ true ((x.den:Int)*y.den) !=0))):madO b (resZ true (x.num*y.num)) (resZ true ((x.den:Int)*y.den))=binO true (mulK x y) (x*y)∧madE b (resZ true ((x.den:Int)*y.den))=binE true (mulK x y):=by
 unfold mulK
 cases k1:fits (x.num*y.num)
 ·rw [jch k1,jeJ,Bool.true_or] at hb
  rw [hb,Bool.false_and];exact jdu
 cases k2:fits ((x.den:Int)*y.den)
 ·rw [jch k2,jeJ,Bool.or_true] at hb
  rw [hb,Bool.true_and];exact jdu
 rw [jb1 k1,jb1 k2,jnd] at hb
 rw [hb,jb5 k1,jb5 k2]
 exact jnc (Int.ne_of_gt (jba x y)) (jfp x y)
theorem jnY (x y:Rat) (b:Bool) (hb:b=((((errZ true (x.num*y.den) !=0)||(errZ true (y.num*x.den) !=0))||(errZ true ((x.den:Int)*y.den) !=0))||(errZ true (resZ true (x.num*y.den)+resZ true (y.num*x.den)) !=0))):madO b (resZ true (resZ true (x.num*y.den)+resZ true (y.num*x.den))) (resZ true ((x.den:Int)*y.den))=binO true (addK x y) (x+y)∧madE b (resZ true ((x.den:Int)*y.den))=binE true (addK x y):=by
 unfold addK sumK
 cases k1:fits (x.num*y.den)
 ·rw [jch k1,jeJ,Bool.true_or,Bool.true_or,Bool.true_or] at hb
  rw [hb,Bool.false_and,Bool.false_and];exact jdu
 cases k2:fits (y.num*x.den)
 ·rw [jch k2,jeJ,Bool.or_true,Bool.true_or,Bool.true_or] at hb
  rw [hb,Bool.false_and,Bool.and_false,Bool.false_and];exact jdu
 cases k3:fits ((x.den:Int)*y.den)
 ·rw [jch k3,jeJ,Bool.or_true,Bool.true_or] at hb
  rw [hb,Bool.and_false];exact jdu
 rw [jb5 k1,jb5 k2] at hb ⊢
 cases k4:fits (x.num*y.den+y.num*x.den)
 ·rw [jch k4,jeJ,Bool.or_true] at hb
  rw [hb,Bool.and_false,Bool.and_false,Bool.false_and];exact jdu
 rw [jb1 k1,jb1 k2,jb1 k3,jb1 k4,jnd] at hb
 rw [hb,jb5 k4,jb5 k3]
 exact jnc (Int.ne_of_gt (jba x y)) (jfn x y)
theorem jmr (s1 t1 s2 t2:Int) (A1 B1 A2 B2:Option Addr) (n1 c1 m1 d1 n2 c2 m2 d2:Nat) (l1 k1 l2 k2:List Int) (w:World) (r1:RdI w w.heap.size A1 n1 c1 l1) (q1:RdI w w.heap.size B1 m1 d1 k1) (r2:RdI w w.heap.size A2 n2 c2 l2) (q2:RdI w w.heap.size B2 m2 d2 k2) :
 Calls Tryz.prog 86 #[.agg #[.int .i64 s1,.slice A1 n1 c1,.int .i64 t1,.slice B1 m1 d1],.agg #[.int .i64 s2,.slice A2 n2 c2,.int .i64 t2,.slice B2 m2 d2]] w (FrE w (binO (jam s1 l1 t1 k1&&jam s2 l2 t2 k2) (mulK (ratF s1 l1 t1 k1) (ratF s2 l2 t2 k2)) (ratF s1 l1 t1 k1*ratF s2 l2 t2 k2)) (binE (jam s1 l1 t1 k1&&jam s2 l2 t2 k2) (mulK (ratF s1 l1 t1 k1) (ratF s2 l2 t2 k2)))):=by
 have K:=((((St.start w).oldRd r1).oldRd q1).oldRd r2).oldRd q2
 have r:=K.raw
 have HR1:=jpk (fun W h g=>jby s1 t1 A1 B1 n1 c1 m1 d1 l1 k1 W h g)
 have HR2:=jpk (fun W h g=>jby s2 t2 A2 B2 n2 c2 m2 d2 l2 k2 W h g)
 have Hno:=jpk (fun W (c:Int) (h:Below w.heap.size w W)=>(⟨0,none,0,0,[],0,none,0,0,[],rfl,⟨Rd.nil,Rd.nil⟩,⟨rfl,rfl,rfl,rfl⟩,⟨FrA.none,FrA.none⟩,h⟩:FrE w none c (.returned (.tuple #[.agg #[.int .i64 0,.slice none 0 0,.int .i64 0,.slice none 0 0],.int .i64 c])) W))
 cases h1:jam s1 l1 t1 k1
 ·rw [h1] at HR1
  rw [Bool.false_and,jbH,jbG]
  clear h1
  go_enter Tryz.func86,Tryz.ntmps86
  go_wp2_with (first|(refine ZAL ?_;clear K r;intro W b K r)|(refine ZST ?_;clear K r;intro W K r))
  refine (HR1.out _ ZRD ZRD).mono ?_
  exact ZQ61
 cases h2:jam s2 l2 t2 k2
 ·rw [h1] at HR1
  rw [h2] at HR2
  rw [Bool.true_and,jbH,jbG]
  clear h1 h2
  go_enter Tryz.func86,Tryz.ntmps86
  go_wp2_with (first|(refine ZAL ?_;clear K r;intro W b K r)|(refine ZST ?_;clear K r;intro W K r))
  refine (HR1.out _ ZRD ZRD).mono ?_
  rintro e W' ⟨rfl,hb⟩
  replace K:=K.keep hb
  clear r
  have r:=K.rawS
  clear hb
  go_wp2_with (first|(refine ZAL ?_;clear K r;intro W b K r)|(refine ZST ?_;clear K r;intro W K r))
  refine (HR2.out _ ZRD ZRD).mono ?_
  exact ZQ61
 rw [h1] at HR1
 rw [h2] at HR2
 obtain ⟨⟨S1,T1⟩,F1⟩:=jay h1
 obtain ⟨⟨S2,T2⟩,F2⟩:=jay h2
 have a1:=jaK F1
 have a2:=jaQ F1
 have a3:=jaK F2
 have a4:=jaQ F2
 rw [Bool.true_and]
 generalize ratF s1 l1 t1 k1=x at *
 generalize ratF s2 l2 t2 k2=y at *
 have HB:=jpk (jnZ x y)
 have HM1:=jpk (fun W hl hm=>uMul x.num y.num s1 A1 n1 c1 l1 s2 A2 n2 c2 l2 W hl hm S1 S2 a1 a3)
 have HM:=jpk (fun W hl hm=>uMul x.den y.den t1 B1 m1 d1 k1 t2 B2 m2 d2 k2 W hl hm T1 T2 a2 a4)
 have V1:=jbb true (x.num*y.num)
 have V2:=jbb true ((x.den:Int)*y.den)
 generalize errZ true (x.num*y.num)=E1 at *
 generalize resZ true (x.num*y.num)=Z1 at *
 generalize errZ true ((x.den:Int)*y.den)=E2 at *
 generalize resZ true ((x.den:Int)*y.den)=Z2 at *
 generalize binO true (mulK x y) (x*y)=O at *
 generalize binE true (mulK x y)=E at *
 clear S1 S2 T1 T2 F1 F2 a1 a2 a3 a4 h1 h2
 cases hd1:(E1 !=0) <;> cases hd2:(E2 !=0)
 ·obtain ⟨z1,z2⟩:=HB.out false (by simp [hd1,hd2])
  have HQ:=jpk (fun s A n cap l t A' n' cap' m W hl hm e1 e2=>(jbt false Z1 Z2 s A n cap l t A' n' cap' m W hl hm e1 e2 V1 V2))
  exact ZQ5
 ·obtain ⟨z1,z2⟩:=HB.out true (by simp [hd1,hd2])
  have HQ:=jpk (fun s A n cap l t A' n' cap' m W hl hm e1 e2=>(jbt true Z1 Z2 s A n cap l t A' n' cap' m W hl hm e1 e2 V1 V2))
  exact ZQ5
 ·obtain ⟨z1,z2⟩:=HB.out true (by simp [hd1,hd2])
  have HQ:=jpk (fun s A n cap l t A' n' cap' m W hl hm e1 e2=>(jbt true Z1 Z2 s A n cap l t A' n' cap' m W hl hm e1 e2 V1 V2))
  exact ZQ5
 ·obtain ⟨z1,z2⟩:=HB.out true (by simp [hd1,hd2])
  have HQ:=jpk (fun s A n cap l t A' n' cap' m W hl hm e1 e2=>(jbt true Z1 Z2 s A n cap l t A' n' cap' m W hl hm e1 e2 V1 V2))
  exact ZQ5
theorem jeA (A:Option Addr) (n cap:Nat) (l:List Int) (w:World) (hl:RdI w w.heap.size A n cap l) (hn:n≤1000) (hb:∀x∈l,-9223372036854775808≤x∧x≤9223372036854775807) :
 Calls Tryz.prog 28 #[.slice A n cap] w (LstP w n fun i=>((gi l i:Int):Rat)):=by
 have hcap:=hl.caps
 have HL:=jpk (fun W (h:Below w.heap.size w W)=>hl.up (jab _) h)
 have HB:=jpk (show ∀i,i<n→ -9223372036854775808≤gi l i∧gi l i≤9223372036854775807 from fun i hi=>by
  have e:=hl.len
  unfold gi
  rw [List.getD_eq_getElem?_getD,List.getElem?_eq_getElem ZO]
  exact hb _ (List.getElem_mem _))
 have K:St w ([]++[]) [⟨rwP 0 (fun _=>Rw.zero),rwS 0 (fun _=>Rw.zero)⟩] w:=(St.start w).rwNew 0
 clear hl hb
 go_enter Tryz.func28,Tryz.ntmps28
 go_wp2_with fail
 go_loopg [3,4] n (fun gk s3 s4 wr=>∃(k:Nat) (v:Nat→Rw) (val:Value) (X:List Blk),k≤n∧gk=n-k∧s3=val∧s4=.int .i64 k∧Hid ((∀j,j<k→(v j).fv=fvQ ((gi l j:Int):Rat))∧∀b,rwS k v b→w.heap.size≤b)∧OwL 4 Rw.cs 29 val (ofF k v) X∧St w (X++[]) [⟨rwP k v,rwS k v⟩] wr)
 case atStart=>exact ⟨0,fun _=>Rw.zero,_,[],Nat.zero_le _,rfl,rfl,rfl,jpk ⟨fun j h=>absurd h ZO,fun b ⟨i,hi,_⟩=>absurd hi ZO⟩,OwL.nil,K⟩
 case round =>
  clear K
  obtain ⟨k,v,val,X,hk,rfl,rfl,rfl,HV,ho,K⟩:=hrel
  by_cases hlt:k<n
  ·have hki:(k:Int)<(n:Int):=by omega
   have hk0:(0:Int)≤(k:Int):=by omega
   have hltd:decide (k<n)=true:=decide_eq_true hlt
   obtain ⟨vb,vo,hA,hvb,hc⟩:=RdI.cellAt (HL.out _ K.1) hlt
   subst hA
   have HO:=jpk (fun W=>jjT (gi l k) W (HB.out k hlt))
   have Ho:=jpk ho
   have Hsz:=jpk K.1.size
   clear hvb ho
   go_wp2_with (first
    | (go_at_call 22;refine (HO.out _).mono ?_;rintro e W' ⟨s9,A9,n9,c9,l9,t9,B9,m9,d9,k9,rfl,⟨hra,hrb⟩,ho9,⟨hfa,hfb⟩,hbl⟩;replace K:=K.retF hbl hra hrb hfa hfb)
    | (at_builtin;refine K.app1 Ho.out ja4 rfl _ _ 25 rfl _ 64 Tryz.underlying25 jbF rfl rfl (⟨s9,A9,n9,c9,l9,t9,B9,m9,d9,k9⟩:Rw) _ rfl _ rfl (by exact rfl) Zb3 ZO ?_;intro v4 X4 W4 ho4 K4))
   rw [jbz] at ho4
   have HV2:=jpk (show (∀j,j<k+1→(putF v k (⟨s9,A9,n9,c9,l9,t9,B9,m9,d9,k9⟩:Rw) j).fv=fvQ ((gi l j:Int):Rat))∧∀b,rwS (k+1) (putF v k (⟨s9,A9,n9,c9,l9,t9,B9,m9,d9,k9⟩:Rw)) b→w.heap.size≤b from ⟨fun j hj=>by
    by_cases e:j=k
    ·rw [e,jaf]
     exact ho9.fv
    ·rw [jad e]
     exact HV.out.1 j ZO,fun b ⟨j,hj,hS⟩=>by
    by_cases e:j=k
    ·rw [e,jaf] at hS
     rcases hS with ⟨-,a,ha,rfl⟩|⟨-,a,ha,rfl⟩
     ·exact Nat.le_trans Hsz.out (hfa a ha)
     ·exact Nat.le_trans Hsz.out (hfb a ha)
    ·rw [jad e] at hS
     exact HV.out.2 b ⟨j,by omega,hS⟩⟩)
   have HK:=jpk ((K4.rwAdd (v:=v) (n:=k) ⟨s9,A9,n9,c9,l9,t9,B9,m9,d9,k9⟩ ZMB ZMB ZMB).lessS (D':=[⟨rwP (k+1) (putF v k ⟨s9,A9,n9,c9,l9,t9,B9,m9,d9,k9⟩),rwS (k+1) (putF v k ⟨s9,A9,n9,c9,l9,t9,B9,m9,d9,k9⟩)⟩]) Zb10)
   clear K4 ho9 HV Ho
   go_roundg (n-(k+1))
   case rel=>exact ⟨k+1,_,_,X4,hlt,rfl,rfl,by go_num,HV2,ho4,HK.out⟩
   case measure=>omega
  ·have e:n=k:=by omega
   subst e
   have hltd:decide (n<n)=false:=decide_eq_false hlt
   obtain ⟨Ao,co,hv,hro⟩:=ho.frK K ZMB ZO HV.out.2
   subst hv
   rw [jaD (g:=fun i=>fvQ ((gi l i:Int):Rat)) (fun i hi=>HV.out.1 i hi)] at hro
   have HX:=jpk (show LstP w n (fun i=>((gi l i:Int):Rat)) (.returned (.slice Ao n co)) wr from ⟨Ao,co,rfl,hro,K.1⟩)
   clear ho K hro HV hlt
   go_wp2_with fail
   go_ret
   exact HX.out
theorem jmB (x:Rw) (p q:Int) (z:Rat) (w:World) (h1:RdI w w.heap.size x.A x.n x.c x.l) (h2:RdI w w.heap.size x.B x.m x.d x.k) (hO:∀W,Calls Tryz.prog 27 #[.int .i64 p,.int .i64 q] W (FrE W (some z) 0)) :
 Calls Tryz.prog 26 #[.agg #[.int .i64 x.s,.slice x.A x.n x.c,.int .i64 x.t,.slice x.B x.m x.d],.int .i64 p,.int .i64 q] w fun e w'=>e=.returned (.bool (decide (x.fv=fvQ z)))∧Below w.heap.size w w':=by
 have HO:=jpk hO
 have K:=((St.start w).oldRd h1).oldRd h2
 have hc1:=h1.caps
 have hc2:=h2.caps
 have r:=K.raw
 clear h1 h2 hO
 go_enter Tryz.func26,Tryz.ntmps26
 go_wp2_with (first|(refine ZAL ?_;clear K r;intro W b K r)|(refine ZST ?_;clear K r;intro W K r))
 refine (HO.out _).mono ?_
 rintro e W' ⟨s5,A5,n5,c5,l5,t5,B5,m5,d5,k5,rfl,⟨hra,hrb⟩,ho5,⟨hfa,hfb⟩,hb⟩
 replace K:=K.retF hb hra hrb hfa hfb
 clear r
 have r:=K.rawS
 have hs5:=ho5.std
 have HSm:=jpk (fun W a b' c d=>jd2 x.s x.t s5 t5 x.A x.B A5 B5 x.n x.c x.m x.d n5 c5 m5 d5 x.l x.k l5 k5 W a b' c d)
 have e0:jhz x.s x.l x.t x.k s5 l5 t5 k5=decide (x.fv=fvQ z):=by
  have:=jgb x.fv ⟨s5,l5,t5,k5⟩
  rw [hs5.fv] at this
  have h6:=hs5.fv
  unfold fvQ at h6
  injection h6 with g1 g2 g3 g4
  rw [g1,g2,g3,g4]
  exact this
 rw [e0] at HSm
 obtain ⟨R,hR⟩:∃R,decide (x.fv=fvQ z)=R:=⟨_,rfl⟩
 rw [hR] at HSm
 have HRR:=jpk hR
 clear hR
 clear hra hrb hfa hfb hb ho5 hs5 e0
 go_wp2_with (first|(refine ZAL ?_;clear K r;intro W b K r)|(refine ZST ?_;clear K r;intro W K r))
 refine (HSm.out _ (K.rd ZMB) (K.rd ZMB) (K.rd ZMB) (K.rd ZMB)).mono ?_
 rintro e W2 ⟨rfl,hb⟩
 replace K:=K.keep hb
 go_wp2_with fail
 exact bodyPost_ret (v:=.bool R) (by simp [results,Tryz.results26,go_sem]) rfl ⟨by rw [HRR.out],K.1⟩
theorem jgX (x:Rw) (p q:Int) (z:Rat) (w:World) (h1:RdI w w.heap.size x.A x.n x.c x.l) (h2:RdI w w.heap.size x.B x.m x.d x.k) (hO:∀W,Calls Tryz.prog 27 #[.int .i64 p,.int .i64 q] W (FrE W (some z) 0)) (hx:x.fv=fvQ z) :
 Calls Tryz.prog 26 #[.agg #[.int .i64 x.s,.slice x.A x.n x.c,.int .i64 x.t,.slice x.B x.m x.d],.int .i64 p,.int .i64 q] w fun e w'=>e=.returned (.bool true)∧Below w.heap.size w w':=by
 have:=jmB x p q z w h1 h2 hO
 rw [decide_eq_true hx] at this
 exact this
theorem jg1 (p:Int) (W:World) (hp: -9223372036854775808≤p∧p≤9223372036854775807):Calls Tryz.prog 27 #[.int .i64 p,.int .i64 1] W (FrE W (some ((p:Int):Rat)) 0):=by
 have h:=jgd p 1 W hp Zb4
 rw [jbk Zb4,jbj Zb4,jdG] at h
 exact h
theorem jn5 (W:World):Calls Tryz.prog 27 #[.int .i64 1,.int .i64 2] W (FrE W (some (Rat.divInt 1 2)) 0):=by
 have h:=jgd 1 2 W Zb4 Zb4
 rw [jbk Zb4,jbj Zb4] at h
 exact h
theorem jeG (a:List Fv) (A A2:Option Addr) (n cap n2 cap2:Nat) (w:World) (ha:RdF w w.heap.size A n cap a) (hb:RdF w w.heap.size A2 n2 cap2 a):Calls Tryz.prog 14 #[.slice A n cap,.slice A2 n2 cap2] w fun e w'=>e=.returned (.bool true)∧Below w.heap.size w w':=by
 have:=jkh A A2 n cap n2 cap2 a a w ha hb
 rw [decide_eq_true rfl] at this
 exact this
end Go.Proofs.YtgikfcjndiohjaaGreat
