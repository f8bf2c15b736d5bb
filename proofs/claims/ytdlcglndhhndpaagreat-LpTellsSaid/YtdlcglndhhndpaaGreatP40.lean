/- Laws and walks; conditions stand in each theorem. -/
import Derived.Test.YtdlcglndhhndpaaGreatP12
import Derived.Test.YtdlcglndhhndpaaGreatP39
import Derived.Test.YtdlcglndhhndpaaGreatP33
set_option linter.unusedSimpArgs false
set_option linter.unusedVariables false
set_option maxHeartbeats 8000000
set_option maxRecDepth 100000
namespace Go.Proofs.YtdlcglndhhndpaaGreat
open Go.RowKit
theorem jcX (A:Option Addr) (n cap:Nat) (l:List Int) (b:Int) (w:World) (hl:RdI w w.heap.size A n cap l) (hn:n≤1000) (hb:∀x∈l,-9223372036854775808≤x∧x≤9223372036854775807) (hb2: -9223372036854775808≤b∧b≤9223372036854775807) :
 Calls Tryz.prog 58 #[.slice A n cap,.int .i64 b] w fun e w'=>∃x:Rr,e=.returned (.agg #[.slice x.A n x.c,.int .i64 x.y.s,.slice x.y.A x.y.n x.y.c,.int .i64 x.y.t,.slice x.y.B x.y.m x.y.d])∧x.n=n∧x.on w'∧x.rv=rwJ l b∧Below w.heap.size w w':=by
 have hlen:=hl.len;have HL:=jmT (fun W (h:Below w.heap.size w W)=>jb0 A n cap l W (hl.up (jab _) h) hn hb);have HO:=jmT (fun W=>jfd b W hb2);have hcap:=hl.caps;have K:=St.start w;clear hl hb hb2;go_enter Tryz.func58,Tryz.ntmps58
 go_wp2_with (apply K.alloc;rfl;rfl;exact ja9;clear K;intro W b0 K)
 refine (HL.out _ K.1).mono ?_;rintro e W1 ⟨A1,c1,rfl,hr1,hb1⟩;have hcap1:=hr1.now.caps;replace K:=K.addK hb1 hr1;clear hr1 hb1;go_wp2_with fail;refine (HO.out _).mono ?_;rintro e W2 ⟨s9,A9,n9,c9,l9,t9,B9,m9,d9,k9,rfl,⟨hra,hrb⟩,ho9,⟨hfa,hfb⟩,hbl⟩;replace K:=K.retF hbl hra hrb hfa hfb;clear hra hrb hfa hfb hbl
 go_wp2_with (apply K.storeA;rfl;rfl;rfl;rfl;rfl;(repeat (first|with_reducible apply Upd.head|with_reducible apply Upd.tail));exact ja8;rfl;rfl;rfl;clear K;intro W3 K)
 have c0:=K.blk (b:=b0) (cs:=#[.slice A1 n c1,.int .i64 s9,.slice A9 n9 c9,.int .i64 t9,.slice B9 m9 d9]) (t:=56) List.mem_cons_self;have z0:=c0.cell (j:=0) rfl;have z1:=c0.cell (j:=1) rfl;have z2:=c0.cell (j:=2) rfl;have z3:=c0.cell (j:=3) rfl;have z4:=c0.cell (j:=4) rfl;have HE:=jmT (⟨⟨A1,n,c1,fvJ l,⟨s9,A9,n9,c9,l9,t9,B9,m9,d9,k9⟩⟩,rfl,rfl,⟨by unfold fvJ;rw [hlen];exact K.getQ ZMB,K.rd ZMB,K.rd ZMB⟩,by unfold fvJ rwJ;show (⟨_,⟨s9,l9,t9,k9⟩⟩:Rv)=_;rw [ho9.fv],K.1⟩:∃x:Rr,(Ending.returned (.agg #[.slice A1 n c1,.int .i64 s9,.slice A9 n9 c9,.int .i64 t9,.slice B9 m9 d9]))=.returned (.agg #[.slice x.A n x.c,.int .i64 x.y.s,.slice x.y.A x.y.n x.y.c,.int .i64 x.y.t,.slice x.y.B x.y.m x.y.d])∧x.n=n∧x.on W3∧x.rv=rwJ l b∧Below w.heap.size w W3);clear K c0 ho9
 exact bodyPost_ret (v:=.agg #[.slice A1 n c1,.int .i64 s9,.slice A9 n9 c9,.int .i64 t9,.slice B9 m9 d9]) (by simp [results,Tryz.results58,go_sem,z0,z1,z2,z3,z4]) rfl HE.out
theorem jmA (x:Rw) (p q:Int) (z:Rat) (w:World) (h1:RdI w w.heap.size x.A x.n x.c x.l) (h2:RdI w w.heap.size x.B x.m x.d x.k) (hO:∀W,Calls Tryz.prog 35 #[.int .i64 p,.int .i64 q] W (FrE W (some z) 0)) :
 Calls Tryz.prog 59 #[.agg #[.int .i64 x.s,.slice x.A x.n x.c,.int .i64 x.t,.slice x.B x.m x.d],.int .i64 p,.int .i64 q] w fun e w'=>e=.returned (.bool (decide (x.fv=fvQ z)))∧Below w.heap.size w w':=by
 have HO:=jmT hO;have K:=((St.start w).oldRd h1).oldRd h2;have hc1:=h1.caps;have hc2:=h2.caps;have r:=K.raw;clear h1 h2 hO;go_enter Tryz.func59,Tryz.ntmps59
 go_wp2_with (first|(refine ZAL ?_;clear K r;(first|((fail_if_success revert b0);intro W b0 K r)|intro W b K r))|(refine ZST ?_;clear K r;intro W K r))
 refine (HO.out _).mono ?_;rintro e W' ⟨s5,A5,n5,c5,l5,t5,B5,m5,d5,k5,rfl,⟨hra,hrb⟩,ho5,⟨hfa,hfb⟩,hb⟩;replace K:=K.retF hb hra hrb hfa hfb;clear r;have r:=K.rawS;have hs5:=ho5.std;have HSm:=jmT (fun W a b' c d=>jfG x.s x.t s5 t5 x.A x.B A5 B5 x.n x.c x.m x.d n5 c5 m5 d5 x.l x.k l5 k5 W a b' c d)
 have e0:jjw x.s x.l x.t x.k s5 l5 t5 k5=decide (x.fv=fvQ z):=by
  have:=jhY x.fv ⟨s5,l5,t5,k5⟩;rw [hs5.fv] at this;have h6:=hs5.fv;unfold fvQ at h6;injection h6 with g1 g2 g3 g4
  rw [g1,g2,g3,g4];exact this
 rw [e0] at HSm;obtain ⟨R,hR⟩:∃R,decide (x.fv=fvQ z)=R:=⟨_,rfl⟩;rw [hR] at HSm;have HRR:=jmT hR;clear hR;clear hra hrb hfa hfb hb ho5 hs5 e0
 go_wp2_with (first|(refine ZAL ?_;clear K r;(first|((fail_if_success revert b0);intro W b0 K r)|intro W b K r))|(refine ZST ?_;clear K r;intro W K r))
 refine (HSm.out _ (K.rd ZMB) (K.rd ZMB) (K.rd ZMB) (K.rd ZMB)).mono ?_;rintro e W2 ⟨rfl,hb⟩;replace K:=K.keep hb;go_wp2_with fail;exact bodyPost_ret (v:=.bool R) (by simp [results,Tryz.results59,go_sem]) rfl ⟨by rw [HRR.out],K.1⟩
section
variable {w0 W:World} {L:List Blk} {D:List Hl}
def FrGE (w0:World) (L:List Blk) (D:List Hl) (G:Rw→Int→Prop) (e:Ending) (W':World):Prop :=
 ∃y er,e=Ending.returned (.tuple #[.agg #[.int .i64 y.s,.slice y.A y.n y.c,.int .i64 y.t,.slice y.B y.m y.d],.int .i64 er])∧Hid (G y er∧FrA w0.heap.size y.A∧FrA w0.heap.size y.B)∧St w0 L (⟨rdP y.B y.m y.d y.k,rdS y.B y.m⟩::⟨rdP y.A y.n y.c y.l,rdS y.A y.n⟩::D) W'
theorem jkd {Y Z:Rw} {f q:Rat} (K:St w0 L D W) (hY:isQ Y f) (hZ:isQ Z q) (m1:(⟨rdP Y.A Y.n Y.c Y.l,rdS Y.A Y.n⟩:Hl)∈D) (m2:(⟨rdP Y.B Y.m Y.d Y.k,rdS Y.B Y.m⟩:Hl)∈D) (m3:(⟨rdP Z.A Z.n Z.c Z.l,rdS Z.A Z.n⟩:Hl)∈D) (m4:(⟨rdP Z.B Z.m Z.d Z.k,rdS Z.B Z.m⟩:Hl)∈D) :
 Calls Tryz.prog 43 #[.agg #[.int .i64 Y.s,.slice Y.A Y.n Y.c,.int .i64 Y.t,.slice Y.B Y.m Y.d],.agg #[.int .i64 Z.s,.slice Z.A Z.n Z.c,.int .i64 Z.t,.slice Z.B Z.m Z.d]] W (FrGE w0 L D (SubS f q)):=by
 obtain ⟨o,ho⟩:∃o,o=jgr f (some q):=⟨_,rfl⟩;obtain ⟨er,her⟩:∃er,er=jgq f (some q):=⟨_,rfl⟩;have h:=jkG Y.s Y.t Z.s Z.t Y.A Y.B Z.A Z.B Y.n Y.c Y.m Y.d Z.n Z.c Z.m Z.d Y.l Y.k Z.l Z.k W (K.rd m1) (K.rd m2) (K.rd m3) (K.rd m4);rw [hY.1.right hY.2,hZ.1.right hZ.2,hY.1.rat,hZ.1.rat,Bool.and_true] at h
 have e1:binO true (addK f (-q)) (f-q)=o:=by
  rw [ho,jeH];unfold binO;simp
 have e2:binE true (addK f (-q))=er:=by
  rw [her,jeG];unfold binE;simp
 rw [e1,e2] at h;have HS:=fun y:Rw=>subS (y:=y) ho her
 clear ho her e1 e2;exact h.mono fun e W' ⟨s31,A31,n31,c31,l31,t31,B31,m31,d31,k31,he,⟨hra,hrb⟩,hop,⟨hfa,hfb⟩,hbb⟩=>⟨⟨s31,A31,n31,c31,l31,t31,B31,m31,d31,k31⟩,er,he,jmT ⟨HS _ hop,fun a ha=>Nat.le_trans K.1.size (hfa a ha),fun a ha=>Nat.le_trans K.1.size (hfb a ha)⟩,K.retF hbb hra hrb hfa hfb⟩
theorem jkc {Y Z:Rw} {f q:Rat} (K:St w0 L D W) (hY:isQ Y f) (hZ:isQ Z q) (h0:q≠0) (m1:(⟨rdP Y.A Y.n Y.c Y.l,rdS Y.A Y.n⟩:Hl)∈D) (m2:(⟨rdP Y.B Y.m Y.d Y.k,rdS Y.B Y.m⟩:Hl)∈D) (m3:(⟨rdP Z.A Z.n Z.c Z.l,rdS Z.A Z.n⟩:Hl)∈D) (m4:(⟨rdP Z.B Z.m Z.d Z.k,rdS Z.B Z.m⟩:Hl)∈D) :
 Calls Tryz.prog 129 #[.agg #[.int .i64 Y.s,.slice Y.A Y.n Y.c,.int .i64 Y.t,.slice Y.B Y.m Y.d],.agg #[.int .i64 Z.s,.slice Z.A Z.n Z.c,.int .i64 Z.t,.slice Z.B Z.m Z.d]] W (FrGE w0 L D (DivS f q)):=by
 obtain ⟨o,ho⟩:∃o,o=jfx f q:=⟨_,rfl⟩;obtain ⟨er,her⟩:∃er,er=jfw f q:=⟨_,rfl⟩;have h:=jkD Y.s Y.t Z.s Z.t Y.A Y.B Z.A Z.B Y.n Y.c Y.m Y.d Z.n Z.c Z.m Z.d Y.l Y.k Z.l Z.k W (K.rd m1) (K.rd m2) (K.rd m3) (K.rd m4);rw [hY.1.right hY.2,hZ.1.right hZ.2,hY.1.rat,hZ.1.rat,Bool.and_true] at h
 have e1:divO true f q=o:=by
  rw [ho];unfold divO jfx binO;rw [if_neg h0];simp
 have e2:divE true f q=er:=by
  rw [her];unfold divE jfw binE;rw [if_neg (fun h=>h0 h.2)];simp
 rw [e1,e2] at h;have HS:=fun y:Rw=>divS (y:=y) h0 ho her
 clear ho her e1 e2;exact h.mono fun e W' ⟨s31,A31,n31,c31,l31,t31,B31,m31,d31,k31,he,⟨hra,hrb⟩,hop,⟨hfa,hfb⟩,hbb⟩=>⟨⟨s31,A31,n31,c31,l31,t31,B31,m31,d31,k31⟩,er,he,jmT ⟨HS _ hop,fun a ha=>Nat.le_trans K.1.size (hfa a ha),fun a ha=>Nat.le_trans K.1.size (hfb a ha)⟩,K.retF hbb hra hrb hfa hfb⟩
end
def jbu (_:Nat):Rat:=0
theorem jf4 (w0 W:World) (L:List Blk) (D:List Hl) (mb:Nat) (b:Bool) (R:List Value) (T:TypeId) (A A' B:Option Addr) (n cap m cap' capx:Nat) (l:List Fv) (ls:List Rv) (v:Nat→Rw) (y:Nat→Rat)
 (K:St w0 L D W) (hmb:(mb,(Value.bool b::R).toArray,T)∈L) (hl:RdF w0 w0.heap.size A n cap l) (hr:RdR w0 w0.heap.size A' m cap' ls) (hok:l.all Fv.ok=true) (hrow:∀(k:Nat) (X:Rv),ls[k]?=some X→rowF n X=true) (m2:(⟨fxP B m capx v,fxS B m v⟩:Hl)∈D) (hm:m≤1000) (hy:∀i,i<m→isQ (v i) (y i)) :
 Calls Tryz.prog 75 #[.pointer (some ⟨mb,0,none⟩),.agg #[.slice A n cap,.slice A' m cap'],.slice B m capx,.bool true] W (SumP w0 mb R T b L D (covB m n (rwA2 ls) jbu y)):=by
 have HY:=jmT hy;have HZ:=jmT jbj;have M2:=jmT m2;have HL:=jmT hr;have HG:=jmT hl;have HRow:=jmT hrow;have HOk:=jmT hok;have hcap:=hl.caps;have hcap':=hr.caps;have hcapx:=K.fxCap m2;obtain ⟨L9,hU9,rfl⟩:=Upd.same hmb;have HU0:=jmT hU9;clear hy hr hl hrow hok hmb hU9 m2;have r:=K.raw;go_enter Tryz.func75,Tryz.ntmps75
 go_wp2_with (apply K.box;rfl;rfl;rfl;clear K r;intro W b0 K;have r:=K.rawS)
 go_loopg [17] n (fun gk s17 wr=>∃(j:Nat) (bk:Bool) (Lk:List Blk),j≤n∧gk=n-j∧s17=.int .i64 j∧Hid (Upd mb (Value.bool b::R).toArray T (Value.bool bk::R).toArray L9 Lk)∧Hid ((!bk)=(!b&&jaX (fun k=>prdK y (fun i=>rwA2 ls i k) m) (fun k=>decide (jbu k≤smQ (fun i=>y i*rwA2 ls i k) m)) j))∧St w0 ((b0,#[.slice A n cap,.slice A' m cap'],38)::Lk) D wr)
 case atStart=>exact ⟨0,b,L9,Nat.zero_le _,rfl,rfl,HU0,jmT (by simp [jaX]),K⟩
 case round =>
  clear K r HU0;obtain ⟨j,bk,Lk,hj,rfl,rfl,HU,HS,K⟩:=hrel;by_cases hlt:j<n
  ·obtain ⟨gb,go,A1,n1,c1,B1,m1,d1,X,hA,hbB,hX,⟨z0,z1,z2,z3⟩,r1,r2⟩:=HG.out.atF hlt;subst hA;have hji:(j:Int)<(n:Int):=by omega
   have hj0:(0:Int)≤(j:Int):=by omega
   have y0:=(K.1.cell (p:=⟨gb,go+j*4,none⟩) hbB).trans z0;have y1:=(K.1.cell (p:=⟨gb,go+j*4+1,none⟩) hbB).trans z1;have y2:=(K.1.cell (p:=⟨gb,go+j*4+2,none⟩) hbB).trans z2;have y3:=(K.1.cell (p:=⟨gb,go+j*4+3,none⟩) hbB).trans z3;have hc1:=r1.caps;have hc2:=r2.caps;obtain ⟨g1,hg1⟩:∃g1:Rw,g1=⟨X.s,A1,n1,c1,X.l,X.t,B1,m1,d1,X.m⟩:=⟨_,rfl⟩
   have HQ1:=jmT (show isQ g1 (fvR l j) from by
    exact ZQ150)
   replace K:St w0 ((b0,#[.slice (some ⟨gb,go,none⟩) n cap,.slice A' m cap'],38)::Lk) (⟨rdP g1.B g1.m g1.d g1.k,rdS g1.B g1.m⟩::⟨rdP g1.A g1.n g1.c g1.l,rdS g1.A g1.n⟩::D) wr:=by rw [hg1];exact (K.rdOld r1).rdOld r2
   replace y0:wr.cell? ⟨gb,go+j*4,none⟩=some (.int .i64 g1.s):=by rw [hg1];exact y0
   replace y1:wr.cell? ⟨gb,go+j*4+1,none⟩=some (.slice g1.A g1.n g1.c):=by rw [hg1];exact y1
   replace y2:wr.cell? ⟨gb,go+j*4+2,none⟩=some (.int .i64 g1.t):=by rw [hg1];exact y2
   replace y3:wr.cell? ⟨gb,go+j*4+3,none⟩=some (.slice g1.B g1.m g1.d):=by rw [hg1];exact y3
   replace hc1:g1.n≤g1.c∧g1.c≤9223372036854775807∧g1.n≤140737488351232:=by rw [hg1];exact hc1
   replace hc2:g1.m≤g1.d∧g1.d≤9223372036854775807∧g1.m≤140737488351232:=by rw [hg1];exact hc2
   clear hX z0 z1 z2 z3 r1 r2 hg1;have r:=K.rawS
   go_wp2_with (first
    | (apply K.alloc;rfl;rfl;exact jaj;clear K r;intro W b1 K;have r:=K.rawS)
    | (apply K.storeA;rfl;rfl;rfl;rfl;rfl;(exact ZUP);exact jae;rfl;rfl;rfl;clear K r;intro W K;have r:=K.rawS))
   replace K:St w0 ([]++(((b1,#[.int .i64 g1.s,.slice g1.A g1.n g1.c,.int .i64 g1.t,.slice g1.B g1.m g1.d],50):Blk)::((b0,#[.slice (some ⟨gb,go,none⟩) n cap,.slice A' m cap'],38):Blk)::Lk)) _ _:=K.rwNew 0;clear r y0 y1 y2 y3
   go_loopg [11,25] m (fun gk s11 s25 wr=>∃(k:Nat) (u:Nat→Rw) (val:Value) (X:List Blk),k≤m∧gk=m-k∧s11=val∧s25=.int .i64 k∧Hid (∀i,i<k→isQ (u i) (rwA2 ls i j))∧Hid (OwL 4 Rw.cs 50 val (ofF k u) X)∧St w0 (X++(((b1,#[.int .i64 g1.s,.slice g1.A g1.n g1.c,.int .i64 g1.t,.slice g1.B g1.m g1.d],50):Blk)::((b0,#[.slice (some ⟨gb,go,none⟩) n cap,.slice A' m cap'],38):Blk)::Lk)) (⟨rwP k u,rwS k u⟩::⟨rdP g1.B g1.m g1.d g1.k,rdS g1.B g1.m⟩::⟨rdP g1.A g1.n g1.c g1.l,rdS g1.A g1.n⟩::D) wr)
   case atStart=>exact ⟨0,fun _=>Rw.zero,_,[],Nat.zero_le _,rfl,rfl,rfl,jmT (fun i h=>absurd h ZO),jmT OwL.nil,K⟩
   case round =>
    clear K;obtain ⟨k,u,val,X,hk,rfl,rfl,rfl,HA,Ho,K⟩:=hrel;by_cases hlk:k<m
    ·exact ZQ15
    ·have e:m=k:=by omega
     subst e;have hlkd:decide (m<m)=false:=decide_eq_false hlk;obtain ⟨Ac,cc,hv,K⟩:=K.fxOwL Ho.out ZMB ZO;subst hv;clear Ho hlk;have r:=K.rawS;go_wp2_with fail;refine (HZ.out _).mono ?_;rintro e W5 ⟨s7,A7,n7,c7,l7,t7,B7,m7,d7,k7,rfl,⟨hra,hrb⟩,ho,⟨hfa,hfb⟩,hb⟩;replace K:=K.retF hb hra hrb hfa hfb;have HO:=jmT ho;clear r hra hrb hfa hfb hb ho;have r:=K.rawS;go_upto_region 12 with (apply K.storeA;rfl;rfl;rfl;rfl;rfl;(exact ZUP);exact jae;rfl;rfl;rfl;clear K r;intro W K)
     obtain ⟨g,hg⟩:∃g:Rw,g=⟨s7,A7,n7,c7,l7,t7,B7,m7,d7,k7⟩:=⟨_,rfl⟩;have HQ:Hid (isQ g (jbu j)):=jmT (by rw [hg];exact ⟨HO.out,jbn⟩);replace K:St w0 (((b1,#[.int .i64 g.s,.slice g.A g.n g.c,.int .i64 g.t,.slice g.B g.m g.d],50):Blk)::((b0,#[.slice (some ⟨gb,go,none⟩) n cap,.slice A' m cap'],38):Blk)::Lk) (⟨rdP g.B g.m g.d g.k,rdS g.B g.m⟩::⟨rdP g.A g.n g.c g.l,rdS g.A g.n⟩::(⟨fxP Ac m cc u,fxS Ac m u⟩:Hl)::⟨rwP m u,rwS m u⟩::⟨rdP g1.B g1.m g1.d g1.k,rdS g1.B g1.m⟩::⟨rdP g1.A g1.n g1.c g1.l,rdS g1.A g1.n⟩::D) W:=by rw [hg];exact K
     have r:=K.rawS;clear HQ1 HO hg;have hcc:=K.fxCap (A:=Ac) (n:=m) (cap:=cc) (v:=u) ZMB;have K0:=K.drew;obtain ⟨bn,hbn⟩:∃bn,bn=(bk|| !prdK y (fun i=>rwA2 ls i j) m):=⟨_,rfl⟩;obtain ⟨Ln,hU1,hU2⟩:=HU.out.next (Value.bool bn::R).toArray;have HU2:=jmT hU2;have HBn:=jmT hbn;have HPr:=jmT (jbD w0 _ _ (((b1,#[.int .i64 g.s,.slice g.A g.n g.c,.int .i64 g.t,.slice g.B g.m g.d],50):Blk)::((b0,#[.slice (some ⟨gb,go,none⟩) n cap,.slice A' m cap'],38):Blk)::Ln) _ mb bk bn R T B Ac m capx m cc v u y (fun i=>rwA2 ls i j) K0 Zb12 ZMB ⟨Nat.le_refl _,by omega⟩ HY.out HA.out hbn (.tail _ (.tail _ hU1)))
     have HCm:=jmT (fun V (y2:Rw) (z2:Rat) (hz:isQ y2 z2) (h:St w0 (((b1,#[.int .i64 g.s,.slice g.A g.n g.c,.int .i64 g.t,.slice g.B g.m g.d],50):Blk)::((b0,#[.slice (some ⟨gb,go,none⟩) n cap,.slice A' m cap'],38):Blk)::Ln) (⟨rdP y2.B y2.m y2.d y2.k,rdS y2.B y2.m⟩::⟨rdP y2.A y2.n y2.c y2.l,rdS y2.A y2.n⟩::⟨rdP g.B g.m g.d g.k,rdS g.B g.m⟩::⟨rdP g.A g.n g.c g.l,rdS g.A g.n⟩::(⟨fxP Ac m cc u,fxS Ac m u⟩:Hl)::⟨rwP m u,rwS m u⟩::⟨rdP g1.B g1.m g1.d g1.k,rdS g1.B g1.m⟩::⟨rdP g1.A g1.n g1.c g1.l,rdS g1.A g1.n⟩::D) V)=>jdT h hz HQ.out ZMB ZMB ZMB ZMB)
     have HSA:=jmT (fun V D2 Lx (h:St w0 (((b1,#[.int .i64 g.s,.slice g.A g.n g.c,.int .i64 g.t,.slice g.B g.m g.d],50):Blk)::Lx) D2 V)=>(show (V.cell? ⟨b1,0,none⟩=some (.int .i64 g.s)∧V.cell? ⟨b1,1,none⟩=some (.slice g.A g.n g.c)∧V.cell? ⟨b1,2,none⟩=some (.int .i64 g.t)∧V.cell? ⟨b1,3,none⟩=some (.slice g.B g.m g.d)) from ⟨(h.blk ZMB).cell (j:=0) rfl,(h.blk ZMB).cell (j:=1) rfl,(h.blk ZMB).cell (j:=2) rfl,(h.blk ZMB).cell (j:=3) rfl⟩));have s0:=HSA.out _ _ _ K0;clear hU1 hU2 hbn HU K r;refine jah 100 (fun V=>(V.cell? ⟨b1,0,none⟩=some (.int .i64 g.s)∧V.cell? ⟨b1,1,none⟩=some (.slice g.A g.n g.c)∧V.cell? ⟨b1,2,none⟩=some (.int .i64 g.t)∧V.cell? ⟨b1,3,none⟩=some (.slice g.B g.m g.d))) Zb9 s0 (fun hSh=>?_);clear s0;refine jaa.tkA 0 rfl ?_;refine jaa.tkA 1 rfl ?_;refine jaa.tkA 2 rfl ?_;refine jaa.tkA 4 rfl ?_;refine jaa.on 3 rfl fun KK hKK=>?_
     go_simp;go_at_call 76;refine HPr.out.mono ?_;rintro e w5 ⟨y2,z2,rfl,g2,k5⟩;go_wp2_with fail;refine hKK.out _ _ ?_ (fun hSh=>?_)
     ·exact HSA.out _ _ _ k5
     clear hKK KK;refine ZPT ?_;refine jaa.on 5 rfl fun KK hKK=>?_
     go_simp;go_at_call 54;refine (HCm.out _ _ _ g2.out.1 k5).mono ?_;rintro e w6 ⟨rfl,k6⟩;go_wp2_with fail;refine hKK.out _ _ ?_ (fun hSh=>?_)
     ·exact HSA.out _ _ _ k6
     clear hKK KK;refine ZPT ?_;have hst:=jds (q:=decide (jbu j≤z2)) HS.out HBn.out (p:=fun k=>decide (jbu k≤smQ (fun i=>y i*rwA2 ls i k) m)) (t:=fun k=>prdK y (fun i=>rwA2 ls i k) m) (fun h=>by rw [g2.out.2 h]);have Hst:=jmT hst;have HK:=jmT ((k6.lessS (D':=D) Zb13).part (List.sublist_cons_self _ _));clear hst k5 K0 HPr HCm HSA g2 HBn HS HA HQ HY HRow;by_cases hle:jbu j≤z2
     ·have hc:¬cmpQ z2 (jbu j)<0:=jcx.2 hle;have hcd:decide (cmpQ z2 (jbu j)<0)=false:=decide_eq_false hc;exact ZQ83
     ·have hc:cmpQ z2 (jbu j)<0:=by
       have:¬¬cmpQ z2 (jbu j)<0:=fun h=>hle (jcx.1 h)
       omega
      have hcd:decide (cmpQ z2 (jbu j)<0)=true:=decide_eq_true hc;exact ZQ64
  ·have e:n=j:=by omega
   subst e;have HE:=jmT (⟨true,bk,Lk,rfl,HU,jmT (by rw [Bool.true_and];exact HS.out),K.part (List.sublist_cons_self _ _)⟩:SumP w0 mb R T b L9 D (covB m n (rwA2 ls) jbu y) (.returned (.bool true)) wr);exact jjV
end Go.Proofs.YtdlcglndhhndpaaGreat
