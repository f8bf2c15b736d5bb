/- Laws and walks; conditions stand in each theorem. -/
import Derived.Test.YtdlcglndhhndpaaGreatP41
set_option linter.unusedSimpArgs false
set_option linter.unusedVariables false
set_option maxHeartbeats 4000000
set_option maxRecDepth 100000
namespace Go.Proofs.YtdlcglndhhndpaaGreat
open Go.RowKit
theorem jfZ (A A' B:Option Addr) (n cap m cap' cx:Nat) (ls:List Rv) (x:List Fv) (w:World)
 (hr:RdR w w.heap.size A' m cap' ls) (hx:RdF w w.heap.size B n cx x) (hrow:∀(k:Nat) (X:Rv),ls[k]?=some X→rowF n X=true) (hox:x.all Fv.ok=true) (hn:n≤1000) :
 Calls Tryz.prog 78 #[.agg #[.slice A n cap,.slice A' m cap'],.slice B n cx,.bool true] w fun e w'=>e=.returned (.bool (belB m n (rwA2 ls) (rwB2 ls true) (fvR x)))∧Below w.heap.size w w':=by
 have HL:=jmT hr;have HX:=jmT (fun W (h:Below w.heap.size w W)=>hx.up jan h);have HRow:=jmT hrow;have HOx:=jmT hox;have hcap':=hr.caps;have hcx:=hx.caps;have K:=St.start w;have r:=K.raw;clear hr hx hrow hox;go_enter Tryz.func78,Tryz.ntmps78
 go_wp2_with (first|(apply K.box;rfl;rfl;rfl;clear K r;intro W b0 K;have r:=K.rawS)|(apply K.alloc;rfl;rfl;exact jaj;clear K r;intro W b1 K;have r:=K.rawS)|(apply K.storeA;rfl;rfl;rfl;rfl;rfl;(exact ZUP);exact jae;rfl;rfl;rfl;clear K r;intro W K;have r:=K.rawS))
 go_loopg [7] m (fun gk s7 wr=>∃(k:Nat),k≤m∧gk=m-k∧s7=.int .i64 k∧Hid (jaX (fun i=>prdK (rwA2 ls i) (fvR x) n) (fun i=>decide (smQ (fun j=>rwA2 ls i j*fvR x j) n≤rwB2 ls true i)) k=true)∧St w [((b0,#[.slice A n cap,.slice A' m cap'],38):Blk)] [] wr)
 case atStart=>exact ⟨0,Nat.zero_le _,rfl,rfl,jmT rfl,K⟩
 case round =>
  clear K r;obtain ⟨k,hk,rfl,rfl,HS,K⟩:=hrel;by_cases hlt:k<m
  ·obtain ⟨eb,eo,A0,n0,c0,A1,n1,c1,A2,n2,c2,X,hA,hbB,hX,⟨z0,z1,z2,z3,z4⟩,r0,r1,r2⟩:=HL.out.atR hlt;subst hA;have hki:(k:Int)<(m:Int):=by omega
   have hk0:(0:Int)≤(k:Int):=by omega
   have y0:=(K.1.cell (p:=⟨eb,eo+k*5,none⟩) hbB).trans z0;have y1:=(K.1.cell (p:=⟨eb,eo+k*5+1,none⟩) hbB).trans z1;have y2:=(K.1.cell (p:=⟨eb,eo+k*5+2,none⟩) hbB).trans z2;have y3:=(K.1.cell (p:=⟨eb,eo+k*5+3,none⟩) hbB).trans z3;have y4:=(K.1.cell (p:=⟨eb,eo+k*5+4,none⟩) hbB).trans z4;have hc0:=r0.caps;have hc1:=r1.caps;have hc2:=r2.caps;have hF:=jbV (HRow.out k X hX);have hn0:n=n0:=by have:=hF.1;have:=r0.len;omega
   subst hn0;have HOk:=jmT hF.2.2;have HA:=jmT (show rwA2 ls k=fvR X.a from funext fun j=>jjt hX j);have HR0:=jmT (fun W (h:Below w.heap.size w W)=>r0.up jan h);have HZ0:=jmT (show w.cell? ⟨eb,eo+k*5,none⟩=_ from z0);have HBB:=jmT hbB;replace K:=(K.rdOld r1).rdOld r2;clear hX z0 z1 z2 z3 z4 r0 r1 r2 hF hbB;have r:=K.rawS;go_upto_region 6 with (first|(apply K.box;rfl;rfl;rfl;clear K r;intro W b0 K;have r:=K.rawS)|(apply K.alloc;rfl;rfl;exact jaj;clear K r;intro W b1 K;have r:=K.rawS)|(apply K.storeA;rfl;rfl;rfl;rfl;rfl;(exact ZUP);exact jae;rfl;rfl;rfl;clear K r;intro W K;have r:=K.rawS))
   clear y0 y1 y2 y3 y4;go_wp2_with fail;refine (jba 0 Zb4 Zb24 K).mono ?_;rintro e W4 ⟨zo,rfl,gzo,k4⟩;replace K:=k4;clear k4 r;have r:=K.rawS;have HQ:=jmT (show isQ zo (rwB2 ls true k) from gzo.out);clear gzo;go_upto_region 7 with (first|(apply K.box;rfl;rfl;rfl;clear K r;intro W b0 K;have r:=K.rawS)|(apply K.alloc;rfl;rfl;exact jaj;clear K r;intro W b1 K;have r:=K.rawS)|(apply K.storeA;rfl;rfl;rfl;rfl;rfl;(exact ZUP);exact jae;rfl;rfl;rfl;clear K r;intro W K;have r:=K.rawS))
   have y0:=(K.1.cell (p:=⟨eb,eo+k*5,none⟩) HBB.out).trans HZ0.out;go_wp2_with fail;refine (jca A0 B n c0 cx X.a x _ (HR0.out _ K.1) (HX.out _ K.1) hn HOk.out HOx.out).mono ?_;rintro e W5 ⟨q1,o1,rfl,ho1,hq1,⟨ra,rb⟩,⟨fa,fb⟩,hb5⟩;replace K:=K.retF hb5 ra rb fa fb;have HP:=jmT (show o1=prdK (rwA2 ls k) (fvR x) n by rw [HA.out];exact ho1);have HQ1:=jmT (show o1=true→isQ q1 (smQ (fun j=>rwA2 ls k j*fvR x j) n) by rw [HA.out];exact hq1);clear ra rb fa fb hb5 y0 r ho1 hq1;have r:=K.rawS;go_upto_region 8 with (first|(apply K.alloc;rfl;rfl;exact jaj;clear K r;intro W b2 K;have r:=K.rawS)|(apply K.storeA;rfl;rfl;rfl;rfl;rfl;(exact ZUP);exact jae;rfl;rfl;rfl;clear K r;intro W K;have r:=K.rawS))
   cases o1
   case false =>
    have HBad:=jmT (show jaX (fun i=>prdK (rwA2 ls i) (fvR x) n) (fun i=>decide (smQ (fun j=>rwA2 ls i j*fvR x j) n≤rwB2 ls true i)) (k+1)=false by
     rw [jaX,←HP.out]
     simp)
    clear HQ HQ1 HP HA;have HN:=jmT (show belB m n (rwA2 ls) (rwB2 ls true) (fvR x)=false from jbt hlt HBad.out);exact ZQ57
   have HQ2:=jmT (HQ1.out rfl);clear HQ1;go_wp2_with fail;refine (jda K HQ2.out HQ.out ZMB ZMB ZMB ZMB).mono ?_;rintro e W6 ⟨rfl,k6⟩;replace K:=k6;clear k6 r HQ HA;have r:=K.rawS;by_cases hle:smQ (fun j=>rwA2 ls k j*fvR x j) n≤rwB2 ls true k
   ·have hc:¬cmpQ (smQ (fun j=>rwA2 ls k j*fvR x j) n) (rwB2 ls true k)>0:=by have:=jck.2 hle;omega
    have HN:=jmT (show jaX (fun i=>prdK (rwA2 ls i) (fvR x) n) (fun i=>decide (smQ (fun j=>rwA2 ls i j*fvR x j) n≤rwB2 ls true i)) (k+1)=true by
     exact jjW)
    clear HP HQ2 HS hle;generalize cmpQ _ _=cq at hc ⊢;have hcd:decide (cq>0)=false:=decide_eq_false hc;go_wp2_with fail;go_roundg (m-(k+1))
    case rel=>exact ⟨k+1,hlt,rfl,by go_num,HN,(K.less (fun _ h=>by cases h)).part (List.sublist_append_right [_,_] _)⟩
    case measure=>omega
   ·have hc:cmpQ (smQ (fun j=>rwA2 ls k j*fvR x j) n) (rwB2 ls true k)>0:=by
     have:¬cmpQ (smQ (fun j=>rwA2 ls k j*fvR x j) n) (rwB2 ls true k)≤0:=fun h=>hle (jck.1 h)
     omega
    have HBad:=jmT (show jaX (fun i=>prdK (rwA2 ls i) (fvR x) n) (fun i=>decide (smQ (fun j=>rwA2 ls i j*fvR x j) n≤rwB2 ls true i)) (k+1)=false by
     rw [jaX,decide_eq_false hle]
     simp)
    clear HP HQ2 hle;generalize cmpQ _ _=cq at hc ⊢;have hcd:decide (cq>0)=true:=decide_eq_true hc;have HN:=jmT (show belB m n (rwA2 ls) (rwB2 ls true) (fvR x)=false from jbt hlt HBad.out);exact ZQ57
  ·have e:k=m:=by omega
   subst e;have HE:=jmT (show belB k n (rwA2 ls) (rwB2 ls true) (fvR x)=true from HS.out);exact ZQ60
theorem jb1 {x y y':Nat→Rat}:∀ {n:Nat},(∀i,i<n→y i=y' i)→prdK x y n=prdK x y' n
 | 0,_=>rfl
 | n+1,h=>by
  rw [jb2,jb2,jb1 (n:=n) fun i hi=>h i ZO,h n ZO,ja1 (f:=fun i=>x i*y i) (g:=fun i=>x i*y' i) fun i hi=>by rw [h i ZO]]
theorem raF_at {n:Nat} {ls:List Rv} {i k:Nat} {X:Rv} (hX:ls[i]?=some X) (hn:X.a.length=n) (hk:k<n):X.a[k]?=some (raF ls k i)∧(raF ls k i).rat=rwA2 ls i k:=by
 have h:=List.getElem?_eq_getElem (l:=X.a) (i:=k) ZO;unfold raF rwA2;rw [hX,Option.bind_some,h];exact ⟨rfl,rfl⟩
theorem jk5 {m n:Nat} {ls:List Rv} {k:Nat} (hlen:ls.length=m) (hrow:∀(i:Nat) (X:Rv),ls[i]?=some X→rowF n X=true) (hk:k<n):(ofF m (raF ls k)).all Fv.ok=true∧∀i,i<m→fvR (ofF m (raF ls k)) i=rwA2 ls i k:=by
 have h:∀i,i<m→(raF ls k i).ok=true∧(raF ls k i).rat=rwA2 ls i k:=fun i hi=>by
  have h1:=List.getElem?_eq_getElem (l:=ls) (i:=i) ZO;have h2:=jbV (hrow i _ h1);obtain ⟨h3,h4⟩:=raF_at h1 h2.1 hk;exact ⟨List.all_eq_true.1 h2.2.2 _ (List.mem_of_getElem? h3),h4⟩
 exact ⟨jfP fun i hi=>(h i hi).1,fun i hi=>by rw [jhX hi];exact (h i hi).2⟩
theorem jf5 (A A' B:Option Addr) (n cap m cap' cy:Nat) (l:List Fv) (ls:List Rv) (y:List Fv) (w:World) (hl:RdF w w.heap.size A n cap l)
 (hr:RdR w w.heap.size A' m cap' ls) (hy:RdF w w.heap.size B m cy y) (hrow:∀(k:Nat) (X:Rv),ls[k]?=some X→rowF n X=true) (hok:l.all Fv.ok=true) (hoy:y.all Fv.ok=true) (hn:n≤1000) (hm:m≤1000) :
 Calls Tryz.prog 79 #[.agg #[.slice A n cap,.slice A' m cap'],.slice B m cy,.bool false] w fun e w'=>e=.returned (.bool (covB m n (rwA2 ls) (fvR l) (fvR y)))∧Below w.heap.size w w':=by
 have HL:=jmT hl;have HY:=jmT (fun W (h:Below w.heap.size w W)=>hy.up jan h);have HOk:=jmT hok;have HOy:=jmT hoy;have hcap:=hl.caps;have hcap':=hr.caps;have hcy:=hy.caps;have HCl:=jmT (fun k W (h:Below w.heap.size w W) (hk:k<n)=>jdY A A' n cap m cap' ls W hcap (hr.up ja7 h) hm (fun k X hX=>(jbV (hrow k X hX)).1) k hk);have HCa:=jmT (fun k (hk:k<n)=>jk5 (m:=m) hr.len hrow hk);have K:=St.start w;have r:=K.raw;clear hl hr hy hrow hok hoy;go_enter Tryz.func79,Tryz.ntmps79
 go_wp2_with (first|(apply K.box;rfl;rfl;rfl;clear K r;intro W b0 K;have r:=K.rawS)|(apply K.alloc;rfl;rfl;exact jaj;clear K r;intro W b1 K;have r:=K.rawS)|(apply K.storeA;rfl;rfl;rfl;rfl;rfl;(exact ZUP);exact jae;rfl;rfl;rfl;clear K r;intro W K;have r:=K.rawS))
 go_loopg [7] n (fun gk s7 wr=>∃(k:Nat),k≤n∧gk=n-k∧s7=.int .i64 k∧Hid (jaX (fun k=>prdK (fvR y) (fun i=>rwA2 ls i k) m) (fun k=>decide ((fvR l) k≤smQ (fun i=>fvR y i*rwA2 ls i k) m)) k=true)∧St w [((b0,#[.slice A n cap,.slice A' m cap'],38):Blk)] [] wr)
 case atStart=>exact ⟨0,Nat.zero_le _,rfl,rfl,jmT rfl,K⟩
 case round =>
  clear K r;obtain ⟨k,hk,rfl,rfl,HS,K⟩:=hrel;by_cases hlt:k<n
  ·obtain ⟨ec,ed,B1,p1,q1,B2,p2,q2,g5,hA,hbC,hy5,⟨u0,u1,u2,u3⟩,s1,s2⟩:=HL.out.atF hlt;subst hA;have hki:(k:Int)<(n:Int):=by omega
   have hk0:(0:Int)≤(k:Int):=by omega
   have v0:=(K.1.cell (p:=⟨ec,ed+k*4,none⟩) hbC).trans u0;have v1:=(K.1.cell (p:=⟨ec,ed+k*4+1,none⟩) hbC).trans u1;have v2:=(K.1.cell (p:=⟨ec,ed+k*4+2,none⟩) hbC).trans u2;have v3:=(K.1.cell (p:=⟨ec,ed+k*4+3,none⟩) hbC).trans u3;have hd1:=s1.caps;have hd2:=s2.caps;obtain ⟨gq,hgq⟩:∃gq:Rw,gq=⟨g5.s,B1,p1,q1,g5.l,g5.t,B2,p2,q2,g5.m⟩:=⟨_,rfl⟩
   have HQ:=jmT (show isQ gq (fvR l k) from by
    have h2:g5.ok=true:=List.all_eq_true.1 HOk.out _ (List.mem_of_getElem? hy5);unfold fvR;rw [hy5,Option.map_some,Option.getD_some,hgq]
    exact jbR h2)
   have es:g5.s=gq.s∧B1=gq.A∧p1=gq.n∧q1=gq.c∧g5.t=gq.t∧B2=gq.B∧p2=gq.m∧q2=gq.d∧g5.l=gq.l∧g5.m=gq.k:=by rw [hgq];exact ⟨rfl,rfl,rfl,rfl,rfl,rfl,rfl,rfl,rfl,rfl⟩
   replace K:=(K.rdOld s1).rdOld s2;obtain ⟨t1,t2,t3,t4,t5,t6,t7,t8,t9,t10⟩:=es;rw [t1] at v0;rw [t2,t3,t4] at v1;rw [t5] at v2;rw [t6,t7,t8] at v3;rw [t2,t3,t4,t6,t7,t8,t9,t10] at K;rw [t3,t4] at hd1;rw [t7,t8] at hd2;clear t1 t2 t3 t4 t5 t6 t7 t8 t9 t10 hgq hy5 u0 u1 u2 u3 s1 s2;have r:=K.rawS;go_upto_region 7 with (first|(apply K.box;rfl;rfl;rfl;clear K r;intro W b0 K;have r:=K.rawS)|(apply K.alloc;rfl;rfl;exact jaj;clear K r;intro W b1 K;have r:=K.rawS)|(apply K.storeA;rfl;rfl;rfl;rfl;rfl;(exact ZUP);exact jae;rfl;rfl;rfl;clear K r;intro W K;have r:=K.rawS))
   clear v0 v1 v2 v3;go_wp2_with fail;refine (HCl.out k _ K.1 hlt).mono ?_;rintro e W5 ⟨A5,c5,rfl,hr5,hb5⟩;replace K:=K.keep hb5;have hcap5:=hr5.caps;have Hr5:=jmT hr5;clear hb5 hr5 r;have r:=K.rawS;go_wp2_with fail;refine (jca B A5 m cy c5 y (ofF m (raF ls k)) _ (HY.out _ K.1) Hr5.out hm HOy.out (HCa.out k hlt).1).mono ?_;rintro e W6 ⟨q1,o1,rfl,ho1,hq1,⟨ra,rb⟩,⟨fa,fb⟩,hb6⟩;replace K:=K.retF hb6 ra rb fa fb;rw [jb1 (y':=fun i=>rwA2 ls i k) fun i hi=>(HCa.out k hlt).2 i hi] at ho1;rw [ja1 (g:=fun i=>fvR y i*rwA2 ls i k) fun i hi=>by rw [(HCa.out k hlt).2 i hi]] at hq1;have HP:=jmT ho1;have HQ1:=jmT hq1;clear ra rb fa fb hb6 r ho1 hq1 Hr5;have r:=K.rawS;go_upto_region 8 with (first|(apply K.alloc;rfl;rfl;exact jaj;clear K r;intro W b2 K;have r:=K.rawS)|(apply K.storeA;rfl;rfl;rfl;rfl;rfl;(exact ZUP);exact jae;rfl;rfl;rfl;clear K r;intro W K;have r:=K.rawS))
   cases o1
   case false =>
    have HBad:=jmT (show jaX (fun k=>prdK (fvR y) (fun i=>rwA2 ls i k) m) (fun k=>decide ((fvR l) k≤smQ (fun i=>fvR y i*rwA2 ls i k) m)) (k+1)=false by
     rw [jaX,←HP.out]
     simp)
    clear HQ HQ1 HP;have HN:=jmT (show covB m n (rwA2 ls) (fvR l) (fvR y)=false from jbt hlt HBad.out);exact ZQ57
   have HQ2:=jmT (HQ1.out rfl);clear HQ1;go_wp2_with fail;refine (jda K HQ2.out HQ.out ZMB ZMB ZMB ZMB).mono ?_;rintro e W7 ⟨rfl,k6⟩;replace K:=k6;clear k6 r HQ;have r:=K.rawS;by_cases hle:(fvR l) k≤smQ (fun i=>fvR y i*rwA2 ls i k) m
   ·have hc:¬cmpQ (smQ (fun i=>fvR y i*rwA2 ls i k) m) ((fvR l) k)<0:=jcx.2 hle
    have HN:=jmT (show jaX (fun k=>prdK (fvR y) (fun i=>rwA2 ls i k) m) (fun k=>decide ((fvR l) k≤smQ (fun i=>fvR y i*rwA2 ls i k) m)) (k+1)=true by
     exact jjW)
    clear HP HQ2 HS hle;generalize cmpQ _ _=cq at hc ⊢;have hcd:decide (cq<0)=false:=decide_eq_false hc;go_wp2_with fail;go_roundg (n-(k+1))
    case rel=>exact ⟨k+1,hlt,rfl,by go_num,HN,(K.less (fun _ h=>by cases h)).part (List.sublist_append_right [_,_] _)⟩
    case measure=>omega
   ·have hc:cmpQ (smQ (fun i=>fvR y i*rwA2 ls i k) m) ((fvR l) k)<0:=by
     have:¬¬cmpQ (smQ (fun i=>fvR y i*rwA2 ls i k) m) ((fvR l) k)<0:=fun h=>hle (jcx.1 h)
     omega
    have HBad:=jmT (show jaX (fun k=>prdK (fvR y) (fun i=>rwA2 ls i k) m) (fun k=>decide ((fvR l) k≤smQ (fun i=>fvR y i*rwA2 ls i k) m)) (k+1)=false by
     rw [jaX,decide_eq_false hle]
     simp)
    clear HP HQ2 hle;generalize cmpQ _ _=cq at hc ⊢;have hcd:decide (cq<0)=true:=decide_eq_true hc;have HN:=jmT (show covB m n (rwA2 ls) (fvR l) (fvR y)=false from jbt hlt HBad.out);exact ZQ57
  ·have e:k=n:=by omega
   subst e;have HE:=jmT (show covB m k (rwA2 ls) (fvR l) (fvR y)=true from HS.out);exact ZQ60
theorem jfu (A A' B:Option Addr) (n cap m cap' cy:Nat) (l:List Fv) (ls:List Rv) (y:List Fv) (w:World) (hl:RdF w w.heap.size A n cap l)
 (hr:RdR w w.heap.size A' m cap' ls) (hy:RdF w w.heap.size B m cy y) (hrow:∀(k:Nat) (X:Rv),ls[k]?=some X→rowF n X=true) (hok:l.all Fv.ok=true) (hoy:y.all Fv.ok=true) (hn:n≤1000) (hm:m≤1000) :
 Calls Tryz.prog 79 #[.agg #[.slice A n cap,.slice A' m cap'],.slice B m cy,.bool true] w fun e w'=>e=.returned (.bool (covB m n (rwA2 ls) (jbu) (fvR y)))∧Below w.heap.size w w':=by
 have HL:=jmT hl;have HY:=jmT (fun W (h:Below w.heap.size w W)=>hy.up jan h);have HOk:=jmT hok;have HOy:=jmT hoy;have hcap:=hl.caps;have hcap':=hr.caps;have hcy:=hy.caps;have HCl:=jmT (fun k W (h:Below w.heap.size w W) (hk:k<n)=>jdY A A' n cap m cap' ls W hcap (hr.up ja7 h) hm (fun k X hX=>(jbV (hrow k X hX)).1) k hk);have HCa:=jmT (fun k (hk:k<n)=>jk5 (m:=m) hr.len hrow hk);have K:=St.start w;have r:=K.raw;clear hl hr hy hrow hok hoy;go_enter Tryz.func79,Tryz.ntmps79
 go_wp2_with (first|(apply K.box;rfl;rfl;rfl;clear K r;intro W b0 K;have r:=K.rawS)|(apply K.alloc;rfl;rfl;exact jaj;clear K r;intro W b1 K;have r:=K.rawS)|(apply K.storeA;rfl;rfl;rfl;rfl;rfl;(exact ZUP);exact jae;rfl;rfl;rfl;clear K r;intro W K;have r:=K.rawS))
 go_loopg [7] n (fun gk s7 wr=>∃(k:Nat),k≤n∧gk=n-k∧s7=.int .i64 k∧Hid (jaX (fun k=>prdK (fvR y) (fun i=>rwA2 ls i k) m) (fun k=>decide ((jbu) k≤smQ (fun i=>fvR y i*rwA2 ls i k) m)) k=true)∧St w [((b0,#[.slice A n cap,.slice A' m cap'],38):Blk)] [] wr)
 case atStart=>exact ⟨0,Nat.zero_le _,rfl,rfl,jmT rfl,K⟩
 case round =>
  clear K r;obtain ⟨k,hk,rfl,rfl,HS,K⟩:=hrel;by_cases hlt:k<n
  ·obtain ⟨ec,ed,B1,p1,q1,B2,p2,q2,g5,hA,hbC,hy5,⟨u0,u1,u2,u3⟩,s1,s2⟩:=HL.out.atF hlt;subst hA;have hki:(k:Int)<(n:Int):=by omega
   have hk0:(0:Int)≤(k:Int):=by omega
   have v0:=(K.1.cell (p:=⟨ec,ed+k*4,none⟩) hbC).trans u0;have v1:=(K.1.cell (p:=⟨ec,ed+k*4+1,none⟩) hbC).trans u1;have v2:=(K.1.cell (p:=⟨ec,ed+k*4+2,none⟩) hbC).trans u2;have v3:=(K.1.cell (p:=⟨ec,ed+k*4+3,none⟩) hbC).trans u3;have hd1:=s1.caps;have hd2:=s2.caps;clear hy5 u0 u1 u2 u3 s1 s2;have r:=K.rawS;go_upto_region 6 with (first|(apply K.box;rfl;rfl;rfl;clear K r;intro W b0 K;have r:=K.rawS)|(apply K.alloc;rfl;rfl;exact jaj;clear K r;intro W b1 K;have r:=K.rawS)|(apply K.storeA;rfl;rfl;rfl;rfl;rfl;(exact ZUP);exact jae;rfl;rfl;rfl;clear K r;intro W K;have r:=K.rawS))
   clear v0 v1 v2 v3;go_wp2_with fail;refine (jba 0 Zb4 Zb24 K).mono ?_;rintro e W4 ⟨gq,rfl,gzo,k4⟩;replace K:=k4;clear k4 r;have r:=K.rawS;have HQ:=jmT (show isQ gq (jbu k) from gzo.out);clear gzo;go_upto_region 7 with (first|(apply K.box;rfl;rfl;rfl;clear K r;intro W b0 K;have r:=K.rawS)|(apply K.alloc;rfl;rfl;exact jaj;clear K r;intro W b1 K;have r:=K.rawS)|(apply K.storeA;rfl;rfl;rfl;rfl;rfl;(exact ZUP);exact jae;rfl;rfl;rfl;clear K r;intro W K;have r:=K.rawS))
   go_wp2_with fail;refine (HCl.out k _ K.1 hlt).mono ?_;rintro e W5 ⟨A5,c5,rfl,hr5,hb5⟩;replace K:=K.keep hb5;have hcap5:=hr5.caps;have Hr5:=jmT hr5;clear hb5 hr5 r;have r:=K.rawS;go_wp2_with fail;refine (jca B A5 m cy c5 y (ofF m (raF ls k)) _ (HY.out _ K.1) Hr5.out hm HOy.out (HCa.out k hlt).1).mono ?_;rintro e W6 ⟨q1,o1,rfl,ho1,hq1,⟨ra,rb⟩,⟨fa,fb⟩,hb6⟩;replace K:=K.retF hb6 ra rb fa fb;rw [jb1 (y':=fun i=>rwA2 ls i k) fun i hi=>(HCa.out k hlt).2 i hi] at ho1;rw [ja1 (g:=fun i=>fvR y i*rwA2 ls i k) fun i hi=>by rw [(HCa.out k hlt).2 i hi]] at hq1;have HP:=jmT ho1;have HQ1:=jmT hq1;clear ra rb fa fb hb6 r ho1 hq1 Hr5;have r:=K.rawS;go_upto_region 8 with (first|(apply K.alloc;rfl;rfl;exact jaj;clear K r;intro W b2 K;have r:=K.rawS)|(apply K.storeA;rfl;rfl;rfl;rfl;rfl;(exact ZUP);exact jae;rfl;rfl;rfl;clear K r;intro W K;have r:=K.rawS))
   cases o1
   case false =>
    have HBad:=jmT (show jaX (fun k=>prdK (fvR y) (fun i=>rwA2 ls i k) m) (fun k=>decide ((jbu) k≤smQ (fun i=>fvR y i*rwA2 ls i k) m)) (k+1)=false by
     rw [jaX,←HP.out]
     simp)
    clear HQ HQ1 HP;have HN:=jmT (show covB m n (rwA2 ls) (jbu) (fvR y)=false from jbt hlt HBad.out);exact ZQ57
   have HQ2:=jmT (HQ1.out rfl);clear HQ1;go_wp2_with fail;refine (jda K HQ2.out HQ.out ZMB ZMB ZMB ZMB).mono ?_;rintro e W7 ⟨rfl,k6⟩;replace K:=k6;clear k6 r HQ;have r:=K.rawS;by_cases hle:(jbu) k≤smQ (fun i=>fvR y i*rwA2 ls i k) m
   ·have hc:¬cmpQ (smQ (fun i=>fvR y i*rwA2 ls i k) m) ((jbu) k)<0:=jcx.2 hle
    have HN:=jmT (show jaX (fun k=>prdK (fvR y) (fun i=>rwA2 ls i k) m) (fun k=>decide ((jbu) k≤smQ (fun i=>fvR y i*rwA2 ls i k) m)) (k+1)=true by
     exact jjW)
    clear HP HQ2 HS hle;generalize cmpQ _ _=cq at hc ⊢;have hcd:decide (cq<0)=false:=decide_eq_false hc;go_wp2_with fail;go_roundg (n-(k+1))
    case rel=>exact ⟨k+1,hlt,rfl,by go_num,HN,(K.less (fun _ h=>by cases h)).part (List.sublist_append_right [_,_] _)⟩
    case measure=>omega
   ·have hc:cmpQ (smQ (fun i=>fvR y i*rwA2 ls i k) m) ((jbu) k)<0:=by
     have:¬¬cmpQ (smQ (fun i=>fvR y i*rwA2 ls i k) m) ((jbu) k)<0:=fun h=>hle (jcx.1 h)
     omega
    have HBad:=jmT (show jaX (fun k=>prdK (fvR y) (fun i=>rwA2 ls i k) m) (fun k=>decide ((jbu) k≤smQ (fun i=>fvR y i*rwA2 ls i k) m)) (k+1)=false by
     rw [jaX,decide_eq_false hle]
     simp)
    clear HP HQ2 hle;generalize cmpQ _ _=cq at hc ⊢;have hcd:decide (cq<0)=true:=decide_eq_true hc;have HN:=jmT (show covB m n (rwA2 ls) (jbu) (fvR y)=false from jbt hlt HBad.out);exact ZQ57
  ·have e:k=n:=by omega
   subst e;have HE:=jmT (show covB m k (rwA2 ls) (jbu) (fvR y)=true from HS.out);exact ZQ60
end Go.Proofs.YtdlcglndhhndpaaGreat
