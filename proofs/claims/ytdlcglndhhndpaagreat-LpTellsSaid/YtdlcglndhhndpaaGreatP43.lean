/- Laws and walks; conditions stand in each theorem. -/
import Derived.Test.YtdlcglndhhndpaaGreatP21
import Derived.Test.YtdlcglndhhndpaaGreatP41
set_option linter.unusedSimpArgs false
set_option linter.unusedVariables false
set_option maxHeartbeats 16000000
set_option maxRecDepth 100000
namespace Go.Proofs.YtdlcglndhhndpaaGreat
open Go.RowKit
theorem jgP (w:World) (a b c d:Value):(Instr.field 50 (.agg #[a,b,c,d]) 0).run Tryz.prog w=.ok (.agg #[a,b]) w:=by
 have h1:=Tryz.underlying50;have h2:=Tryz.underlying48;simp [Instr.field,run_underlying h1,asAgg,part,isAgg,run_underlying h2]
theorem jgN (w:World) (a b:Value):(Instr.field 48 (.agg #[a,b]) 0).run Tryz.prog w=.ok a w:=by
 have h1:=Tryz.underlying48;have h2:=Tryz.underlying3;simp [Instr.field,run_underlying h1,asAgg,part,isAgg,run_underlying h2]
theorem jke (A A' X Y:Option Addr) (n cap m cap' nx cx ny cy:Nat) (l:List Fv) (ls:List Rv) (er:Int) (w:World) (hl:RdF w w.heap.size A n cap l) (hr:RdR w w.heap.size A' m cap' ls) (hn:n≤20) (hm:m≤40) (hok:(l.all Fv.ok&&ls.all (rowF n))=false) :
 Calls Tryz.prog 28 #[.agg #[.slice A n cap,.slice A' m cap'],.slice X nx cx,.slice Y ny cy,.int .i64 er] w fun e w'=>e=.returned (.bool false)∧Below w.heap.size w w':=by
 have HRt:=jmT (fun W (h:Below w.heap.size w W)=>jcg A A' n cap m cap' l ls W (hl.up jan h) (hr.up ja7 h) hn hm);rw [hok] at HRt;have K:=St.start w;clear hl hr hok;go_enter Tryz.func28,Tryz.ntmps28
 go_wp2_with (first
  | (apply K.box;rfl;rfl;rfl;clear K;intro W b0 K;have c0:=(K.blk (b:=b0) (cs:=#[.slice A n cap,.slice A' m cap']) (t:=38) ZMB).cell (j:=0) rfl;have c1:=(K.blk (b:=b0) (cs:=#[.slice A n cap,.slice A' m cap']) (t:=38) ZMB).cell (j:=1) rfl)
  | (go_at_call 26;refine (HRt.out _ K.1).mono ?_;rintro e W ⟨rfl,hb⟩;replace K:=K.keep hb;clear hb c0 c1;have c0:=(K.blk (b:=b0) (cs:=#[.slice A n cap,.slice A' m cap']) (t:=38) ZMB).cell (j:=0) rfl;have c1:=(K.blk (b:=b0) (cs:=#[.slice A n cap,.slice A' m cap']) (t:=38) ZMB).cell (j:=1) rfl))
 go_ret;exact ⟨rfl,K.1⟩
theorem jhH (A A' X Y:Option Addr) (n cap m cap' nx cx ny cy:Nat) (l:List Fv) (ls:List Rv) (x y:List Fv) (er:Int) (w:World) (hl:RdF w w.heap.size A n cap l) (hr:RdR w w.heap.size A' m cap' ls) (hx:RdF w w.heap.size X nx cx x) (hy:RdF w w.heap.size Y ny cy y) (hn:n≤20) (hm:m≤40) (hok:(l.all Fv.ok&&ls.all (rowF n))=true) :
 Calls Tryz.prog 28 #[.agg #[.slice A n cap,.slice A' m cap'],.slice X nx cx,.slice Y ny cy,.int .i64 er] w fun e w'=>e=.returned (.bool (chkF n m l ls x y er))∧Below w.heap.size w w':=by
 have hcap:=hl.caps;have hcap':=hr.caps;have hcx:=hx.caps;have hcy:=hy.caps;have hlx:=hx.len;have hly:=hy.len;have HRt:=jmT (fun W (h:Below w.heap.size w W)=>jcg A A' n cap m cap' l ls W (hl.up jan h) (hr.up ja7 h) hn hm);rw [hok] at HRt;rw [Bool.and_eq_true] at hok;have HL:=jmT hr;have HG:=jmT hl;have HRow:=jmT (show ∀k X,ls[k]?=some X→rowF n X=true from fun k X h=>List.all_eq_true.1 hok.2 _ (List.mem_of_getElem? h));have HOkl:=jmT hok.1;have HFx:=jmT (fun W (h:Below w.heap.size w W)=>jgQ X nx cx n x W (hx.up jan h));have HFy:=jmT (fun W (h:Below w.heap.size w W)=>jgQ Y ny cy m y W (hy.up jan h));obtain ⟨vl,hvl,K⟩:=(St.start w).fxOld hl;obtain ⟨vx,hvx,K⟩:=K.fxOld hx;obtain ⟨vy,hvy,K⟩:=K.fxOld hy
 have HVl:=jmT (show ∀j,j<n→isQ (vl j) (fvR l j) from fun j hj=>by
  have h1:=hvl j hj;unfold fvR;rw [h1,Option.map_some,Option.getD_some]
  exact jbR (List.all_eq_true.1 hok.1 _ (List.mem_of_getElem? h1)))
 have HVx:=jmT (show x.all fnF=true→∀j,j<nx→isQ (vx j) (fvR x j) from fun h j hj=>by
  have h1:=hvx j hj
  exact ZQ118)
 have HVy:=jmT (show y.all fnF=true→∀j,j<ny→isQ (vy j) (fvR y j) from fun h j hj=>by
  have h1:=hvy j hj
  exact ZQ118)
 clear hl hr hx hy hok hvl hvx hvy;go_enter Tryz.func28,Tryz.ntmps28
 go_wp2_with (first
  | (apply K.box;rfl;rfl;rfl;clear K;intro W b0 K;have c0:=(K.blk (b:=b0) (cs:=#[.slice A n cap,.slice A' m cap']) (t:=38) ZMB).cell (j:=0) rfl;have c1:=(K.blk (b:=b0) (cs:=#[.slice A n cap,.slice A' m cap']) (t:=38) ZMB).cell (j:=1) rfl)
  | (go_at_call 26;refine (HRt.out _ K.1).mono ?_;rintro e W ⟨rfl,hb⟩;replace K:=K.keep hb;clear hb c0 c1;have c0:=(K.blk (b:=b0) (cs:=#[.slice A n cap,.slice A' m cap']) (t:=38) ZMB).cell (j:=0) rfl;have c1:=(K.blk (b:=b0) (cs:=#[.slice A n cap,.slice A' m cap']) (t:=38) ZMB).cell (j:=1) rfl))
 clear c0 c1;replace K:St w ([]++[((b0,#[.slice A n cap,.slice A' m cap'],38):Blk)]) (⟨rwP 0 fun _=>Rw.zero,rwS 0 fun _=>Rw.zero⟩::((⟨fxP Y ny cy vy,fxS Y ny vy⟩:Hl)::⟨fxP X nx cx vx,fxS X nx vx⟩::⟨fxP A n cap vl,fxS A n vl⟩::[]:List Hl)) _:=K.rwNew 0
 go_loopg [9,22] m (fun gk s9 s22 wr=>∃(k:Nat) (u:Nat→Rw) (val:Value) (X1:List Blk),k≤m∧gk=m-k∧s9=val∧s22=.int .i64 k∧Hid (∀i,i<k→isQ (u i) (rwB2 ls false i))∧Hid (OwL 4 Rw.cs 50 val (ofF k u) X1)∧St w (X1++[((b0,#[.slice A n cap,.slice A' m cap'],38):Blk)]) (⟨rwP k u,rwS k u⟩::((⟨fxP Y ny cy vy,fxS Y ny vy⟩:Hl)::⟨fxP X nx cx vx,fxS X nx vx⟩::⟨fxP A n cap vl,fxS A n vl⟩::[]:List Hl)) wr)
 case atStart=>exact ⟨0,fun _=>Rw.zero,_,[],Nat.zero_le _,rfl,rfl,rfl,jmT (fun i h=>absurd h ZO),jmT OwL.nil,K⟩
 case round =>
  clear K;obtain ⟨k,u,val,X1,hk,rfl,rfl,rfl,HA,Ho,K⟩:=hrel;by_cases hlt:k<m
  ·have hki:(k:Int)<(m:Int):=by omega
   have hk0:(0:Int)≤(k:Int):=by omega
   have hltd:decide (k<m)=true:=decide_eq_true hlt;obtain ⟨eb,eo,A0,n0,c0,A1,n1,c1,A2,n2,c2,X5,hA,hbB,hX,⟨z0,z1,z2,z3,z4⟩,r0,r1,r2⟩:=HL.out.atR hlt;subst hA;have y0:=(K.1.cell (p:=⟨eb,eo+k*5,none⟩) hbB).trans z0;have y1:=(K.1.cell (p:=⟨eb,eo+k*5+1,none⟩) hbB).trans z1;have y2:=(K.1.cell (p:=⟨eb,eo+k*5+2,none⟩) hbB).trans z2;have y3:=(K.1.cell (p:=⟨eb,eo+k*5+3,none⟩) hbB).trans z3;have y4:=(K.1.cell (p:=⟨eb,eo+k*5+4,none⟩) hbB).trans z4;have hc0:=r0.caps;have hc1:=r1.caps;have hc2:=r2.caps;have hF:=HRow.out k X5 hX;unfold rowF at hF;rw [Bool.and_eq_true,Bool.and_eq_true,decide_eq_true_eq] at hF;obtain ⟨q,hq⟩:∃q:Rw,q=⟨X5.b.s,A1,n1,c1,X5.b.l,X5.b.t,A2,n2,c2,X5.b.m⟩:=⟨_,rfl⟩
   have HE:=jmT (show isQ q (rwB2 ls false k) from by
    unfold rwB2;rw [if_neg Zb4,hX,Option.map_some,Option.getD_some,hq]
    exact jbR hF.1.2)
   replace K:=(K.rdOld r1).rdOld r2;have ey:X5.b.s=q.s∧A1=q.A∧n1=q.n∧c1=q.c∧X5.b.t=q.t∧A2=q.B∧n2=q.m∧c2=q.d∧X5.b.l=q.l∧X5.b.m=q.k:=by rw [hq];exact ⟨rfl,rfl,rfl,rfl,rfl,rfl,rfl,rfl,rfl,rfl⟩
   obtain ⟨q1,q2,q3,q4,q5,q6,q7,q8,q9,q10⟩:=ey;rw [q1] at y1;rw [q2,q3,q4] at y2;rw [q5] at y3;rw [q6,q7,q8] at y4;rw [q2,q3,q4,q6,q7,q8,q9,q10] at K;rw [q3,q4] at hc1;rw [q7,q8] at hc2;clear hX z0 z1 z2 z3 z4 r0 r1 r2 q1 q2 q3 q4 q5 q6 q7 q8 q9 q10 hq hF
   go_wp2_with (first
    | (apply K.alloc;rfl;rfl;exact ja9;clear K;intro W b1 K)
    | (apply K.storeA;rfl;rfl;rfl;rfl;rfl;(exact ZUP);exact ja8;rfl;rfl;rfl;clear K y0 y1 y2 y3 y4;intro W K;have hB:=K.blk (b:=b1) (cs:=#[.slice A0 n0 c0,.int .i64 q.s,.slice q.A q.n q.c,.int .i64 q.t,.slice q.B q.m q.d]) (t:=56) ZMB;have f0:=hB.cell (j:=0) rfl;have f1:=hB.cell (j:=1) rfl;have f2:=hB.cell (j:=2) rfl;have f3:=hB.cell (j:=3) rfl;have f4:=hB.cell (j:=4) rfl;clear hB;replace K:=K.mid)
    | (at_builtin;refine K.app1 Ho.out jax rfl _ _ 23 rfl _ 64 Tryz.underlying23 jaF rfl rfl q _ rfl _ rfl Zb23 Zb3 ZO ?_;clear f0 f1 f2 f3 f4;intro v4 X4 W4 ho4 K4))
   rw [jaP] at ho4
   have HA2:=jmT (show ∀i,i<k+1→isQ (putF u k q i) (rwB2 ls false i) from fun i hi=>by
    by_cases e:i=k
    ·rw [e,jaf];exact HE.out
    ·rw [jad e]
     exact HA.out i ZO)
   have Ho2:=jmT ho4;have HK:=jmT ((K4.cutm.rwAdd (v:=u) (n:=k) q ZMB ZMB ZMB).lessS (D':=⟨rwP (k+1) (putF u k q),rwS (k+1) (putF u k q)⟩::((⟨fxP Y ny cy vy,fxS Y ny vy⟩:Hl)::⟨fxP X nx cx vx,fxS X nx vx⟩::⟨fxP A n cap vl,fxS A n vl⟩::[]:List Hl)) Zb10);clear K4 K ho4 HA Ho HE;go_roundg (m-(k+1))
   case rel=>exact ⟨k+1,_,_,X4,hlt,rfl,rfl,by go_num,HA2,Ho2,HK.out⟩
   case measure=>omega
  ·have e:m=k:=by omega
   subst e;have hltd:decide (m<m)=false:=decide_eq_false hlt;obtain ⟨Av,cv,hv,K⟩:=K.fxOwL Ho.out ZMB ZO;subst hv;clear Ho hlt;go_upto_region 11 with (apply K.box;rfl;rfl;rfl;clear K;intro W bS K)
   replace K:St w (((bS,(Value.bool false::[]).toArray,86):Blk)::[((b0,#[.slice A n cap,.slice A' m cap'],38):Blk)]) ((⟨fxP Av m cv u,fxS Av m u⟩:Hl)::((⟨fxP Y ny cy vy,fxS Y ny vy⟩:Hl)::⟨fxP X nx cx vx,fxS X nx vx⟩::⟨fxP A n cap vl,fxS A n vl⟩::[]:List Hl)) W:=K.lessS Zb10;have c0:=(K.blk (b:=b0) (cs:=#[.slice A n cap,.slice A' m cap']) (t:=38) ZMB).cell (j:=0) rfl;have c1:=(K.blk (b:=b0) (cs:=#[.slice A n cap,.slice A' m cap']) (t:=38) ZMB).cell (j:=1) rfl
   go_quiet (fail)
   rename_i nq
   replace K:=K.drewN nq;generalize W.drewN nq=W at K ⊢;clear c0 c1;have HBv:=HA;clear HA;have HBe:=jmT (fun V D5 (h:St w (((bS,(Value.bool false::[]).toArray,86):Blk)::[((b0,#[.slice A n cap,.slice A' m cap'],38):Blk)]) D5 V) (m5:(⟨fxP X nx cx vx,fxS X nx vx⟩:Hl)∈D5) (hxa:x.all fnF=true) (hnx:n=nx)=>jhD w V _ D5 bS false [] 86 A A' X n cap m cap' nx cx ls vx (fvR x) h List.mem_cons_self HL.out HRow.out m5 ⟨by omega,by omega⟩ (fun i hi=>HVx.out hxa i ZO));have HBz:=jmT (fun V D5 (h:St w (((bS,(Value.bool false::[]).toArray,86):Blk)::[((b0,#[.slice A n cap,.slice A' m cap'],38):Blk)]) D5 V) (m5:(⟨fxP X nx cx vx,fxS X nx vx⟩:Hl)∈D5) (hxa:x.all fnF=true) (hnx:n=nx)=>jhe w V _ D5 bS false [] 86 A A' X n cap m cap' nx cx ls vx (fvR x) h List.mem_cons_self HL.out HRow.out m5 ⟨by omega,by omega⟩ (fun i hi=>HVx.out hxa i ZO))
   have HCo:=jmT (fun bk V D5 (h:St w (((bS,(Value.bool bk::[]).toArray,86):Blk)::[((b0,#[.slice A n cap,.slice A' m cap'],38):Blk)]) D5 V) (m5:(⟨fxP Y m cy vy,fxS Y m vy⟩:Hl)∈D5) (hya:y.all fnF=true) (hny:m=ny)=>jhj w V _ D5 bS bk [] 86 A A' Y n cap m cap' cy l ls vy (fvR y) h List.mem_cons_self HG.out HL.out HOkl.out HRow.out m5 ZO (fun i hi=>HVy.out hya i ZO));have HCz:=jmT (fun bk V D5 (h:St w (((bS,(Value.bool bk::[]).toArray,86):Blk)::[((b0,#[.slice A n cap,.slice A' m cap'],38):Blk)]) D5 V) (m5:(⟨fxP Y m cy vy,fxS Y m vy⟩:Hl)∈D5) (hya:y.all fnF=true) (hny:m=ny)=>jf4 w V _ D5 bS bk [] 86 A A' Y n cap m cap' cy l ls vy (fvR y) h List.mem_cons_self HG.out HL.out HOkl.out HRow.out m5 ZO (fun i hi=>HVy.out hya i ZO))
   have HP1:=jmT (fun bk bl (hb:bl=(bk|| !prdK (fvR y) (rwB2 ls false) m)) V D5 (h:St w (((bS,(Value.bool bk::[]).toArray,86):Blk)::[((b0,#[.slice A n cap,.slice A' m cap'],38):Blk)]) D5 V) (m5:(⟨fxP Y m cy vy,fxS Y m vy⟩:Hl)∈D5) (m6:(⟨fxP Av m cv u,fxS Av m u⟩:Hl)∈D5) (hya:y.all fnF=true) (hny:m=ny)=>jbD w V _ (((bS,(Value.bool bl::[]).toArray,86):Blk)::[((b0,#[.slice A n cap,.slice A' m cap'],38):Blk)]) D5 bS bk bl [] 86 Y Av m cy m cv vy u (fvR y) (rwB2 ls false) h m5 m6 ⟨Nat.le_refl _,by omega⟩ (fun i hi=>HVy.out hya i ZO) HBv.out hb (.head _))
   have HP2:=jmT (fun bk bl (hb:bl=(bk|| !prdK (fvR l) (fvR x) n)) V D5 (h:St w (((bS,(Value.bool bk::[]).toArray,86):Blk)::[((b0,#[.slice A n cap,.slice A' m cap'],38):Blk)]) D5 V) (m5:(⟨fxP A n cap vl,fxS A n vl⟩:Hl)∈D5) (m6:(⟨fxP X nx cx vx,fxS X nx vx⟩:Hl)∈D5) (hxa:x.all fnF=true) (hnx:n=nx)=>jbD w V _ (((bS,(Value.bool bl::[]).toArray,86):Blk)::[((b0,#[.slice A n cap,.slice A' m cap'],38):Blk)]) D5 bS bk bl [] 86 A X n cap nx cx vl vx (fvR l) (fvR x) h m5 m6 ⟨by omega,by omega⟩ HVl.out (fun i hi=>HVx.out hxa i ZO) hb (.head _));clear HRt HL HG HRow HOkl HVl HVx HVy HBv;by_cases he0:er=0
   case pos =>
    subst he0;have HcF:=jmT (show chkF n m l ls x y 0=chkO n m l ls x y from if_pos rfl);go_upto_region 14 with fail;cases hfx:(decide (nx=n)&&x.all fnF)
    case false =>
     rw [hfx] at HFx;rw [←hlx] at hfx;have HSA:=jmT (fun V Lx Dx (h:St w Lx Dx V) (m5:((b0,#[.slice A n cap,.slice A' m cap'],38):Blk)∈Lx)=>(show V.cell? ⟨b0,0,none⟩=some (.slice A n cap)∧V.cell? ⟨b0,1,none⟩=some (.slice A' m cap') from ⟨(h.blk m5).cell (j:=0) rfl,(h.blk m5).cell (j:=1) rfl⟩));have K0:=K.drew;have s0:=HSA.out _ _ _ K0 ZMB;clear K;refine jah 100 (fun V=>V.cell? ⟨b0,0,none⟩=some (.slice A n cap)∧V.cell? ⟨b0,1,none⟩=some (.slice A' m cap')) Zb9 s0 (fun hSh=>?_);clear s0;generalize World.drew W=V0 at K0 hSh ⊢;refine jaa.tkB 0 rfl ?_;refine jaa.tkB 1 rfl ?_;refine jaa.onW 2 rfl fun KK hKK=>?_
     go_simp;go_at_call 73;refine (HFx.out _ K0.1).mono ?_;rintro e V0 ⟨rfl,hb⟩;replace K0:=K0.keep hb;clear hb;go_wp2_with fail;refine hKK.out _ _ (HSA.out _ _ _ K0 ZMB) (fun hSh=>?_);clear hKK KK;refine ZPT ?_;refine jaa.tkB 3 rfl ?_;refine jaa.tkN 4 rfl ?_;refine jaa.tkN 5 rfl ?_;refine jaa.tkN 6 rfl ?_;refine jaa.tkB 7 rfl ?_;refine jaa.tkB 8 rfl ?_;refine jaa.tkN 9 rfl ?_;refine jaa.tkN 10 rfl ?_;refine jaa.tkN 11 rfl ?_;refine jaa.tkN 12 rfl ?_;refine jaa.tkB 13 rfl ?_;refine jaa.tkB 14 rfl ?_;refine jaa.tkN 15 rfl ?_;refine jaa.tkN 16 rfl ?_;refine jaa.tkN 17 rfl ?_;refine jaa.tkN 18 rfl ?_;refine jaa.tkB 19 rfl ?_;refine jaa.tkB 20 rfl ?_;refine jaa.tkN 21 rfl ?_;refine jaa.tkN 22 rfl ?_;refine jaa.tkN 23 rfl ?_;refine jaa.tkN 24 rfl ?_;refine jaa.tkN 25 rfl ?_;refine jaa.tkN 26 rfl ?_;refine jaa.tkN 27 rfl ?_;refine jaa.tkN 28 rfl ?_;refine jaa.tkN 29 rfl ?_
     refine jaa.tkN 30 rfl ?_;refine jaa.tkN 31 rfl ?_;refine jaa.tkB 32 rfl ?_;refine jaa.tkB 33 rfl ?_;refine jaa.done Zb9 ?_;clear hSh;have hB:=K0.blk (b:=bS) (t:=86) List.mem_cons_self;have sc:=hB.cell (j:=0) rfl;have HE:=jmT (show chkO n m l ls x y=false from chkO_x hfx);have hbE:=K0.1;clear hB K0;exact ZQ37
    rw [hfx] at HFx;cases hfy:(decide (ny=m)&&y.all fnF)
    case false =>
     rw [hfy] at HFy;rw [←hly] at hfy;have HSA:=jmT (fun V Lx Dx (h:St w Lx Dx V) (m5:((b0,#[.slice A n cap,.slice A' m cap'],38):Blk)∈Lx)=>(show V.cell? ⟨b0,0,none⟩=some (.slice A n cap)∧V.cell? ⟨b0,1,none⟩=some (.slice A' m cap') from ⟨(h.blk m5).cell (j:=0) rfl,(h.blk m5).cell (j:=1) rfl⟩));have K0:=K.drew;have s0:=HSA.out _ _ _ K0 ZMB;clear K;refine jah 100 (fun V=>V.cell? ⟨b0,0,none⟩=some (.slice A n cap)∧V.cell? ⟨b0,1,none⟩=some (.slice A' m cap')) Zb9 s0 (fun hSh=>?_);clear s0;generalize World.drew W=V0 at K0 hSh ⊢;refine jaa.tkB 0 rfl ?_;refine jaa.tkB 1 rfl ?_;refine jaa.onW 2 rfl fun KK hKK=>?_
     go_simp;go_at_call 73;refine (HFx.out _ K0.1).mono ?_;rintro e V0 ⟨rfl,hb⟩;replace K0:=K0.keep hb;clear hb;go_wp2_with fail;refine hKK.out _ _ (HSA.out _ _ _ K0 ZMB) (fun hSh=>?_);clear hKK KK;refine ZPT ?_;refine jaa.tkB 3 rfl ?_;refine jaa.tkB 4 rfl ?_;refine jaa.tkB 5 rfl ?_;refine jaa.onW 6 rfl fun KK hKK=>?_
     go_simp;go_at_call 73;refine (HFy.out _ K0.1).mono ?_;rintro e V0 ⟨rfl,hb⟩;replace K0:=K0.keep hb;clear hb;go_wp2_with fail;refine hKK.out _ _ (HSA.out _ _ _ K0 ZMB) (fun hSh=>?_);clear hKK KK;refine ZPT ?_;refine jaa.tkB 7 rfl ?_;refine jaa.tkB 8 rfl ?_;refine jaa.tkN 9 rfl ?_;refine jaa.tkN 10 rfl ?_;refine jaa.tkN 11 rfl ?_;refine jaa.tkN 12 rfl ?_;refine jaa.tkB 13 rfl ?_;refine jaa.tkB 14 rfl ?_;refine jaa.tkN 15 rfl ?_;refine jaa.tkN 16 rfl ?_;refine jaa.tkN 17 rfl ?_;refine jaa.tkN 18 rfl ?_;refine jaa.tkB 19 rfl ?_;refine jaa.tkB 20 rfl ?_;refine jaa.tkN 21 rfl ?_;refine jaa.tkN 22 rfl ?_;refine jaa.tkN 23 rfl ?_;refine jaa.tkN 24 rfl ?_;refine jaa.tkN 25 rfl ?_;refine jaa.tkN 26 rfl ?_;refine jaa.tkN 27 rfl ?_;refine jaa.tkN 28 rfl ?_;refine jaa.tkN 29 rfl ?_;refine jaa.tkN 30 rfl ?_;refine jaa.tkN 31 rfl ?_;refine jaa.tkB 32 rfl ?_;refine jaa.tkB 33 rfl ?_
     refine jaa.done Zb9 ?_;clear hSh;have hB:=K0.blk (b:=bS) (t:=86) List.mem_cons_self;have sc:=hB.cell (j:=0) rfl;have HE:=jmT (show chkO n m l ls x y=false from chkO_y hfy);have hbE:=K0.1;clear hB K0;exact ZQ37
    rw [hfy] at HFy;have Hfx:Hid ((decide (x.length=n)&&x.all fnF)=true):=jmT (by rw [hlx];exact hfx);have Hfy:Hid ((decide (y.length=m)&&y.all fnF)=true):=jmT (by rw [hly];exact hfy);rw [Bool.and_eq_true,decide_eq_true_eq] at hfx hfy;obtain ⟨hnx,hxa⟩:=hfx;obtain ⟨hny,hya⟩:=hfy;have hnx:=hnx.symm;have hny:=hny.symm;subst hnx hny;have HSA:=jmT (fun V Lx Dx (h:St w Lx Dx V) (m5:((b0,#[.slice A n cap,.slice A' m cap'],38):Blk)∈Lx)=>(show V.cell? ⟨b0,0,none⟩=some (.slice A n cap)∧V.cell? ⟨b0,1,none⟩=some (.slice A' m cap') from ⟨(h.blk m5).cell (j:=0) rfl,(h.blk m5).cell (j:=1) rfl⟩));have K0:=K.drew;have s0:=HSA.out _ _ _ K0 ZMB;clear K;refine jah 100 (fun V=>V.cell? ⟨b0,0,none⟩=some (.slice A n cap)∧V.cell? ⟨b0,1,none⟩=some (.slice A' m cap')) Zb9 s0 (fun hSh=>?_);clear s0;generalize World.drew W=V0 at K0 hSh ⊢;refine jaa.tkB 0 rfl ?_;refine jaa.tkB 1 rfl ?_
    refine jaa.onW 2 rfl fun KK hKK=>?_
    go_simp;go_at_call 73;refine (HFx.out _ K0.1).mono ?_;rintro e V0 ⟨rfl,hb⟩;replace K0:=K0.keep hb;clear hb;go_wp2_with fail;refine hKK.out _ _ (HSA.out _ _ _ K0 ZMB) (fun hSh=>?_);clear hKK KK;refine ZPT ?_;refine jaa.tkB 3 rfl ?_;refine jaa.tkB 4 rfl ?_;refine jaa.tkB 5 rfl ?_;refine jaa.onW 6 rfl fun KK hKK=>?_
    go_simp;go_at_call 73;refine (HFy.out _ K0.1).mono ?_;rintro e V0 ⟨rfl,hb⟩;replace K0:=K0.keep hb;clear hb;go_wp2_with fail;refine hKK.out _ _ (HSA.out _ _ _ K0 ZMB) (fun hSh=>?_);clear hKK KK;refine ZPT ?_;refine jaa.tkB 7 rfl ?_;refine jaa.tkB 8 rfl ?_;refine jaa.tkB 9 rfl ?_;refine jaa.tkB 10 rfl ?_;refine jaa.tkB 11 rfl ?_;refine jaa.onW 12 rfl fun KK hKK=>?_
    go_simp;go_at_call 74;refine (HBe.out _ _ K0 ZMB hxa Zb0).mono ?_;rintro e V0 ⟨o1,bb1,L5,rfl,hU,hs1,K5⟩;have e5:=hU.out.headN K0.nodup;subst e5;replace K0:=K5;clear K5 hU;go_wp2_with fail;refine hKK.out _ _ (HSA.out _ _ _ K0 ZMB) (fun hSh=>?_);clear hKK KK;refine ZPT ?_;cases o1
    ·refine jaa.tkB 13 rfl ?_;refine jaa.tkB 14 rfl ?_;refine jaa.tkN 15 rfl ?_;refine jaa.tkN 16 rfl ?_;refine jaa.tkN 17 rfl ?_;refine jaa.tkN 18 rfl ?_;refine jaa.tkB 19 rfl ?_;refine jaa.tkB 20 rfl ?_;refine jaa.tkN 21 rfl ?_;refine jaa.tkN 22 rfl ?_;refine jaa.tkN 23 rfl ?_;refine jaa.tkN 24 rfl ?_;refine jaa.tkN 25 rfl ?_;refine jaa.tkN 26 rfl ?_;refine jaa.tkN 27 rfl ?_;refine jaa.tkN 28 rfl ?_;refine jaa.tkN 29 rfl ?_;refine jaa.tkN 30 rfl ?_;refine jaa.tkN 31 rfl ?_;refine jaa.tkB 32 rfl ?_;refine jaa.tkB 33 rfl ?_;refine jaa.done Zb9 ?_;clear hSh;have hB:=K0.blk (b:=bS) (t:=86) List.mem_cons_self;have sc:=hB.cell (j:=0) rfl;have HE:=jmT (show chkO n m l ls x y=false from chkO_b hs1.out);have hbE:=K0.1;clear hB K0;exact ZQ37
    ·refine jaa.tkB 13 rfl ?_;refine jaa.tkB 14 rfl ?_;refine jaa.tkB 15 rfl ?_;refine jaa.tkB 16 rfl ?_;refine jaa.tkB 17 rfl ?_;refine jaa.onW 18 rfl fun KK hKK=>?_
     go_simp;go_at_call 75;refine (HCo.out _ _ _ K0 ZMB hya Zb0).mono ?_;rintro e V0 ⟨o2,bb2,L5,rfl,hU,hs2,K5⟩;have e5:=hU.out.headN K0.nodup;subst e5;replace K0:=K5;clear K5 hU;go_wp2_with fail;refine hKK.out _ _ (HSA.out _ _ _ K0 ZMB) (fun hSh=>?_);clear hKK KK;refine ZPT ?_;cases o2
     ·refine jaa.tkB 19 rfl ?_;refine jaa.tkB 20 rfl ?_;refine jaa.tkN 21 rfl ?_;refine jaa.tkN 22 rfl ?_;refine jaa.tkN 23 rfl ?_;refine jaa.tkN 24 rfl ?_;refine jaa.tkN 25 rfl ?_;refine jaa.tkN 26 rfl ?_;refine jaa.tkN 27 rfl ?_;refine jaa.tkN 28 rfl ?_;refine jaa.tkN 29 rfl ?_;refine jaa.tkN 30 rfl ?_;refine jaa.tkN 31 rfl ?_;refine jaa.tkB 32 rfl ?_;refine jaa.tkB 33 rfl ?_;refine jaa.done Zb9 ?_;clear hSh;have hB:=K0.blk (b:=bS) (t:=86) List.mem_cons_self;have sc:=hB.cell (j:=0) rfl;have HE:=jmT (show chkO n m l ls x y=false from chkO_c hs1.out hs2.out);have hbE:=K0.1;clear hB K0;exact ZQ37
     ·obtain ⟨f3,hf3⟩:∃f3,f3=(bb2|| !prdK (fvR y) (rwB2 ls false) m):=⟨_,rfl⟩;obtain ⟨f4,hf4⟩:∃f4,f4=(f3|| !prdK (fvR l) (fvR x) n):=⟨_,rfl⟩;refine jaa.tkB 19 rfl ?_;refine jaa.tkB 20 rfl ?_;refine jaa.tkB 21 rfl ?_;refine jaa.tkB 22 rfl ?_;refine jaa.tkB 23 rfl ?_;refine jaa.tkB 25 rfl ?_;refine jaa.tkB 26 rfl ?_;refine jaa.tkB 27 rfl ?_;refine jaa.tkB 28 rfl ?_;refine jaa.onW 24 rfl fun KK hKK=>?_
      go_simp;go_at_call 76;refine (HP1.out _ _ hf3 _ _ K0 ZMB ZMB hya Zb0).mono ?_;rintro e V0 ⟨q1,z1,rfl,g1,K5⟩;replace K0:=K5;clear K5;go_wp2_with fail;refine hKK.out _ _ (HSA.out _ _ _ K0 ZMB) (fun hSh=>?_);clear hKK KK;refine ZPT ?_;refine jaa.onW 29 rfl fun KK hKK=>?_
      go_simp;go_at_call 76;refine (HP2.out _ _ hf4 _ _ K0 ZMB ZMB hxa Zb0).mono ?_;rintro e V0 ⟨q2,z2,rfl,g2,K5⟩;replace K0:=K5;clear K5;go_wp2_with fail;refine hKK.out _ _ (HSA.out _ _ _ K0 ZMB) (fun hSh=>?_);clear hKK KK;refine ZPT ?_;refine jaa.onW 30 rfl fun KK hKK=>?_
      go_simp;go_at_call 54;refine (jdT K0 g1.out.1 g2.out.1 ZMB ZMB ZMB ZMB).mono ?_;rintro e V0 ⟨rfl,K5⟩;replace K0:=K5;clear K5;go_wp2_with fail;refine hKK.out _ _ (HSA.out _ _ _ K0 ZMB) (fun hSh=>?_);clear hKK KK;refine ZPT ?_;refine jaa.tkB 31 rfl ?_;refine jaa.tkB 32 rfl ?_;refine jaa.tkB 33 rfl ?_;refine jaa.done Zb9 ?_;clear hSh;have HE:=jmT (jkg Hfx.out Hfy.out hs1.out hs2.out hf3 hf4 g1.out.2 g2.out.2);have hB:=K0.blk (b:=bS) (t:=86) List.mem_cons_self;have sc:=hB.cell (j:=0) rfl;have hbE:=K0.1;clear hB K0 hf3 hf4 hs1 hs2;by_cases hz:z1=z2
      ·have hcd:(cmpQ z1 z2==0)=true:=by rw [beq_iff_eq];exact jdb.2 hz
       rw [decide_eq_true hz,Bool.true_and] at HE;rw [hcd];clear hz;exact ZQ37
      ·have hcd:(cmpQ z1 z2==0)=false:=by rw [beq_eq_false_iff_ne];exact fun e=>hz (jdb.1 e)
       rw [decide_eq_false hz,Bool.false_and] at HE;rw [hcd];clear hz;exact ZQ37
   have he0d:(er==0)=false:=by rw [beq_eq_false_iff_ne];exact he0
   by_cases he4:er=4
   case pos =>
    subst he4;have HcF:=jmT (show chkF n m l ls x y 4=chkN n m ls x y from rfl);clear HFx HBe HBz HCo HP2;by_cases hx0:nx=0
    case neg =>
     have hxd:((nx:Int)==0)=false:=by rw [beq_eq_false_iff_ne];omega
     have HE:=jmT (chkN_x (n:=n) (m:=m) (ls:=ls) (y:=y) (show decide (x.length=0)=false from by rw [hlx];exact decide_eq_false hx0));have hbE:=K.1;clear hx0;exact ZQ37
    have hxd:((nx:Int)==0)=true:=by rw [hx0];rfl
    have HX0:=jmT (show decide (x.length=0)=true from by rw [hlx];exact decide_eq_true hx0);clear hx0;cases hfy:(decide (ny=m)&&y.all fnF)
    case false =>
     rw [hfy] at HFy;rw [←hly] at hfy;have HE:=jmT (chkN_y (n:=n) (m:=m) (ls:=ls) (x:=x) hfy)
     go_wp2_with (go_at_call 73;refine (HFy.out _ K.1).mono ?_;rintro e W ⟨rfl,hb⟩;replace K:=K.keep hb;clear hb)
     go_ret;exact ⟨by rw [HcF.out,HE.out];first|done|rfl,K.1⟩
    rw [hfy] at HFy;have Hfy:Hid ((decide (y.length=m)&&y.all fnF)=true):=jmT (by rw [hly];exact hfy);rw [Bool.and_eq_true,decide_eq_true_eq] at hfy;obtain ⟨hny,hya⟩:=hfy;have hny:=hny.symm;subst hny;go_wp2_with fail;refine (HFy.out _ K.1).mono ?_;rintro e W ⟨rfl,hb⟩;replace K:=K.keep hb;clear hb;have c0:=(K.blk (b:=b0) (cs:=#[.slice A n cap,.slice A' m cap']) (t:=38) ZMB).cell (j:=0) rfl;have c1:=(K.blk (b:=b0) (cs:=#[.slice A n cap,.slice A' m cap']) (t:=38) ZMB).cell (j:=1) rfl;go_wp2_with fail;refine (HCz.out _ _ _ K ZMB hya Zb0).mono ?_;rintro e W ⟨o2,bb2,L5,rfl,hU,hs2,K5⟩;have e5:=hU.out.headN K.nodup;subst e5;replace K:=K5;clear K5 hU c0 c1;cases o2
    ·have HE:=jmT (chkN_c (x:=x) hs2.out);have hbE:=K.1;exact ZQ37
    ·obtain ⟨f3,hf3⟩:∃f3,f3=(bb2|| !prdK (fvR y) (rwB2 ls false) m):=⟨_,rfl⟩;go_wp2_with fail;refine (HP1.out _ _ hf3 _ _ K ZMB ZMB hya Zb0).mono ?_;rintro e W ⟨q1,z1,rfl,g1,K5⟩;replace K:=K5;clear K5;have HE:=jmT (jkf HX0.out Hfy.out hs2.out hf3 g1.out.2);have hB:=K.blk (b:=bS) (t:=86) List.mem_cons_self;have sc:=hB.cell (j:=0) rfl;have hbE:=K.1;have hdd:=g1.out.1.neg_iff;clear hB K hs2 hf3 HFy HCz HP1 Hfy HX0;have ef1:=jgP W (.int .i64 q1.s) (.slice q1.A q1.n q1.c) (.int .i64 q1.t) (.slice q1.B q1.m q1.d);have ef2:=jgN W (.int .i64 q1.s) (.slice q1.A q1.n q1.c);by_cases hz:z1<0
     ·have h1:decide (q1.s<0)=true:=by rw [hdd];exact decide_eq_true hz
      have h2:q1.s<0:=of_decide_eq_true h1;rw [decide_eq_true hz,Bool.true_and] at HE;clear hdd hz;exact ZQ37
     ·have h1:decide (q1.s<0)=false:=by rw [hdd];exact decide_eq_false hz
      have h2:¬(q1.s<0):=of_decide_eq_false h1;rw [decide_eq_false hz,Bool.false_and] at HE;clear hdd hz;exact ZQ37
   have he4d:(er==4)=false:=by rw [beq_eq_false_iff_ne];exact he4
   by_cases he3:er=3
   case pos =>
    subst he3;have HcF:=jmT (show chkF n m l ls x y 3=chkR n m l ls x y from rfl);clear HFy HBe HCz HCo HP1;by_cases hy0:ny=0
    case neg =>
     have hyd:((ny:Int)==0)=false:=by rw [beq_eq_false_iff_ne];omega
     have HE:=jmT (chkR_y (n:=n) (m:=m) (l:=l) (ls:=ls) (x:=x) (show decide (y.length=0)=false from by rw [hly];exact decide_eq_false hy0));have hbE:=K.1;clear hy0;exact ZQ37
    have hyd:((ny:Int)==0)=true:=by rw [hy0];rfl
    have HX0:=jmT (show decide (y.length=0)=true from by rw [hly];exact decide_eq_true hy0);clear hy0;cases hfx:(decide (nx=n)&&x.all fnF)
    case false =>
     rw [hfx] at HFx;rw [←hlx] at hfx;have HE:=jmT (chkR_x (n:=n) (m:=m) (l:=l) (ls:=ls) (y:=y) hfx)
     go_wp2_with (go_at_call 73;refine (HFx.out _ K.1).mono ?_;rintro e W ⟨rfl,hb⟩;replace K:=K.keep hb;clear hb)
     go_ret;exact ⟨by rw [HcF.out,HE.out];first|done|rfl,K.1⟩
    rw [hfx] at HFx;have Hfx:Hid ((decide (x.length=n)&&x.all fnF)=true):=jmT (by rw [hlx];exact hfx);rw [Bool.and_eq_true,decide_eq_true_eq] at hfx;obtain ⟨hnx,hxa⟩:=hfx;have hnx:=hnx.symm;subst hnx;go_wp2_with fail;refine (HFx.out _ K.1).mono ?_;rintro e W ⟨rfl,hb⟩;replace K:=K.keep hb;clear hb;have c0:=(K.blk (b:=b0) (cs:=#[.slice A n cap,.slice A' m cap']) (t:=38) ZMB).cell (j:=0) rfl;have c1:=(K.blk (b:=b0) (cs:=#[.slice A n cap,.slice A' m cap']) (t:=38) ZMB).cell (j:=1) rfl;go_wp2_with fail;refine (HBz.out _ _ K ZMB hxa Zb0).mono ?_;rintro e W ⟨o2,bb2,L5,rfl,hU,hs2,K5⟩;have e5:=hU.out.headN K.nodup;subst e5;replace K:=K5;clear K5 hU c0 c1;cases o2
    ·have HE:=jmT (chkR_b (l:=l) (y:=y) hs2.out);have hbE:=K.1;exact ZQ37
    ·obtain ⟨f3,hf3⟩:∃f3,f3=(bb2|| !prdK (fvR l) (fvR x) n):=⟨_,rfl⟩;have c0:=(K.blk (b:=b0) (cs:=#[.slice A n cap,.slice A' m cap']) (t:=38) ZMB).cell (j:=0) rfl;go_wp2_with fail;refine (HP2.out _ _ hf3 _ _ K ZMB ZMB hxa Zb0).mono ?_;rintro e W ⟨q1,z1,rfl,g1,K5⟩;replace K:=K5;clear K5 c0;have HE:=jmT (jkh HX0.out Hfx.out hs2.out hf3 g1.out.2);have hB:=K.blk (b:=bS) (t:=86) List.mem_cons_self;have sc:=hB.cell (j:=0) rfl;have hbE:=K.1;have hdd:=g1.out.1.pos_iff;clear hB K hs2 hf3 HFx HBz HP2 Hfx HX0;have ef1:=jgP W (.int .i64 q1.s) (.slice q1.A q1.n q1.c) (.int .i64 q1.t) (.slice q1.B q1.m q1.d);have ef2:=jgN W (.int .i64 q1.s) (.slice q1.A q1.n q1.c);by_cases hz:0<z1
     ·have h1:decide (q1.s>0)=true:=by rw [hdd];exact decide_eq_true hz
      have h2:q1.s>0:=of_decide_eq_true h1;rw [decide_eq_true hz,Bool.true_and] at HE;clear hdd hz;exact ZQ37
     ·have h1:decide (q1.s>0)=false:=by rw [hdd];exact decide_eq_false hz
      have h2:¬(q1.s>0):=of_decide_eq_false h1;rw [decide_eq_false hz,Bool.false_and] at HE;clear hdd hz;exact ZQ37
   have he3d:(er==3)=false:=by rw [beq_eq_false_iff_ne];exact he3
   have HcF:=jmT (show chkF n m l ls x y er=false from by unfold chkF;rw [if_neg he0,if_neg he4,if_neg he3]);have hbE:=K.1;clear he0 he4 he3;go_wp2_with fail;go_ret;exact ⟨by rw [HcF.out];first|done|rfl,hbE⟩
end Go.Proofs.YtdlcglndhhndpaaGreat
