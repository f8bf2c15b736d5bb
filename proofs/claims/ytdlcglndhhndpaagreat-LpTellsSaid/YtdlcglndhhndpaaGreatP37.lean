/- Laws and walks; conditions stand in each theorem. -/
import Derived.Test.YtdlcglndhhndpaaGreatP34
set_option linter.unusedSimpArgs false
set_option linter.unusedVariables false
set_option maxHeartbeats 8000000
set_option maxRecDepth 100000
namespace Go.Proofs.YtdlcglndhhndpaaGreat
open Go.RowKit
theorem jd7 {Dd D:List Hl} {A:List Hl} {x:Hl} (h:x∈Dd):x∈A++(Dd++D):=List.mem_append_right _ (List.mem_append_left _ h)
theorem jhx {q:Rat} (h:jbc q=true):addK 0 (-q)=true:=by
 unfold jbc at h;rw [Bool.and_eq_true] at h;unfold addK sumK;have e1:(0:Rat).num=0:=rfl;have e2:((0:Rat).den:Int)=1:=rfl;rw [e1,e2,Rat.neg_num,Rat.neg_den,Int.zero_mul,Int.mul_one,Int.one_mul,Int.zero_add,jbp h.1,h.2]
 decide
section
variable {m N db:Nat} {b:Bool} {G:Dc} {Ld:List Blk} {Dd:List Hl} {w0 W:World} {L1:List Blk} {D:List Hl}
def BestP (w0:World) (Ld L1:List Blk) (Dd D:List Hl) (m N:Nat) (x y:Nat→Rat) (e:Ending) (W':World):Prop :=
 ∃(gx gy:Nat) (vx vy:Nat→Rw),e=Ending.returned (.tuple #[.slice (some ⟨gx,0,none⟩) N N,.slice (some ⟨gy,0,none⟩) m m])∧Hid (∀j,j<N→isQ (vx j) (x j))∧Hid (∀j,j<m→isQ (vy j) (y j))∧St w0 ((gy,rwA m vy [],50)::(gx,rwA N vx [],50)::(Ld++L1)) (⟨rwP m vy,rwS m vy⟩::⟨rwP N vx,rwS N vx⟩::(Dd++D)) W'
theorem jhF {w0:World} {L:List Blk} {D:List Hl} {R:List Value} (hm:((db,(Value.bool b::R).toArray,91):Blk)∈L) {y:Rw} {er:Int} {q:Rat} (hf:jbc q=true) (G:SubS 0 q y er) {V:World} (K:St w0 L (⟨rdP y.B y.m y.d y.k,rdS y.B y.m⟩::⟨rdP y.A y.n y.c y.l,rdS y.A y.n⟩::D) V) :
 Calls Tryz.prog 119 #[.pointer (some ⟨db,0,none⟩),.agg #[.int .i64 y.s,.slice y.A y.n y.c,.int .i64 y.t,.slice y.B y.m y.d],.int .i64 er] V (FrG w0 L D fun z=>z=0-q):=by
 have he:er=0:=by
  have:=G.2;rw [jhx hf] at this
  simpa using this
 obtain ⟨L',hU,rfl⟩:=Upd.same hm;refine (jcw (b':=b) K G.1 (by rw [he];simp) hU).mono ?_;rintro e W' ⟨z,zq,h1,h2,h3⟩;exact ⟨z,zq,h1,jmT ⟨h2.out.1,h2.out.2 he⟩,h3⟩
theorem jj6 (HL:DicL m N db b G Ld Dd) (K:St w0 (Ld++L1) (Dd++D) W) (hOk:G.Ok m N) (hm:m≤1000) (hN:N≤1000) :
 Calls Tryz.prog 64 #[.pointer (some ⟨db,0,none⟩),.int .i64 N] W (BestP w0 Ld L1 Dd D m N (xB m G) (yB N G)):=by
 have HD:=jmT HL;have HOk:=jmT hOk;obtain ⟨A0,k0,hrows⟩:=HL.rowsR (L:=Ld++L1) Zb20;have s0:=hrows _ _ K.drew;have HZ1:=jmT (fun V L D (h:St w0 L D V)=>jcH N w0 V L D h hN);have HZ2:=jmT (fun V L D (h:St w0 L D V)=>jcH m w0 V L D h hm);have HSA:=jmT (fun V D v g (h:St w0 ((g,rwA N v [],50)::(Ld++L1)) D V)=>(show V.cell? ⟨db,1,none⟩=some (.slice A0 m k0) from hrows _ _ (h.part (List.sublist_cons_self _ _))));clear hOk HL hrows;go_enter Tryz.func64,Tryz.ntmps64
 go_upto_region 1 with fail;have K0:=K.drew;clear K;refine jah 100 (fun V=>V.cell? ⟨db,1,none⟩=some (.slice A0 m k0)) Zb9 s0 (fun hSh=>?_);clear s0;refine jaa.tkA 0 rfl ?_;refine jaa.tkA 2 rfl ?_;refine jaa.tkA 3 rfl ?_;refine jaa.tkA 4 rfl ?_;refine jaa.tkA 5 rfl ?_;refine jaa.tkA 6 rfl ?_;refine jaa.on 1 rfl fun KK hKK=>?_
 go_simp;go_at_call 61;refine (HZ1.out _ _ _ K0).mono ?_;rintro e w3 ⟨gx,vx,rfl,hvx,k1⟩;go_wp2_with fail;refine hKK.out _ _ ?_ (fun hSh=>?_)
 ·exact HSA.out _ _ _ _ k1
 clear hKK KK;refine ZPT ?_;refine jaa.on 7 rfl fun KK hKK=>?_
 go_simp;go_at_call 61;refine (HZ2.out _ _ _ k1).mono ?_;rintro e w4 ⟨gy,vy,rfl,hvy,k2⟩;go_wp2_with fail;refine hKK.out _ _ ?_ (fun hSh=>?_)
 ·exact HSA.out _ _ _ _ ((k2.part (List.sublist_cons_self _ _)).less (D':=_) (fun x hx=>hx))
 clear hKK KK;refine ZPT ?_;refine jaa.tkA 8 rfl ?_;refine jaa.tkA 9 rfl ?_;refine jaa.done Zb9 ?_;have K:=k2;clear k2 k1 K0 hSh HSA HZ1 HZ2;obtain ⟨A1,k1,hown⟩:=HD.out.ownA (w0:=w0) hm;have HOR:=jmT hown;obtain ⟨A2,k2,hfree⟩:=HD.out.freeA (w0:=w0) hN;have HFR:=jmT hfree;have co:=(hown _ _ _ Zb20 K).1;clear hown hfree;have r:=trivial;go_wp2_with fail;clear co
 go_loopg [25] m (fun gk s25 wr=>∃(i:Nat) (v:Nat→Rw) (x:Nat→Rat),i≤m∧gk=m-i∧s25=.int .i64 i∧Hid (∀u,u<N→isQ (v u) (x u))∧Hid (PutX G.own G.v N 0 i (fun _=>0) x)∧St w0 ((gy,rwA m vy [],50)::(gx,rwA N v [],50)::(Ld++L1)) (⟨rwP m vy,rwS m vy⟩::⟨rwP N v,rwS N v⟩::(Dd++D)) wr)
 case atStart=>exact ⟨0,vx,fun _=>0,Nat.zero_le _,rfl,rfl,hvx,jmT (PutX.zero _ _ _ _ _),K⟩
 case round =>
  clear K hvx;obtain ⟨i,v2,x2,hj,rfl,rfl,HV2,HP,K⟩:=hrel;by_cases hlt:i<m
  ·have hji:(i:Int)<(m:Int):=by omega
   have hj0:(0:Int)≤(i:Int):=by omega
   obtain ⟨vb,vo,hA,hvb,hcc⟩:=RdI.cellAt (HOR.out _ _ _ Zb20 K).2 hlt;subst hA;rw [jc1 hlt] at hcc;by_cases hge:G.own i<N
   ·have hgd:decide (G.own i<N)=true:=decide_eq_true hge;have hui:((G.own i:Nat):Int)<(N:Int):=by omega
    have hu0:(0:Int)≤((G.own i:Nat):Int):=by omega
    obtain ⟨hb,hc,x,hx,hcap1,hW⟩:=HD.out.line (L:=((gy,rwA m vy [],50)::(gx,rwA N v2 [],50)::(Ld++L1))) Zb20 hlt;obtain ⟨y1,⟨y3,y4,y5,y6⟩,hK⟩:=hW _ _ K;replace K:=hK (fun x hx=>jd7 (A:=[_,_]) hx);have HX:=jmT hx;have HP2:=jmT (HP.out.put (v:=G.own i) (fun k hk e=>by have:=HOk.out.io k i ZO hlt e;omega) ZO);obtain ⟨u,hu⟩:∃u,u=G.own i:=⟨_,rfl⟩;have Hum:=jmT hge;rw [←hu] at HP2 hcc hui hu0 hgd Hum hge;clear hW hK hx HP hvb hu;have hB:=K.blk (b:=gx) (cs:=rwA N v2 []) (t:=50) ZMB;have d0:wr.cell? ⟨gx,u*4,none⟩=some (.int .i64 (v2 u).s):=hB.cell (jaH (j:=0) Hum.out ZO);have d1:wr.cell? ⟨gx,u*4+1,none⟩=some (.slice (v2 u).A (v2 u).n (v2 u).c):=hB.cell (jaH (j:=1) Hum.out ZO);have d2:wr.cell? ⟨gx,u*4+2,none⟩=some (.int .i64 (v2 u).t):=hB.cell (jaH (j:=2) Hum.out ZO);have d3:wr.cell? ⟨gx,u*4+3,none⟩=some (.slice (v2 u).B (v2 u).m (v2 u).d):=hB.cell (jaH (j:=3) Hum.out ZO)
    have zz:=K.thaw (g:=gx) (cs:=rwA N v2 []) (t:=50) ZMB;have K4:=(K.setR (v:=v2) (J:=[]) (t:=50) x Hum.out (.tail _ (Upd.head _))).rwPut (v:=v2) x u ZMB ZMB ZMB;have HK:=jmT ((K4.add (x:=⟨rwP m vy,rwS m vy⟩) (K4.okAt ZMB)).lessS (D':=⟨rwP m vy,rwS m vy⟩::⟨rwP N (putF v2 u x),rwS N (putF v2 u x)⟩::(Dd++D)) Zb10);clear hB K K4;go_wp2_with fail
    have HV3:=jmT (show ∀k,k<N→isQ (putF v2 u x k) (putF x2 u (G.v i) k) from fun k hk=>by
     by_cases e:k=u
     ·rw [e,jaf,jaf];exact HX.out
     ·rw [jad e,jad e];exact HV2.out k hk)
    clear HX HV2;go_roundg (m-(i+1))
    case rel=>exact ⟨i+1,_,_,hlt,rfl,by go_num,HV3,HP2,HK.out⟩
    case measure=>omega
   ·have hgd:decide (G.own i<N)=false:=decide_eq_false hge;have hgi:¬((G.own i:Nat):Int)<(N:Int):=by omega
    have HP2:=jmT (HP.out.skip (fun h=>hge ZO));clear HP hvb;go_wp2_with fail;go_roundg (m-(i+1))
    case rel=>exact ⟨i+1,_,_,hlt,rfl,by go_num,HV2,HP2,K⟩
    case measure=>omega
  ·have e:i=m:=by omega
   have HXE:=jmT (show ∀u,u<N→isQ (v2 u) (xB m G u) from fun u hu=>by
    have h1:=HV2.out u hu;rw [HP.out u hu,Nat.zero_add,e] at h1
    exact h1)
   have cf:=(HFR.out _ _ _ Zb20 K).1;clear e HV2 HP;go_wp2_with fail;clear cf
   go_loopg [50] N (fun gk s50 wx=>∃(j:Nat) (vy:Nat→Rw) (y:Nat→Rat),j≤N∧gk=N-j∧s50=.int .i64 j∧Hid (∀u,u<m→isQ (vy u) (y u))∧Hid (PutX G.free (fun j=>0-G.c j) m N j (fun _=>0) y)∧St w0 ((gy,rwA m vy [],50)::(gx,rwA N v2 [],50)::(Ld++L1)) (⟨rwP m vy,rwS m vy⟩::⟨rwP N v2,rwS N v2⟩::(Dd++D)) wx)
   case atStart=>exact ⟨0,vy,fun _=>0,Nat.zero_le _,rfl,rfl,hvy,jmT (PutX.zero _ _ _ _ _),K⟩
   case round =>
    clear K hvy;obtain ⟨j,vy,y2,hj,rfl,rfl,HV2,HP,K⟩:=hrel;by_cases hjn:j<N
    ·have hji:(j:Int)<(N:Int):=by omega
     have hj0:(0:Int)≤(j:Int):=by omega
     have hlf:=HOk.out.lf j hjn;obtain ⟨vb,vo,hA,hvb,hcc⟩:=RdI.cellAt (HFR.out _ _ _ Zb20 K).2 hjn;subst hA;rw [jc1 hjn] at hcc;by_cases hge:N≤G.free j
     ·obtain ⟨u,hu⟩:∃u,G.free j=N+u:=⟨G.free j-N,by omega⟩;have hum:u<m:=by omega
      have hgi:((G.free j:Nat):Int)≥(N:Int):=by omega
      have hgd:decide (N≤G.free j)=true:=decide_eq_true hge
      have hws:IntKind.i64.wrap (((G.free j:Nat):Int)-(N:Int))=(u:Int):=by
       rw [IntWalk.i64_in _ ZO];omega
      have hui:(u:Int)<(m:Int):=by omega
      have hu0:(0:Int)≤(u:Int):=by omega
      obtain ⟨rb,cp,x,hx,hcap2,hW⟩:=HD.out.goal (L:=((gy,rwA m vy [],50)::(gx,rwA N v2 [],50)::(Ld++L1))) Zb20 hjn;obtain ⟨R,hRm,-⟩:=HD.out.flag (w0:=w0) (L:=((gy,rwA m vy [],50)::(gx,rwA N v2 [],50)::(Ld++L1))) Zb20;have K:=(hW _ _ K).2.2 (fun x hx=>jd7 (A:=[_,_]) hx);have HX:=jmT hx;have HP2:=jmT (HP.out.put (fun i hi e=>by have:=HOk.out.jf i j ZO hjn e;omega) hu);have Hum:=jmT hum;have HSA:=jmT (fun V D (h:St w0 ((gy,rwA m vy [],50)::(gx,rwA N v2 [],50)::(Ld++L1)) D V)=>(show V.cell? ⟨db,6,none⟩=some (.slice (some ⟨rb,0,none⟩) N cp)∧(V.cell? ⟨rb,j*4,none⟩=some (.int .i64 x.s)∧V.cell? ⟨rb,j*4+1,none⟩=some (.slice x.A x.n x.c)∧V.cell? ⟨rb,j*4+2,none⟩=some (.int .i64 x.t)∧V.cell? ⟨rb,j*4+3,none⟩=some (.slice x.B x.m x.d)) from ⟨(hW _ _ h).1,(hW _ _ h).2.1⟩))
      have HNu:=jmT (fun V L5 D5 (h:St w0 L5 D5 V)=>(jbj V).mono fun e W6 ⟨s7,A7,n7,c7,l7,t7,B7,m7,d7,k7,he,⟨hra,hrb⟩,ho,⟨hfa,hfb⟩,hbl⟩=>(⟨⟨s7,A7,n7,c7,l7,t7,B7,m7,d7,k7⟩,he,jmT (⟨ho,jbn⟩:isQ ⟨s7,A7,n7,c7,l7,t7,B7,m7,d7,k7⟩ 0),h.retF hbl hra hrb hfa hfb⟩:∃z:Rw,e=Ending.returned (.agg #[.int .i64 z.s,.slice z.A z.n z.c,.int .i64 z.t,.slice z.B z.m z.d])∧Hid (isQ z 0)∧St w0 L5 (⟨rdP z.B z.m z.d z.k,rdS z.B z.m⟩::⟨rdP z.A z.n z.c z.l,rdS z.A z.n⟩::D5) W6));have HSu:=jmT (fun V (z:Rw) (hz:isQ z 0) (h:St w0 ((gy,rwA m vy [],50)::(gx,rwA N v2 [],50)::(Ld++L1)) (⟨rdP z.B z.m z.d z.k,rdS z.B z.m⟩::⟨rdP z.A z.n z.c z.l,rdS z.A z.n⟩::⟨rdP x.B x.m x.d x.k,rdS x.B x.m⟩::⟨rdP x.A x.n x.c x.l,rdS x.A x.n⟩::⟨rwP m vy,rwS m vy⟩::⟨rwP N v2,rwS N v2⟩::(Dd++D)) V)=>jf1 h hz HX.out ZMB ZMB ZMB ZMB)
      have HGo:=jmT (fun V (z y:Rw) (er:Int) (Gs:Hid (SubS 0 (G.c j) y er)) (h:St w0 ((gy,rwA m vy [],50)::(gx,rwA N v2 [],50)::(Ld++L1)) (⟨rdP y.B y.m y.d y.k,rdS y.B y.m⟩::⟨rdP y.A y.n y.c y.l,rdS y.A y.n⟩::⟨rdP z.B z.m z.d z.k,rdS z.B z.m⟩::⟨rdP z.A z.n z.c z.l,rdS z.A z.n⟩::⟨rdP x.B x.m x.d x.k,rdS x.B x.m⟩::⟨rdP x.A x.n x.c x.l,rdS x.A x.n⟩::⟨rwP m vy,rwS m vy⟩::⟨rwP N v2,rwS N v2⟩::(Dd++D)) V)=>jhF hRm HX.out.2 Gs.out h);have hcap3:=(K.rd (A:=x.A) (n:=x.n) (cap:=x.c) (l:=x.l) ZMB).caps;have hcap4:=(K.rd (A:=x.B) (n:=x.m) (cap:=x.d) (l:=x.k) ZMB).caps;clear hW hx hu hlf HP hvb hRm;go_upto_region 12 with fail;have K0:=K.drew;have s0:=HSA.out _ _ K0;clear K
      refine jah 21 (fun V=>V.cell? ⟨db,6,none⟩=some (.slice (some ⟨rb,0,none⟩) N cp)∧(V.cell? ⟨rb,j*4,none⟩=some (.int .i64 x.s)∧V.cell? ⟨rb,j*4+1,none⟩=some (.slice x.A x.n x.c)∧V.cell? ⟨rb,j*4+2,none⟩=some (.int .i64 x.t)∧V.cell? ⟨rb,j*4+3,none⟩=some (.slice x.B x.m x.d))) Zb9 s0 (fun hSh=>?_);clear s0;refine jaa.tk 0 rfl ?_;refine jaa.tk 1 rfl ?_;refine jaa.tk 2 rfl ?_;refine jaa.tk 3 rfl ?_;refine jaa.tk 4 rfl ?_;refine jaa.tk 5 rfl ?_;refine jaa.tk 6 rfl ?_;refine jaa.tk 8 rfl ?_;refine jaa.tk 9 rfl ?_;refine jaa.tk 10 rfl ?_;refine jaa.tk 11 rfl ?_;refine jaa.tk 12 rfl ?_;refine jaa.tk 13 rfl ?_;refine jaa.tk 14 rfl ?_;refine jaa.tk 15 rfl ?_;refine jaa.on 7 rfl fun KK hKK=>?_
      go_simp;go_at_call 112;refine (HNu.out _ _ _ K0).mono ?_;rintro e w3 ⟨z0,rfl,g0,k3⟩;go_wp2_with fail;refine hKK.out _ _ ?_ (fun hSh=>?_)
      ·exact HSA.out _ _ k3
      clear hKK KK;refine ZPT ?_;refine jaa.on 16 rfl fun KK hKK=>?_
      go_simp;go_at_call 42;refine (HSu.out _ _ g0.out k3).mono ?_;rintro e w4 ⟨y1,er,rfl,gy1,k4⟩;go_wp2_with fail;refine hKK.out _ _ ?_ (fun hSh=>?_)
      ·exact HSA.out _ _ k4
      clear hKK KK;refine ZPT ?_;refine jaa.tk 17 rfl ?_;refine jaa.tk 18 rfl ?_;refine jaa.on 19 rfl fun KK hKK=>?_
      go_simp;go_at_call 119;refine (HGo.out _ _ _ _ gy1 k4).mono ?_;rintro e w5 ⟨z,zq,rfl,gz,k5⟩;go_wp2_with fail;refine hKK.out _ _ ?_ (fun hSh=>?_)
      ·exact HSA.out _ _ k5
      clear hKK KK;refine ZPT ?_;refine jaa.tk 20 rfl ?_;refine jaa.last rfl Zb9 ?_
      have HV3:=jmT (show ∀k,k<m→isQ (putF vy u z k) (putF y2 u (0-G.c j) k) from fun k hk=>by
       by_cases e:k=u
       ·rw [e,jaf,jaf,←gz.out.2];exact gz.out.1
       ·rw [jad e,jad e];exact HV2.out k hk)
      clear K0 k3 k4 HSA HNu HSu HGo hSh gz gy1 g0 HX HV2;refine k5.storeR (v:=vy) (J:=[]) (t:=50) rfl rfl _ _ _ rfl gy u m z rfl rfl Hum.out (Upd.head _) jae ?_;intro W8 K8;clear k5;have HK:=jmT ((K8.rwPut (v:=vy) z u ZMB ZMB ZMB).lessS (D':=⟨rwP m (putF vy u z),rwS m (putF vy u z)⟩::⟨rwP N v2,rwS N v2⟩::(Dd++D)) Zb10);clear K8;go_wp2_with fail;go_roundg (N-(j+1))
      case rel=>exact ⟨j+1,_,_,hjn,rfl,by go_num,HV3,HP2,HK.out⟩
      case measure=>omega
     ·have hgi:¬((G.free j:Nat):Int)≥(N:Int):=by omega
      have hgd:decide (N≤G.free j)=false:=decide_eq_false hge;have HP2:=jmT (HP.out.skip (fun h=>hge h.1));clear hlf HP hvb;go_wp2_with fail;go_roundg (N-(j+1))
      case rel=>exact ⟨j+1,_,_,hjn,rfl,by go_num,HV2,HP2,K⟩
      case measure=>omega
    ·have e:j=N:=by omega
     have HYE:=jmT (show ∀u,u<m→isQ (vy u) (yB N G u) from fun u hu=>by
      have h1:=HV2.out u hu;rw [HP.out u hu,e] at h1
      exact h1)
     have HE:=jmT (show BestP w0 Ld L1 Dd D m N (xB m G) (yB N G) (.returned (.tuple #[.slice (some ⟨gx,0,none⟩) N N,.slice (some ⟨gy,0,none⟩) m m])) wr from ⟨gx,gy,v2,vy,rfl,HXE,HYE,K⟩);clear K HP HV2 e HXE HYE;go_wp2_with fail;exact bodyPost_ret (v:=.tuple #[.slice (some ⟨gx,0,none⟩) N N,.slice (some ⟨gy,0,none⟩) m m]) (by simp [results,Tryz.results64,go_sem]) rfl HE.out
end
end Go.Proofs.YtdlcglndhhndpaaGreat
