/- Laws and walks; conditions stand in each theorem. -/
import Derived.Test.YtdlcglndhhndpaaGreatP34
set_option linter.unusedSimpArgs false
set_option linter.unusedVariables false
set_option maxHeartbeats 8000000
set_option maxRecDepth 100000
namespace Go.Proofs.YtdlcglndhhndpaaGreat
open Go.RowKit
section
variable {P:Program} {ops:Array Oper} {rest:List Oper} {o:Oper} {a:Act} {Q:Exit→Act→World→Prop} {w W:World} {L:List Blk} {D:List Hl}
theorem St.boxP (K:St w L D W) (hgd:o.guard=none) (ty:TypeId) (x:Operand) (p:Option Addr) (ho:o.op=.box ty x) (hx:a.eval x=.pointer p) (h:∀W' b,St w ((b,#[.pointer p],ty)::L) D W'→wpList P ops Q rest (a.put o.dst (.pointer (some ⟨b,0,none⟩))) W'):wpList P ops Q (o::rest) a W:=by
 refine wpList_plain hgd fun _ hK=>?_
 unfold Oper.wp execOp;simp [ho,Instr.box,newVar,newRow,hx,Value.cells];exact hK _ _ (h _ _ (K.new _ ty))
theorem St.storeI1 {L':List Blk} {b:Nat} {t:TypeId} {u:Int} (K:St w L D W) (hgd:o.guard=none) (hd:o.dst=none) (ty:TypeId) (x y:Operand) (ho:o.op=.store ty x y) (v:Int) (hx:a.eval x=.pointer (some ⟨b,0,none⟩)) (hy:a.eval y=.int .i64 v)
 (hU:Upd b #[.int .i64 u] t #[.int .i64 v] L L') (hi:(P.info? ty).map (·.size)=some 1) (h:∀W',St w L' D W'→wpList P ops Q rest a W'):wpList P ops Q (o::rest) a W :=
 K.storeI (off:=0) hgd hd ty x y ho .i64 v hx hy hU rfl hi Zb0 h
end
theorem jcQ:(Tryz.prog.info? 3).map (fun i=>i.zero.map (·.cells))=some (some #[.int .i64 0]):=by kernel_rfl
theorem jb7:(Tryz.prog.info? 3).map (·.size)=some 1:=by kernel_rfl
def NxI:Nxt→Int→Int→Prop
 | .best,r,s=>r= -1∧s= -1
 | .contra i,r,s=>r=(i:Int)∧s= -1
 | .endless j,r,s=>r= -1∧s=(j:Int)
 | .swap _ _,_,_=>False
def SrQ (m N:Nat) (G G':Dc) (b:Bool) (r s:Int):Prop:=(b=true→Srch m N G none∧r= -1∧s= -1)∧(b=false→Srch m N G (some G')∧NxI (G'.pick m N) r s)
def SrP (w0:World) (L1:List Blk) (D:List Hl) (m N db:Nat) (G:Dc) (e:Ending) (W':World):Prop :=
 ∃(r s:Int) (b:Bool) (G':Dc) (Ld:List Blk) (Dd:List Hl),e=.returned (.tuple #[.int .i64 r,.int .i64 s])∧Hid (DicL m N db b G' Ld Dd)∧Hid (SrQ m N G G' b r s)∧St w0 (Ld++L1) (Dd++D) W'
def SrL (m N:Nat) (G G':Dc) (b:Bool) (t:Nat):Prop:=(b=true→Srch m N G none)∧(b=false→G'.Ok m N∧(∀R,Srch m N G' R→Srch m N G R)∧¬(Dc.seq m N t G').live m N)
theorem SrL.full {m N t:Nat} {G G':Dc} (h:SrL m N G G' true t):SrQ m N G G' true (-1) (-1):=⟨fun _=>⟨h.1 rfl,rfl,rfl⟩,(fun e=>by cases e)⟩
theorem SrL.stop {m N t:Nat} {G G':Dc} {p:Nxt} {r s:Int} (h:SrL m N G G' false t) (hp:G'.pick m N=p) (hn:NxI p r s):SrQ m N G G' false r s :=
 ⟨(fun e=>by cases e),fun _=>⟨(h.2 rfl).2.1 _ (.stop fun ⟨a,b,e⟩=>by rw [←hp,e] at hn;exact hn),by rw [hp];exact hn⟩⟩
theorem SrL.step {m N t r s:Nat} {G G' G2:Dc} {b:Bool} (h:SrL m N G G' false t) (hp:G'.pick m N=.swap r s) (hf:FulK false b (G'.fitX m N r s=true)) (hx:G'.fitX m N r s=true→G2=G'.xch r s):0<t∧SrL m N G G2 b (t-1):=by
 obtain ⟨hOk,hR,hF⟩:=h.2 rfl;cases t with
 | zero=>exact absurd ⟨r,s,hp⟩ hF
 | succ t =>
  refine ⟨by omega,fun e=>?_,fun e=>?_⟩
  ·refine hR _ (.full hp ?_);cases hq:G'.fitX m N r s
   ·rfl
   ·have:=hf.2 ⟨rfl,hq⟩;rw [e] at this;cases this
  ·have hq:=(hf.1 e).2;have e2:=hx hq;obtain ⟨h1,h2,-⟩:=Dc.pick_swap hOk hp;have e3:G'.nxt m N=G'.xch r s:=by unfold Dc.nxt;rw [hp]
   rw [e2];refine ⟨hOk.xch h1 h2,fun R hS=>hR _ (.step hp hq hS),?_⟩;rw [←e3];exact hF
theorem jjg {m n:Nat} {D:Dc} (h1:lstP D.own D.negR m=none) (h2:lstP D.free D.posC n=none):D.pick m n=.best:=by unfold Dc.pick;rw [h1,h2]
theorem jge {m n r:Nat} {D:Dc} (h1:lstP D.own D.negR m=some r) (h2:lstP D.free D.posC n=none):D.pick m n=D.rowP n r:=by unfold Dc.pick;rw [h1,h2]
theorem jgd {m n s:Nat} {D:Dc} (h1:lstP D.own D.negR m=none) (h2:lstP D.free D.posC n=some s):D.pick m n=D.colP m s:=by unfold Dc.pick;rw [h1,h2]
theorem jgc {m n r s:Nat} {D:Dc} (h1:lstP D.own D.negR m=some r) (h2:lstP D.free D.posC n=some s) (h:D.own r<D.free s):D.pick m n=D.rowP n r:=by unfold Dc.pick;rw [h1,h2];exact if_pos h
theorem jgb {m n r s:Nat} {D:Dc} (h1:lstP D.own D.negR m=some r) (h2:lstP D.free D.posC n=some s) (h:¬D.own r<D.free s):D.pick m n=D.colP m s:=by unfold Dc.pick;rw [h1,h2];exact if_neg h
theorem jjr {n r:Nat} {D:Dc} (h:lstP D.free (D.negA r) n=none):D.rowP n r=.contra r:=by unfold Dc.rowP;rw [h]
theorem jjs {n r s:Nat} {D:Dc} (h:lstP D.free (D.negA r) n=some s):D.rowP n r=.swap r s:=by unfold Dc.rowP;rw [h]
theorem jhL {m s:Nat} {D:Dc} (h:lstP D.own (D.posA s) m=none):D.colP m s=.endless s:=by unfold Dc.colP;rw [h]
theorem jhM {m r s:Nat} {D:Dc} (h:lstP D.own (D.posA s) m=some r):D.colP m s=.swap r s:=by unfold Dc.colP;rw [h]
def XdQ (w0:World) (L1:List Blk) (D:List Hl) (x y z:Blk) (m N db r s:Nat) (b:Bool) (G:Dc) (e:Ending) (W':World):Prop :=
 ∃(b':Bool) (G':Dc) (Ld:List Blk) (Dd:List Hl),e=.returned (.tuple #[])∧Hid (DicL m N db b' G' Ld Dd)∧Hid (FulK b b' (G.fitX m N r s=true))∧Hid (G.fitX m N r s=true→G'=G.xch r s)∧St w0 (x::y::z::(Ld++L1)) (Dd++D) W'
theorem jeU {w0 w:World} {L1:List Blk} {D:List Hl} {x y z:Blk} {m N db r s:Nat} {b:Bool} {G:Dc} {Ld:List Blk} {Dd:List Hl} (h:DicL m N db b G Ld Dd) (K:St w0 (x::y::z::(Ld++L1)) (Dd++D) w) (hr:r<m) (hs:s<N) (hm:m≤1000) (hN:N≤1000) (hp:G.a r s≠0) :
 Calls Tryz.prog 118 #[.pointer (some ⟨db,0,none⟩),.int .i64 r,.int .i64 s] w (XdQ w0 L1 D x y z m N db r s b G):=by
 have hpm:∀Ld:List Blk,(Ld++([x,y,z]++L1)).Perm (x::y::z::(Ld++L1)):=fun Ld=>List.perm_append_comm_assoc Ld [x,y,z] L1
 refine (jfv h (K.perm (hpm Ld)) hr hs hm hN hp).mono ?_;rintro e w5 ⟨b',G',Ld',Dd',rfl,h1,h2,h3,K5⟩;exact ⟨b',G',Ld',Dd',rfl,h1,h2,h3,K5.perm (hpm Ld').symm⟩
theorem jeF (w0 w:World) (L1:List Blk) (D:List Hl) (m N db:Nat) (G:Dc) (Ld:List Blk) (Dd:List Hl) (HL:DicL m N db false G Ld Dd) (K:St w0 (Ld++L1) (Dd++D) w) (hOk:G.Ok m N) (hm:m≤1000) (hN:N≤1000) :
 Calls Tryz.prog 62 #[.pointer (some ⟨db,0,none⟩)] w (SrP w0 L1 D m N db G):=by
 obtain ⟨t,ht⟩:=ends hOk;have HT:=jmT (show SrL m N G G false t from ⟨(fun e=>by cases e),fun _=>⟨hOk,fun R h=>h,ht⟩⟩);have HD:=jmT HL;clear ht hOk HL;go_enter Tryz.func62,Tryz.ntmps62
 go_wp2_with (apply K.boxP;rfl;rfl;rfl;clear K;intro W b0 K)
 go_loopg [] t (fun gk wr=>∃(b:Bool) (G2:Dc) (Ld2:List Blk) (Dd2:List Hl),Hid (DicL m N db b G2 Ld2 Dd2)∧Hid (SrL m N G G2 b gk)∧St w0 ((b0,#[.pointer (some ⟨db,0,none⟩)],80)::(Ld2++L1)) (Dd2++D) wr)
 case atStart=>exact ⟨false,G,Ld,Dd,HD,HT,K⟩
 case round =>
  clear K HT HD;obtain ⟨b,G2,Ld2,Dd2,HD,HT,K⟩:=hrel;have r:=K.rawS;obtain ⟨R2,hR2,hflag⟩:=HD.out.flag (L:=((b0,#[.pointer (some ⟨db,0,none⟩)],80)::(Ld2++L1))) Zb20;have c0:=hflag _ _ K;clear hflag hR2;cases b
  ·obtain ⟨A1,k1,hown⟩:=HD.out.ownR (L:=((b0,#[.pointer (some ⟨db,0,none⟩)],80)::(Ld2++L1))) Zb20 hm;have HO1:=jmT hown;have co:=(hown _ _ K).1;obtain ⟨o1,ho1⟩:∃o1,o1=lstP G2.own G2.negR m:=⟨_,rfl⟩;have H1:=fun V (h:St w0 ((b0,#[.pointer (some ⟨db,0,none⟩)],80)::(Ld2++L1)) (Dd2++D) V)=>jce 114 #[.pointer (some ⟨b0,0,none⟩)] A1 m k1 G2.own G2.negR w0 V _ _ h ZO jkt (fun V h=>(hown _ _ h).2) (fun V h i hi=>s1_any HD.out Zb20 ZMB h hi)
   rw [←ho1] at H1;have HH1:=jmT H1;have HO1:=jmT ho1;clear hown H1 ho1;go_upto_region 3 with (first|(first|(apply K.alloc;rfl;rfl;exact jcQ;clear K r;(first|((fail_if_success revert b1);intro W b1 K)|intro W b2 K);have r:=K.rawS)|(apply K.storeI1;rfl;rfl;rfl;rfl;rfl;(repeat (first|with_reducible apply Upd.head|with_reducible apply Upd.tail));exact jb7;clear K r;intro W K;have r:=K.rawS))|(go_at_call 113;refine (HH1.out _ K).mono ?_;rintro e W' ⟨rfl,K'⟩;replace K:=K';clear K' r;have r:=K.rawS))
   clear HH1 co c0;obtain ⟨A2,k2,hfree⟩:=HD.out.freeR (L:=((b1,#[.int .i64 (ixI o1)],3)::(b0,#[.pointer (some ⟨db,0,none⟩)],80)::(Ld2++L1))) Zb20 hN;have cf:=(hfree _ _ K).1;obtain ⟨o2,ho2⟩:∃o2,o2=lstP G2.free G2.posC N:=⟨_,rfl⟩;have H2:=fun V (h:St w0 ((b1,#[.int .i64 (ixI o1)],3)::(b0,#[.pointer (some ⟨db,0,none⟩)],80)::(Ld2++L1)) (Dd2++D) V)=>jce 115 #[.pointer (some ⟨b0,0,none⟩)] A2 N k2 G2.free G2.posC w0 V _ _ h ZO jku (fun V h=>(hfree _ _ h).2) (fun V h i hi=>s2_any HD.out Zb20 ZMB h hi)
   rw [←ho2] at H2;have HH2:=jmT H2;have HO2:=jmT ho2;clear hfree H2 ho2;go_upto_region 4 with (first|(first|(apply K.alloc;rfl;rfl;exact jcQ;clear K r;(first|((fail_if_success revert b1);intro W b1 K)|intro W b2 K);have r:=K.rawS)|(apply K.storeI1;rfl;rfl;rfl;rfl;rfl;(repeat (first|with_reducible apply Upd.head|with_reducible apply Upd.tail));exact jb7;clear K r;intro W K;have r:=K.rawS))|(go_at_call 113;refine (HH2.out _ K).mono ?_;rintro e W' ⟨rfl,K'⟩;replace K:=K';clear K' r;have r:=K.rawS))
   clear HH2 cf;cases o1 with
   | none =>
    rw [show ixI none= -1 from rfl] at K r;cases o2 with
    | none =>
     rw [show ixI none= -1 from rfl] at K r;have HE:=jmT (show SrP w0 L1 D m N db G (.returned (.tuple #[.int .i64 (-1),.int .i64 (-1)])) W from ⟨_,_,false,G2,Ld2,Dd2,rfl,HD,jmT (HT.out.stop (jjg HO1.out.symm HO2.out.symm) ⟨rfl,rfl⟩),K.part ((List.sublist_cons_self _ _).trans ((List.sublist_cons_self _ _).trans (List.sublist_cons_self _ _)))⟩);clear HD HT;exact ZQ143
    | some s =>
     rw [show ixI (some s)=((s:Nat):Int) from rfl] at K r;have HsN:=jmT (show s<N from (jar HO2.out.symm).1);have hs0:¬((s:Nat):Int)<0:=by omega
     have hs1:decide (((s:Nat):Int)<0)=false:=decide_eq_false hs0;have r2:=K.drew.rawS;go_upto_region 6 with fail
     go_region
     all_goals
      replace K:=K.drew;clear r r2;obtain ⟨A2,k2,hown⟩:=HD.out.ownR (L:=((b2,#[.int .i64 ((s:Nat):Int)],3)::(b1,#[.int .i64 (-1)],3)::(b0,#[.pointer (some ⟨db,0,none⟩)],80)::(Ld2++L1))) Zb20 hm;have cf:=(hown _ _ K).1;obtain ⟨o3,ho3⟩:∃o3,o3=lstP G2.own (G2.posA s) m:=⟨_,rfl⟩;have H3:=fun V (h:St w0 ((b2,#[.int .i64 ((s:Nat):Int)],3)::(b1,#[.int .i64 (-1)],3)::(b0,#[.pointer (some ⟨db,0,none⟩)],80)::(Ld2++L1)) (Dd2++D) V)=>jce 117 #[.pointer (some ⟨b0,0,none⟩),.pointer (some ⟨b2,0,none⟩)] A2 m k2 G2.own (G2.posA s) w0 V _ _ h ZO jgL (fun V h=>(hown _ _ h).2) (fun V h i hi=>jmh HD.out Zb20 ZMB ZMB h HsN.out hi)
      rw [←ho3] at H3;have HO3:=jmT ho3;have HH3:=jmT H3;clear hown ho3 H3;have r:=K.rawS;go_upto_region 11 with (first|(first|(apply K.alloc;rfl;rfl;exact jcQ;clear K r;(first|((fail_if_success revert b1);intro W b1 K)|intro W b2 K);have r:=K.rawS)|(apply K.storeI1;rfl;rfl;rfl;rfl;rfl;(repeat (first|with_reducible apply Upd.head|with_reducible apply Upd.tail));exact jb7;clear K r;intro W K;have r:=K.rawS))|(go_at_call 113;refine (HH3.out _ K).mono ?_;rintro e W' ⟨rfl,K'⟩;replace K:=K';clear K' r;have r:=K.rawS))
      clear cf HH3;cases o3 with
      | none =>
       rw [show ixI none= -1 from rfl] at K r;have r2:=K.drew.rawS;have K:=K.drew;have HE:=jmT (show SrP w0 L1 D m N db G (.returned (.tuple #[.int .i64 (-1),.int .i64 ((s:Nat):Int)])) W.drew from ⟨_,_,false,G2,Ld2,Dd2,rfl,HD,jmT (HT.out.stop ((jgd HO1.out.symm HO2.out.symm).trans (jhL HO3.out.symm)) ⟨rfl,rfl⟩),K.part ((List.sublist_cons_self _ _).trans ((List.sublist_cons_self _ _).trans (List.sublist_cons_self _ _)))⟩);exact ZQ103
      | some rr =>
       rw [show ixI (some rr)=((rr:Nat):Int) from rfl] at K r;have hs0:¬((rr:Nat):Int)<0:=by omega
       have hs1:decide (((rr:Nat):Int)<0)=false:=decide_eq_false hs0;have hpk:=((jgd HO1.out.symm HO2.out.symm).trans (jhM HO3.out.symm));exact ZQ21
   | some rr =>
    rw [show ixI (some rr)=((rr:Nat):Int) from rfl] at K r;have Hrm:=jmT (show rr<m from (jar HO1.out.symm).1);have hr0:¬((rr:Nat):Int)<0:=by omega
    have hr1:decide (((rr:Nat):Int)<0)=false:=decide_eq_false hr0;cases o2 with
    | none =>
     rw [show ixI none= -1 from rfl] at K r;have r2:=K.drew.rawS;go_upto_region 6 with fail
     go_region
     all_goals
      replace K:=K.drew;clear r r2;obtain ⟨A2,k2,hfree⟩:=HD.out.freeR (L:=((b2,#[.int .i64 (-1)],3)::(b1,#[.int .i64 ((rr:Nat):Int)],3)::(b0,#[.pointer (some ⟨db,0,none⟩)],80)::(Ld2++L1))) Zb20 hN;have cf:=(hfree _ _ K).1;obtain ⟨o3,ho3⟩:∃o3,o3=lstP G2.free (G2.negA rr) N:=⟨_,rfl⟩;have H3:=fun V (h:St w0 ((b2,#[.int .i64 (-1)],3)::(b1,#[.int .i64 ((rr:Nat):Int)],3)::(b0,#[.pointer (some ⟨db,0,none⟩)],80)::(Ld2++L1)) (Dd2++D) V)=>jce 116 #[.pointer (some ⟨b0,0,none⟩),.pointer (some ⟨b1,0,none⟩)] A2 N k2 G2.free (G2.negA rr) w0 V _ _ h ZO jgK (fun V h=>(hfree _ _ h).2) (fun V h i hi=>jmg HD.out Zb20 ZMB ZMB h Hrm.out hi)
      rw [←ho3] at H3;have HO3:=jmT ho3;have HH3:=jmT H3;clear hfree ho3 H3;have r:=K.rawS;go_upto_region 8 with (first|(first|(apply K.alloc;rfl;rfl;exact jcQ;clear K r;(first|((fail_if_success revert b1);intro W b1 K)|intro W b2 K);have r:=K.rawS)|(apply K.storeI1;rfl;rfl;rfl;rfl;rfl;(repeat (first|with_reducible apply Upd.head|with_reducible apply Upd.tail));exact jb7;clear K r;intro W K;have r:=K.rawS))|(go_at_call 113;refine (HH3.out _ K).mono ?_;rintro e W' ⟨rfl,K'⟩;replace K:=K';clear K' r;have r:=K.rawS))
      clear cf HH3;cases o3 with
      | none =>
       rw [show ixI none= -1 from rfl] at K r;have HE:=jmT (show SrP w0 L1 D m N db G (.returned (.tuple #[.int .i64 ((rr:Nat):Int),.int .i64 (-1)])) W from ⟨_,_,false,G2,Ld2,Dd2,rfl,HD,jmT (HT.out.stop ((jge HO1.out.symm HO2.out.symm).trans (jjr HO3.out.symm)) ⟨rfl,rfl⟩),K.part ((List.sublist_cons_self _ _).trans ((List.sublist_cons_self _ _).trans (List.sublist_cons_self _ _)))⟩);exact ZQ125
      | some s =>
       rw [show ixI (some s)=((s:Nat):Int) from rfl] at K r;have hs0:¬((s:Nat):Int)<0:=by omega
       have hs1:decide (((s:Nat):Int)<0)=false:=decide_eq_false hs0;have hpk:=((jge HO1.out.symm HO2.out.symm).trans (jjs HO3.out.symm));exact ZQ21
    | some s =>
     rw [show ixI (some s)=((s:Nat):Int) from rfl] at K r;have HsN:=jmT (show s<N from (jar HO2.out.symm).1);have hs0:¬((s:Nat):Int)<0:=by omega
     have hs1:decide (((s:Nat):Int)<0)=false:=decide_eq_false hs0;obtain ⟨A3,k3,hro⟩:=HD.out.ownR (L:=((b2,#[.int .i64 ((s:Nat):Int)],3)::(b1,#[.int .i64 ((rr:Nat):Int)],3)::(b0,#[.pointer (some ⟨db,0,none⟩)],80)::(Ld2++L1))) Zb20 hm;obtain ⟨A4,k4,hrf⟩:=HD.out.freeR (L:=((b2,#[.int .i64 ((s:Nat):Int)],3)::(b1,#[.int .i64 ((rr:Nat):Int)],3)::(b0,#[.pointer (some ⟨db,0,none⟩)],80)::(Ld2++L1))) Zb20 hN;obtain ⟨p1,q1⟩:=hro _ _ K;obtain ⟨p2,q2⟩:=hro _ _ K.drew;obtain ⟨p3,q3⟩:=hrf _ _ K;obtain ⟨p4,q4⟩:=hrf _ _ K.drew;obtain ⟨vb,vo,hA,hvb,hc⟩:=RdI.cellAt q1 Hrm.out;subst hA;obtain ⟨vb',vo',hA',hvb',hc'⟩:=RdI.cellAt q2 Hrm.out;cases hA';obtain ⟨ub,uo,hB,hub,hd⟩:=RdI.cellAt q3 HsN.out;subst hB;obtain ⟨ub',uo',hB',hub',hd'⟩:=RdI.cellAt q4 HsN.out;cases hB';rw [jc1 Hrm.out] at hc hc';rw [jc1 HsN.out] at hd hd';have hcp1:=q1.caps;have hcp2:=q3.caps
     have hri:((rr:Nat):Int)<(m:Int):=by have:=Hrm.out;omega
     have hsi:((s:Nat):Int)<(N:Int):=by have:=HsN.out;omega
     have hri0:(0:Int)≤((rr:Nat):Int):=by omega
     have hsi0:(0:Int)≤((s:Nat):Int):=by omega
     have hge:decide (((rr:Nat):Int)≥0)=true:=decide_eq_true hri0;have r2:=K.drew.rawS;clear hro hrf q1 q2 q3 q4 hvb hvb' hub hub';by_cases hlt:G2.own rr<G2.free s
     ·have hl2:((G2.own rr:Nat):Int)<((G2.free s:Nat):Int):=by omega
      have hl3:decide (((G2.own rr:Nat):Int)<((G2.free s:Nat):Int))=true:=decide_eq_true hl2;have HLT:=jmT hlt;clear hlt;go_upto_region 6 with fail
      go_quiet (fail)
      rename_i nq
      replace K:=K.drewN nq;generalize W.drewN nq=W at K ⊢;clear r r2 p1 p2 p3 p4 hc hc' hd hd' hcp1 hcp2;obtain ⟨A2,k2,hfree⟩:=HD.out.freeR (L:=((b2,#[.int .i64 ((s:Nat):Int)],3)::(b1,#[.int .i64 ((rr:Nat):Int)],3)::(b0,#[.pointer (some ⟨db,0,none⟩)],80)::(Ld2++L1))) Zb20 hN;have cf:=(hfree _ _ K).1;obtain ⟨o3,ho3⟩:∃o3,o3=lstP G2.free (G2.negA rr) N:=⟨_,rfl⟩;have H3:=fun V (h:St w0 ((b2,#[.int .i64 ((s:Nat):Int)],3)::(b1,#[.int .i64 ((rr:Nat):Int)],3)::(b0,#[.pointer (some ⟨db,0,none⟩)],80)::(Ld2++L1)) (Dd2++D) V)=>jce 116 #[.pointer (some ⟨b0,0,none⟩),.pointer (some ⟨b1,0,none⟩)] A2 N k2 G2.free (G2.negA rr) w0 V _ _ h ZO jgK (fun V h=>(hfree _ _ h).2) (fun V h i hi=>jmg HD.out Zb20 ZMB ZMB h Hrm.out hi)
      rw [←ho3] at H3;have HO3:=jmT ho3;have HH3:=jmT H3;clear hfree ho3 H3;have r:=K.rawS;go_upto_region 8 with (first|(first|(apply K.alloc;rfl;rfl;exact jcQ;clear K r;(first|((fail_if_success revert b1);intro W b1 K)|intro W b2 K);have r:=K.rawS)|(apply K.storeI1;rfl;rfl;rfl;rfl;rfl;(repeat (first|with_reducible apply Upd.head|with_reducible apply Upd.tail));exact jb7;clear K r;intro W K;have r:=K.rawS))|(go_at_call 113;refine (HH3.out _ K).mono ?_;rintro e W' ⟨rfl,K'⟩;replace K:=K';clear K' r;have r:=K.rawS))
      clear cf HH3;cases o3 with
      | none =>
       rw [show ixI none= -1 from rfl] at K r;have HE:=jmT (show SrP w0 L1 D m N db G (.returned (.tuple #[.int .i64 ((rr:Nat):Int),.int .i64 (-1)])) W from ⟨_,_,false,G2,Ld2,Dd2,rfl,HD,jmT (HT.out.stop ((jgc HO1.out.symm HO2.out.symm HLT.out).trans (jjr HO3.out.symm)) ⟨rfl,rfl⟩),K.part ((List.sublist_cons_self _ _).trans ((List.sublist_cons_self _ _).trans (List.sublist_cons_self _ _)))⟩);exact ZQ125
      | some s =>
       rw [show ixI (some s)=((s:Nat):Int) from rfl] at K r;have hs0:¬((s:Nat):Int)<0:=by omega
       have hs1:decide (((s:Nat):Int)<0)=false:=decide_eq_false hs0;have hpk:=((jgc HO1.out.symm HO2.out.symm HLT.out).trans (jjs HO3.out.symm));exact ZQ21
     ·have hl2:¬((G2.own rr:Nat):Int)<((G2.free s:Nat):Int):=by omega
      have hl3:decide (((G2.own rr:Nat):Int)<((G2.free s:Nat):Int))=false:=decide_eq_false hl2;have HLT:=jmT hlt;clear hlt;go_upto_region 6 with fail
      go_quiet (fail)
      rename_i nq
      replace K:=K.drewN nq;generalize W.drewN nq=W at K ⊢;clear r r2 p1 p2 p3 p4 hc hc' hd hd' hcp1 hcp2;obtain ⟨A2,k2,hown⟩:=HD.out.ownR (L:=((b2,#[.int .i64 ((s:Nat):Int)],3)::(b1,#[.int .i64 ((rr:Nat):Int)],3)::(b0,#[.pointer (some ⟨db,0,none⟩)],80)::(Ld2++L1))) Zb20 hm;have cf:=(hown _ _ K).1;obtain ⟨o3,ho3⟩:∃o3,o3=lstP G2.own (G2.posA s) m:=⟨_,rfl⟩;have H3:=fun V (h:St w0 ((b2,#[.int .i64 ((s:Nat):Int)],3)::(b1,#[.int .i64 ((rr:Nat):Int)],3)::(b0,#[.pointer (some ⟨db,0,none⟩)],80)::(Ld2++L1)) (Dd2++D) V)=>jce 117 #[.pointer (some ⟨b0,0,none⟩),.pointer (some ⟨b2,0,none⟩)] A2 m k2 G2.own (G2.posA s) w0 V _ _ h ZO jgL (fun V h=>(hown _ _ h).2) (fun V h i hi=>jmh HD.out Zb20 ZMB ZMB h HsN.out hi)
      rw [←ho3] at H3;have HO3:=jmT ho3;have HH3:=jmT H3;clear hown ho3 H3;have r:=K.rawS;go_upto_region 11 with (first|(first|(apply K.alloc;rfl;rfl;exact jcQ;clear K r;(first|((fail_if_success revert b1);intro W b1 K)|intro W b2 K);have r:=K.rawS)|(apply K.storeI1;rfl;rfl;rfl;rfl;rfl;(repeat (first|with_reducible apply Upd.head|with_reducible apply Upd.tail));exact jb7;clear K r;intro W K;have r:=K.rawS))|(go_at_call 113;refine (HH3.out _ K).mono ?_;rintro e W' ⟨rfl,K'⟩;replace K:=K';clear K' r;have r:=K.rawS))
      clear cf HH3;cases o3 with
      | none =>
       rw [show ixI none= -1 from rfl] at K r;have r2:=K.drew.rawS;have K:=K.drew;have HE:=jmT (show SrP w0 L1 D m N db G (.returned (.tuple #[.int .i64 (-1),.int .i64 ((s:Nat):Int)])) W.drew from ⟨_,_,false,G2,Ld2,Dd2,rfl,HD,jmT (HT.out.stop ((jgb HO1.out.symm HO2.out.symm HLT.out).trans (jhL HO3.out.symm)) ⟨rfl,rfl⟩),K.part ((List.sublist_cons_self _ _).trans ((List.sublist_cons_self _ _).trans (List.sublist_cons_self _ _)))⟩);exact ZQ103
      | some rr =>
       rw [show ixI (some rr)=((rr:Nat):Int) from rfl] at K r;have hs0:¬((rr:Nat):Int)<0:=by omega
       have hs1:decide (((rr:Nat):Int)<0)=false:=decide_eq_false hs0;have hpk:=((jgb HO1.out.symm HO2.out.symm HLT.out).trans (jhM HO3.out.symm));exact ZQ21
  ·have HE:=jmT (show SrP w0 L1 D m N db G (.returned (.tuple #[.int .i64 (-1),.int .i64 (-1)])) wr from ⟨_,_,true,G2,Ld2,Dd2,rfl,HD,jmT HT.out.full,K.part (List.sublist_cons_self _ _)⟩);clear HD HT K;exact ZQ143
end Go.Proofs.YtdlcglndhhndpaaGreat
