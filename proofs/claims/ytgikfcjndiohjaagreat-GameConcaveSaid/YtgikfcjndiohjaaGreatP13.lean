/- Laws and walks; conditions stand in each theorem. -/
import Derived.Deep.CutRange
import Derived.Test.YtgikfcjndiohjaaGreatP12
set_option linter.unusedSimpArgs false
set_option linter.unusedVariables false
set_option maxHeartbeats 4000000
set_option maxRecDepth 100000
namespace Go.Proofs.YtgikfcjndiohjaaGreat
open Go.RowKit
def cmpQ (x y:Rat):Int:=if x<y then -1 else if y<x then 1 else 0
theorem jgD (x y:Rat):cmpQ x y=cmpI (x.num*y.den) (y.num*x.den):=by
 unfold cmpQ cmpI
 simp only [Rat.lt_iff]
theorem jkX (x y:Int):cmpI y x= - cmpI x y:=by
 unfold cmpI
 by_cases h1:x<y
 ·rw [if_neg ZO,if_pos h1,if_pos h1];rfl
 ·by_cases h2:y<x
  ·rw [if_pos h2,if_neg h1,if_pos h2]
  ·rw [if_neg h2,if_neg h1,if_neg h1,if_neg h2];rfl
theorem jdY {x y:Int}:cmpI x y=0↔x=y:=by
 unfold cmpI
 split
 ·omega
 ·split <;> omega
theorem jhn (x y:Int): -1≤cmpI x y∧cmpI x y≤1:=by
 unfold cmpI
 split
 ·omega
 ·split <;> omega
def CmpI (C sg p q r s:Int):Prop:=0<q∧0<s∧(sg=1∨sg= -1)∧sg*cmpI (p*s) (r*q)=C
theorem CmpI.start (x y:Rat):CmpI (cmpQ x y) 1 x.num x.den y.num y.den:=⟨jbr x,jbr y,Or.inl rfl,by rw [jgD,Int.one_mul]⟩
theorem CmpI.parts {C sg p q r s:Int} (h:CmpI C sg p q r s) (hc:cmpI (fq p q) (fq r s)≠0):sg*cmpI (fq p q) (fq r s)=C:=by
 obtain ⟨hq,hs,-,rfl⟩:=h
 congr 1
 have e1:=jgU p q
 have e2:=jgU r s
 have b1:=(jcp (x:=p) (y:=q) ZO).resolve_right ZO
 have b2:=(jcp (x:=r) (y:=s) ZO).resolve_right ZO
 generalize fq p q=x at *
 generalize fq r s=y at *
 generalize fr p q=u at *
 generalize fr r s=v at *
 have hne:x≠y:=fun e=>hc (jdY.2 e)
 have hqs:=Int.mul_pos hq hs
 rcases Int.lt_or_gt_of_ne hne with h|h
 ·rw [ja9 h,ja9]
  rw [←e1,←e2]
  have h1:(q*s)*(x+1)≤(q*s)*y:=Int.mul_le_mul_of_nonneg_left ZO ZO
  have h2:u*s<q*s:=Int.mul_lt_mul_of_pos_right b1.2.2 hs
  have h3:0≤v*q:=Int.mul_nonneg b2.2.1 ZO
  have e3:(q*x+u)*s=(q*s)*x+u*s:=by grind
  have e4:(s*y+v)*q=(q*s)*y+v*q:=by grind
  rw [e3,e4]
  rw [Int.mul_add,Int.mul_one] at h1
  omega
 ·rw [jbm h,jbm]
  rw [←e1,←e2]
  have h1:(q*s)*(y+1)≤(q*s)*x:=Int.mul_le_mul_of_nonneg_left ZO ZO
  have h2:v*q<s*q:=Int.mul_lt_mul_of_pos_right b2.2.2 hq
  have h3:0≤u*s:=Int.mul_nonneg b1.2.1 ZO
  have e3:(q*x+u)*s=(q*s)*x+u*s:=by grind
  have e4:(s*y+v)*q=(q*s)*y+v*q:=by grind
  have e5:s*q=q*s:=Int.mul_comm _ _
  rw [e3,e4]
  rw [Int.mul_add,Int.mul_one] at h1
  omega
theorem CmpI.rests {C sg p q r s:Int} (h:CmpI C sg p q r s) (hc:cmpI (fq p q) (fq r s)=0):sg*cmpI (fr p q*s) (fr r s*q)=C∧(0≤fr p q∧fr p q<q)∧(0≤fr r s∧fr r s<s):=by
 obtain ⟨hq,hs,-,rfl⟩:=h
 have e1:=jgU p q
 have e2:=jgU r s
 have b1:=(jcp (x:=p) (y:=q) ZO).resolve_right ZO
 have b2:=(jcp (x:=r) (y:=s) ZO).resolve_right ZO
 refine ⟨?_,b1.2,b2.2⟩
 congr 1
 have hxy:=jdY.1 hc
 rw [←hxy] at e2
 generalize fq p q=x at *
 generalize fr p q=u at *
 generalize fr r s=v at *
 have e3:p*s=q*s*x+u*s:=by rw [←e1];grind
 have e4:r*q=q*s*x+v*q:=by rw [←e2];grind
 rw [e3,e4]
 unfold cmpI
 have h1:q*s*x+u*s<q*s*x+v*q↔u*s<v*q:=by omega
 have h2:q*s*x+v*q<q*s*x+u*s↔v*q<u*s:=by omega
 simp only [h1,h2]
theorem CmpI.stop {C sg p q r s:Int} (h:CmpI C sg p q r s) (hc:cmpI (fq p q) (fq r s)=0) (h0:fr p q=0∨fr r s=0):sg*(sgI (fr p q)-sgI (fr r s))=C:=by
 obtain ⟨h1,h2,h3⟩:=h.rests hc
 obtain ⟨hq,hs,-,-⟩:=h
 rw [←h1]
 congr 1
 generalize fr p q=u at *
 generalize fr r s=v at *
 rcases h0 with rfl|rfl
 ·by_cases hv:v=0
  ·subst hv;simp [sgI,cmpI]
  ·have hp:0<v*q:=Int.mul_pos ZO hq
   rw [Int.zero_mul,ja9 hp]
   unfold sgI
   rw [if_neg ZO,if_pos rfl,if_neg ZO,if_neg hv]
   omega
 ·by_cases hu:u=0
  ·subst hu;simp [sgI,cmpI]
  ·have hp:0<u*s:=Int.mul_pos ZO hs
   rw [Int.zero_mul,jbm hp]
   unfold sgI
   rw [if_neg ZO,if_neg hu,if_neg ZO,if_pos rfl]
   omega
theorem CmpI.step {C sg p q r s:Int} (h:CmpI C sg p q r s) (hc:cmpI (fq p q) (fq r s)=0) (hu:fr p q≠0) (hv:fr r s≠0):CmpI C (-sg) q (fr p q) s (fr r s):=by
 obtain ⟨h1,h2,h3⟩:=h.rests hc
 obtain ⟨hq,hs,hsg,-⟩:=h
 refine ⟨by omega,by omega,by omega,?_⟩
 rw [←h1,Int.mul_comm q,Int.mul_comm s,jkX (fr p q*s) (fr r s*q),Int.neg_mul_neg]
def NB (H b0 b1:Nat) (cs0 cs1:Array Value) (T:TypeId) (W:World):Prop:=(b0<H∧b1<H∧H≤W.heap.size)∧(Hb W b0 cs0 T∧Hb W b1 cs1 T)∧∀g,H≤g→g<W.heap.size→∃cs T,cs.size=2∧Hb W g cs T
section
variable {H b0 b1:Nat} {cs0 cs1:Array Value} {T:TypeId} {W:World}
theorem jeq (W:World) (o:Obj):(W.alloc o).heap.size=W.heap.size+1:=by simp
theorem St.four {w:World} {L:List Blk} {D:List Hl} (K:St w L D W) {u1 u2 u3 u4:Array Value} {t1 t2 t3 t4:TypeId}:St w ((W.heap.size+1+1+1,u4,t4)::(W.heap.size+1+1,u3,t3)::(W.heap.size+1,u2,t2)::(W.heap.size,u1,t1)::L) D ((((W.alloc (.cells u1 t1)).alloc (.cells u2 t2)).alloc (.cells u3 t3)).alloc (.cells u4 t4)).drew:=by
 have h:=((((K.new u1 t1).new u2 t2).new u3 t3).new u4 t4).drew
 simp only [jeq] at h
 exact h
theorem NB.alloc (h:NB H b0 b1 cs0 cs1 T W) (u v:Value) (t:TypeId):NB H b0 b1 cs0 cs1 T (W.alloc (.cells #[u,v] t)):=by
 obtain ⟨⟨h1,h2,h3⟩,⟨h4,h5⟩,h6⟩:=h
 have hb:=(Below.refl W.heap.size W).alloc (Nat.le_refl _) (.cells #[u,v] t)
 refine ⟨⟨h1,h2,Nat.le_trans h3 hb.size⟩,⟨h4.of (hb.block _ h4.lt),h5.of (hb.block _ h5.lt)⟩,fun g hg1 hg2=>?_⟩
 rw [jeq] at hg2
 by_cases e:g=W.heap.size
 ·subst e;exact ⟨_,_,rfl,Hb.new W _ t⟩
 ·obtain ⟨cs,T',h7,h8⟩:=h6 g hg1 ZO
  exact ⟨cs,T',h7,h8.of (hb.block _ h8.lt)⟩
theorem NB.drew (h:NB H b0 b1 cs0 cs1 T W):NB H b0 b1 cs0 cs1 T W.drew:=h
theorem NB.cellD (h:NB H b0 b1 cs0 cs1 T W):(∀g,H≤g→g<W.heap.size→W.cell? ⟨g,0,none⟩=some (Go.Proofs.YtgikfcjndiohjaaGreat.jaw W ⟨g,0,none⟩))∧(∀g,H≤g→g<W.heap.size→W.cell? ⟨g,1,none⟩=some (Go.Proofs.YtgikfcjndiohjaaGreat.jaw W ⟨g,1,none⟩))∧∀g j,H≤g→g<W.heap.size→W.frozen? ⟨g,j,none⟩=false:=by
 refine ⟨fun g h1 h2=>?_,fun g h1 h2=>?_,fun g j h1 h2=>?_⟩
 ·obtain ⟨cs,T',h7,h8⟩:=h.2.2 g h1 h2
  exact jaq.2 (by rw [h8.cell (Array.getElem?_eq_getElem (show 0<cs.size by omega))];rfl)
 ·obtain ⟨cs,T',h7,h8⟩:=h.2.2 g h1 h2
  exact jaq.2 (by rw [h8.cell (Array.getElem?_eq_getElem (show 1<cs.size by omega))];rfl)
 ·obtain ⟨cs,T',h7,h8⟩:=h.2.2 g h1 h2
  exact h8.thaw
end
def CmpW (w:World) (g5 g6 g7 g8:Nat) (p q r s:Int) (W:World):Prop :=
 ∃s1 A1 n1 c1 l1 s2 A2 n2 c2 l2 s3 A3 n3 c3 l3 s4 A4 n4 c4 l4 Z1 Z2 Z3 Z4,St w [(g8,#[.int .i64 s4,.slice A4 n4 c4],27),(g7,#[.int .i64 s3,.slice A3 n3 c3],27),(g6,#[.int .i64 s2,.slice A2 n2 c2],27),(g5,#[.int .i64 s1,.slice A1 n1 c1],27)] [⟨rdP A4 n4 c4 l4,Z4⟩,⟨rdP A3 n3 c3 l3,Z3⟩,⟨rdP A2 n2 c2 l2,Z2⟩,⟨rdP A1 n1 c1 l1,Z1⟩] W ∧
  (Std s1 l1 p∧Std s2 l2 q∧Std s3 l3 r∧Std s4 l4 s)∧fits p=true∧fits q=true∧fits r=true∧fits s=true
theorem je6 {x y:Int} (hy:0<y) (h:fits x=true):fits (fq x y)=true:=jdq h (by
 rw [(jfG hy).1]
 exact Int.natAbs_ediv_le_natAbs _ _)
theorem je7 {x y:Int} (hy:0<y) (h:fits y=true):fits (fr x y)=true:=jdq h (by
 have:=(jcp (x:=x) (y:=y) ZO).resolve_right ZO
 omega)
def cmpF (ok:Bool) (x y:Rat):Int:=if ok=true then cmpQ x y else 0
theorem jkm {x:Int} (h:x≠0):(sgI x==0)=false:=by unfold sgI;rw [if_neg h];split <;> rfl
theorem jkn (x:Int): -1≤sgI x∧sgI x≤1:=by
 unfold sgI
 split
 ·omega
 ·split <;> omega
theorem jfD (s1 t1 s2 t2:Int) (A1 B1 A2 B2:Option Addr) (n1 c1 m1 d1 n2 c2 m2 d2:Nat) (l1 k1 l2 k2:List Int) (w:World) (r1:RdI w w.heap.size A1 n1 c1 l1) (q1:RdI w w.heap.size B1 m1 d1 k1) (r2:RdI w w.heap.size A2 n2 c2 l2) (q2:RdI w w.heap.size B2 m2 d2 k2) :
 Calls Tryz.prog 23 #[.agg #[.int .i64 s1,.slice A1 n1 c1,.int .i64 t1,.slice B1 m1 d1],.agg #[.int .i64 s2,.slice A2 n2 c2,.int .i64 t2,.slice B2 m2 d2]] w fun e w'=>e=.returned (.int .i64 (cmpF (jam s1 l1 t1 k1&&jam s2 l2 t2 k2) (ratF s1 l1 t1 k1) (ratF s2 l2 t2 k2)))∧Below w.heap.size w w':=by
 have K:=((((St.start w).oldRd r1).oldRd q1).oldRd r2).oldRd q2
 have r:=K.raw
 have HR1:=jpk (fun W h g=>jaT s1 t1 A1 B1 n1 c1 m1 d1 l1 k1 W h g)
 have HR2:=jpk (fun W h g=>jaT s2 t2 A2 B2 n2 c2 m2 d2 l2 k2 W h g)
 have Hno:=jpk (fun W (c:Int) (h:Below w.heap.size w W)=>(⟨0,none,0,0,[],0,none,0,0,[],rfl,⟨Rd.nil,Rd.nil⟩,⟨rfl,rfl,rfl,rfl⟩,⟨FrA.none,FrA.none⟩,h⟩:FrE w none c (.returned (.tuple #[.agg #[.int .i64 0,.slice none 0 0,.int .i64 0,.slice none 0 0],.int .i64 c])) W))
 cases h1:jam s1 l1 t1 k1
 ·rw [h1] at HR1
  clear h1
  go_enter Tryz.func23,Tryz.ntmps23
  go_wp2_with (first|(refine ZAL ?_;clear K r;(first|((fail_if_success revert b0);intro W b0 K r)|((fail_if_success revert b1);intro W b1 K r)|((fail_if_success revert b2);intro W b2 K r)|((fail_if_success revert b3);intro W b3 K r)|((fail_if_success revert b4);intro W b4 K r)|((fail_if_success revert b5);intro W b5 K r)|intro W b K r))|(refine ZST ?_;clear K r;intro W K r))
  refine (HR1.out _ ZRD ZRD).mono ?_
  exact ZQ21
 cases h2:jam s2 l2 t2 k2
 ·rw [h1] at HR1
  rw [h2] at HR2
  clear h1 h2
  go_enter Tryz.func23,Tryz.ntmps23
  go_wp2_with (first|(refine ZAL ?_;clear K r;(first|((fail_if_success revert b0);intro W b0 K r)|((fail_if_success revert b1);intro W b1 K r)|((fail_if_success revert b2);intro W b2 K r)|((fail_if_success revert b3);intro W b3 K r)|((fail_if_success revert b4);intro W b4 K r)|((fail_if_success revert b5);intro W b5 K r)|intro W b K r))|(refine ZST ?_;clear K r;intro W K r))
  refine (HR1.out _ ZRD ZRD).mono ?_
  rintro e W' ⟨rfl,hb⟩
  replace K:=K.keep hb
  clear r
  have r:=K.rawS
  clear hb
  go_wp2_with (first|(refine ZAL ?_;clear K r;(first|((fail_if_success revert b0);intro W b0 K r)|((fail_if_success revert b1);intro W b1 K r)|((fail_if_success revert b2);intro W b2 K r)|((fail_if_success revert b3);intro W b3 K r)|((fail_if_success revert b4);intro W b4 K r)|((fail_if_success revert b5);intro W b5 K r)|intro W b K r))|(refine ZST ?_;clear K r;intro W K r))
  refine (HR2.out _ ZRD ZRD).mono ?_
  exact ZQ21
 rw [h1] at HR1
 rw [h2] at HR2
 obtain ⟨⟨S1,T1⟩,F1⟩:=jay h1
 obtain ⟨⟨S2,T2⟩,F2⟩:=jay h2
 have a1:=jaK F1
 have a2:=jaQ F1
 have a3:=jaK F2
 have a4:=jaQ F2
 rw [Bool.true_and]
 generalize ratF s1 l1 t1 k1=x at *
 generalize ratF s2 l2 t2 k2=y at *
 have hcmp:cmpF true x y=cmpQ x y:=if_pos rfl
 rw [hcmp]
 have HI0:=jpk (CmpI.start x y)
 have hC: -1≤cmpQ x y∧cmpQ x y≤1:=by rw [jgD];exact jhn _ _
 generalize cmpQ x y=C at *
 clear hcmp h1 h2
 go_enter Tryz.func23,Tryz.ntmps23
 go_wp2_with (first|(refine ZAL ?_;clear K r;(first|((fail_if_success revert b0);intro W b0 K r)|((fail_if_success revert b1);intro W b1 K r)|((fail_if_success revert b2);intro W b2 K r)|((fail_if_success revert b3);intro W b3 K r)|((fail_if_success revert b4);intro W b4 K r)|((fail_if_success revert b5);intro W b5 K r)|intro W b K r))|(refine ZST ?_;clear K r;intro W K r))
 refine (HR1.out _ ZRD ZRD).mono ?_
 rintro e W' ⟨rfl,hb⟩
 replace K:=K.keep hb
 clear r
 have r:=K.rawS
 clear hb
 go_wp2_with (first|(refine ZAL ?_;clear K r;(first|((fail_if_success revert b0);intro W b0 K r)|((fail_if_success revert b1);intro W b1 K r)|((fail_if_success revert b2);intro W b2 K r)|((fail_if_success revert b3);intro W b3 K r)|((fail_if_success revert b4);intro W b4 K r)|((fail_if_success revert b5);intro W b5 K r)|intro W b K r))|(refine ZST ?_;clear K r;intro W K r))
 refine (HR2.out _ ZRD ZRD).mono ?_
 rintro e W' ⟨rfl,hb⟩
 replace K:=K.keep hb
 clear r
 have r:=K.rawS
 clear hb
 go_upto_region 3 with (first|(refine ZAL ?_;clear K r;(first|((fail_if_success revert b0);intro W b0 K r)|((fail_if_success revert b1);intro W b1 K r)|((fail_if_success revert b2);intro W b2 K r)|((fail_if_success revert b3);intro W b3 K r)|((fail_if_success revert b4);intro W b4 K r)|((fail_if_success revert b5);intro W b5 K r)|intro W b K r))|(refine ZST ?_;clear K r;intro W K r))
 go_cut [5,6,7,8] from 25 to 32 (fun p q r s wx=>∃g5 g6 g7 g8,(p=.pointer (some ⟨g5,0,none⟩)∧q=.pointer (some ⟨g6,0,none⟩)∧r=.pointer (some ⟨g7,0,none⟩)∧s=.pointer (some ⟨g8,0,none⟩))∧St w [(g8,#[.int .i64 t2,.slice B2 m2 d2],27),(g7,#[.int .i64 s2,.slice A2 n2 c2],27),(g6,#[.int .i64 t1,.slice B1 m1 d1],27),(g5,#[.int .i64 s1,.slice A1 n1 c1],27)] [⟨rdP B2 m2 d2 k2,oldS w⟩,⟨rdP A2 n2 c2 l2,oldS w⟩,⟨rdP B1 m1 d1 k1,oldS w⟩,⟨rdP A1 n1 c1 l1,oldS w⟩] wx)
 case first =>
  have H0:NB W'.heap.size b0 b1 #[.int .i64 s1,.slice A1 n1 c1,.int .i64 t1,.slice B1 m1 d1] #[.int .i64 s2,.slice A2 n2 c2,.int .i64 t2,.slice B2 m2 d2] 29 W':=⟨⟨(K.blk (b:=b0) ZMB).lt,(K.blk (b:=b1) ZMB).lt,Nat.le_refl _⟩,⟨K.blk ZMB,K.blk ZMB⟩,fun g h1 h2=>absurd h1 ZO⟩
  obtain ⟨H,hH⟩:∃H,H=W'.heap.size:=⟨_,rfl⟩
  rw [←hH] at H0
  have hge:H≤W'.heap.size:=by omega
  have hl0:=H0.1.1
  have hl1:=H0.1.2.1
  have HS:=jpk (fun W (h:NB H b0 b1 #[.int .i64 s1,.slice A1 n1 c1,.int .i64 t1,.slice B1 m1 d1] #[.int .i64 s2,.slice A2 n2 c2,.int .i64 t2,.slice B2 m2 d2] 29 W)=>(show (NB H b0 b1 #[.int .i64 s1,.slice A1 n1 c1,.int .i64 t1,.slice B1 m1 d1] #[.int .i64 s2,.slice A2 n2 c2,.int .i64 t2,.slice B2 m2 d2] 29 W∧(W.cell? ⟨b0,0,none⟩=some (.int .i64 s1)∧W.cell? ⟨b0,1,none⟩=some (.slice A1 n1 c1)∧W.cell? ⟨b0,2,none⟩=some (.int .i64 t1)∧W.cell? ⟨b0,3,none⟩=some (.slice B1 m1 d1))∧(W.cell? ⟨b1,0,none⟩=some (.int .i64 s2)∧W.cell? ⟨b1,1,none⟩=some (.slice A2 n2 c2)∧W.cell? ⟨b1,2,none⟩=some (.int .i64 t2)∧W.cell? ⟨b1,3,none⟩=some (.slice B2 m2 d2))∧(∀g,H≤g→g<W.heap.size→W.cell? ⟨g,0,none⟩=some (jaw W ⟨g,0,none⟩))∧(∀g,H≤g→g<W.heap.size→W.cell? ⟨g,1,none⟩=some (jaw W ⟨g,1,none⟩))∧∀g j,H≤g→g<W.heap.size→W.frozen? ⟨g,j,none⟩=false) from ⟨h,⟨h.2.1.1.cell rfl,h.2.1.1.cell rfl,h.2.1.1.cell rfl,h.2.1.1.cell rfl⟩,⟨h.2.1.2.cell rfl,h.2.1.2.cell rfl,h.2.1.2.cell rfl,h.2.1.2.cell rfl⟩,h.cellD.1,h.cellD.2.1,h.cellD.2.2⟩))
  clear HI0 hC HR1 HR2 S1 S2 T1 T2 F1 F2 a1 a2 a3 a4 Hno r1 r2 q1 q2 r
  go_region_held3 (fun W=>(NB H b0 b1 #[.int .i64 s1,.slice A1 n1 c1,.int .i64 t1,.slice B1 m1 d1] #[.int .i64 s2,.slice A2 n2 c2,.int .i64 t2,.slice B2 m2 d2] 29 W∧(W.cell? ⟨b0,0,none⟩=some (.int .i64 s1)∧W.cell? ⟨b0,1,none⟩=some (.slice A1 n1 c1)∧W.cell? ⟨b0,2,none⟩=some (.int .i64 t1)∧W.cell? ⟨b0,3,none⟩=some (.slice B1 m1 d1))∧(W.cell? ⟨b1,0,none⟩=some (.int .i64 s2)∧W.cell? ⟨b1,1,none⟩=some (.slice A2 n2 c2)∧W.cell? ⟨b1,2,none⟩=some (.int .i64 t2)∧W.cell? ⟨b1,3,none⟩=some (.slice B2 m2 d2))∧(∀g,H≤g→g<W.heap.size→W.cell? ⟨g,0,none⟩=some (jaw W ⟨g,0,none⟩))∧(∀g,H≤g→g<W.heap.size→W.cell? ⟨g,1,none⟩=some (jaw W ⟨g,1,none⟩))∧∀g j,H≤g→g<W.heap.size→W.frozen? ⟨g,j,none⟩=false))
   ((refine HS.out _ ?_;repeat (first|exact H0|with_reducible refine NB.drew ?_|with_reducible refine NB.alloc ?_ _ _ _)))
   (fail)
  all_goals
   clear HS H0 hge hl0 hl1 hH
   go_wp2_with fail
   go_meet
   refine ⟨_,_,_,_,⟨rfl,rfl,rfl,rfl⟩,(St.pick K.four (fun p hp=>?_) ?_)⟩
   ·simp only [List.mem_cons,List.not_mem_nil,or_false] at hp
    rcases hp with rfl|rfl|rfl|rfl <;> simp
   ·simp only [List.pairwise_cons,List.mem_cons,List.not_mem_nil,or_false,forall_eq_or_imp,forall_eq,false_imp_iff,implies_true,List.Pairwise.nil,and_true]
    omega
 case rest =>
  obtain ⟨g5,g6,g7,g8,⟨rfl,rfl,rfl,rfl⟩,K⟩:=hcut
  have KW:=jpk (⟨s1,A1,n1,c1,l1,t1,B1,m1,d1,k1,s2,A2,n2,c2,l2,t2,B2,m2,d2,k2,oldS w,oldS w,oldS w,oldS w,K,⟨S1,T1,S2,T2⟩,a1,a2,a3,a4⟩:CmpW w g5 g6 g7 g8 x.num x.den y.num y.den wc)
  clear K r S1 S2 T1 T2 F1 F2 a1 a2 a3 a4 Hno HR1 HR2 r1 r2 q1 q2
  go_wp2_with fail
  go_loopg [9] x.den (fun gk sgv wr=>∃sg p q r s,sgv=.int .i64 sg∧CmpI C sg p q r s∧gk=q.toNat∧CmpW w g5 g6 g7 g8 p q r s wr)
  case atStart=>exact ⟨1,_,_,_,_,rfl,HI0.out,by simp,KW.out⟩
  case round =>
   obtain ⟨sg,p,q,r',s,rfl,hI,rfl,s1,A1,n1,c1,l1,s2,A2,n2,c2,l2,s3,A3,n3,c3,l3,s4,A4,n4,c4,l4,Z1,Z2,Z3,Z4,K,⟨S1,S2,S3,S4⟩,F1,F2,F3,F4⟩:=hrel
   have HI:=jpk hI
   obtain ⟨hq,hs,hsg,-⟩:=hI
   have HD1:=jpk (fun W r1 r2=>vDiv p q s1 A1 n1 c1 l1 s2 A2 n2 c2 l2 W r1 r2 S1 S2 F1 F2 ZO)
   have HD2:=jpk (fun W r1 r2=>vDiv r' s s3 A3 n3 c3 l3 s4 A4 n4 c4 l4 W r1 r2 S3 S4 F3 F4 ZO)
   have HC:=jpk (fun s5 A5 n5 c5 l5 s6 A6 n6 c6 l6 W r1 r2 h1 h2=>jmZ (fq p q) (fq r' s) s5 A5 n5 c5 l5 s6 A6 n6 c6 l6 W r1 r2 h1 h2 (je6 hq F1) (je6 hs F3))
   have G2:=je7 (x:=p) hq F2
   have G4:=je7 (x:=r') hs F4
   have r:=K.rawS
   by_cases h0:cmpI (fq p q) (fq r' s)=0
   case neg =>
    have hd:(cmpI (fq p q) (fq r' s) !=0)=true:=by simp [h0]
    have hres:=HI.out.parts h0
    have hw:IntKind.i64.wrap (sg*cmpI (fq p q) (fq r' s))=sg*cmpI (fq p q) (fq r' s):=IntWalk.i64_in _ ZO
    have Hres:=jpk hres
    generalize cmpI (fq p q) (fq r' s)=cc at *
    clear hres h0 G2 G4 hq hs hsg S1 S2 S3 S4 F1 F2 F3 F4 hC
    go_wp2_with (first|(refine ZAL ?_;clear K r;(first|((fail_if_success revert b0);intro W b0 K r)|((fail_if_success revert b1);intro W b1 K r)|((fail_if_success revert b2);intro W b2 K r)|((fail_if_success revert b3);intro W b3 K r)|((fail_if_success revert b4);intro W b4 K r)|((fail_if_success revert b5);intro W b5 K r)|intro W b K r))|(refine ZST ?_;clear K r;intro W K r))
    refine (HD1.out _ ZRD ZRD).mono ?_
    rintro e W' ⟨s5,A5,n5,c5,l5,s6,A6,n6,c6,l6,rfl,⟨hra,hs5,hfa⟩,⟨hrb,hs6,hfb⟩,hb⟩
    replace K:=K.retF hb hra hrb hfa hfb
    clear r hra hrb hfa hfb hb
    have r:=K.rawS
    go_wp2_with (first|(refine ZAL ?_;clear K r;(first|((fail_if_success revert b0);intro W b0 K r)|((fail_if_success revert b1);intro W b1 K r)|((fail_if_success revert b2);intro W b2 K r)|((fail_if_success revert b3);intro W b3 K r)|((fail_if_success revert b4);intro W b4 K r)|((fail_if_success revert b5);intro W b5 K r)|intro W b K r))|(refine ZST ?_;clear K r;intro W K r))
    refine (HD2.out _ ZRD ZRD).mono ?_
    rintro e W' ⟨s7,A7,n7,c7,l7,s8,A8,n8,c8,l8,rfl,⟨hra,hs7,hfa⟩,⟨hrb,hs8,hfb⟩,hb⟩
    replace K:=K.retF hb hra hrb hfa hfb
    clear r hra hrb hfa hfb hb
    have r:=K.rawS
    go_wp2_with (first|(refine ZAL ?_;clear K r;(first|((fail_if_success revert b0);intro W b0 K r)|((fail_if_success revert b1);intro W b1 K r)|((fail_if_success revert b2);intro W b2 K r)|((fail_if_success revert b3);intro W b3 K r)|((fail_if_success revert b4);intro W b4 K r)|((fail_if_success revert b5);intro W b5 K r)|intro W b K r))|(refine ZST ?_;clear K r;intro W K r))
    refine (HC.out _ _ _ _ _ _ _ _ _ _ _ ZRD ZRD hs5 hs7).mono ?_
    rintro e W' ⟨rfl,hb⟩
    replace K:=K.keep hb
    clear r
    have r:=K.rawS
    clear hb
    clear hs5 hs6 hs7 hs8
    go_wp2
    go_ret
    exact ⟨by rw [←Hres.out];rfl,K.1⟩
   have hd:(cmpI (fq p q) (fq r' s) !=0)=false:=by simp [h0]
   by_cases h1:fr p q=0∨fr r' s=0
   ·have hres:=HI.out.stop h0 h1
    have b1:=jkn (fr p q)
    have b2:=jkn (fr r' s)
    have hw:IntKind.i64.wrap (sgI (fr p q)-sgI (fr r' s))=sgI (fr p q)-sgI (fr r' s):=IntWalk.i64_in _ ZO
    have hw2:IntKind.i64.wrap (sg*(sgI (fr p q)-sgI (fr r' s)))=sg*(sgI (fr p q)-sgI (fr r' s)):=IntWalk.i64_in _ (by rw [hres];omega)
    have Hres:=jpk hres
    generalize cmpI (fq p q) (fq r' s)=cc at *
    have h2:(sgI (fr p q)==0)=true∨((sgI (fr p q)==0)=false∧(sgI (fr r' s)==0)=true):=by
     by_cases e:fr p q=0
     ·exact Or.inl (by rw [e];rfl)
     ·rcases h1 with h|h
      ·exact absurd h e
      ·exact Or.inr ⟨jkm e,by rw [h];rfl⟩
    generalize fr p q=u at *
    generalize fr r' s=v at *
    clear hres h0 h1 b1 b2 G2 G4 hq hs hsg S1 S2 S3 S4 F1 F2 F3 F4 hC
    go_wp2_with (first|(refine ZAL ?_;clear K r;(first|((fail_if_success revert b0);intro W b0 K r)|((fail_if_success revert b1);intro W b1 K r)|((fail_if_success revert b2);intro W b2 K r)|((fail_if_success revert b3);intro W b3 K r)|((fail_if_success revert b4);intro W b4 K r)|((fail_if_success revert b5);intro W b5 K r)|intro W b K r))|(refine ZST ?_;clear K r;intro W K r))
    refine (HD1.out _ ZRD ZRD).mono ?_
    rintro e W' ⟨s5,A5,n5,c5,l5,s6,A6,n6,c6,l6,rfl,⟨hra,hs5,hfa⟩,⟨hrb,hs6,hfb⟩,hb⟩
    replace K:=K.retF hb hra hrb hfa hfb
    clear r hra hrb hfa hfb hb
    have r:=K.rawS
    go_wp2_with (first|(refine ZAL ?_;clear K r;(first|((fail_if_success revert b0);intro W b0 K r)|((fail_if_success revert b1);intro W b1 K r)|((fail_if_success revert b2);intro W b2 K r)|((fail_if_success revert b3);intro W b3 K r)|((fail_if_success revert b4);intro W b4 K r)|((fail_if_success revert b5);intro W b5 K r)|intro W b K r))|(refine ZST ?_;clear K r;intro W K r))
    refine (HD2.out _ ZRD ZRD).mono ?_
    rintro e W' ⟨s7,A7,n7,c7,l7,s8,A8,n8,c8,l8,rfl,⟨hra,hs7,hfa⟩,⟨hrb,hs8,hfb⟩,hb⟩
    replace K:=K.retF hb hra hrb hfa hfb
    clear r hra hrb hfa hfb hb
    have r:=K.rawS
    go_wp2_with (first|(refine ZAL ?_;clear K r;(first|((fail_if_success revert b0);intro W b0 K r)|((fail_if_success revert b1);intro W b1 K r)|((fail_if_success revert b2);intro W b2 K r)|((fail_if_success revert b3);intro W b3 K r)|((fail_if_success revert b4);intro W b4 K r)|((fail_if_success revert b5);intro W b5 K r)|intro W b K r))|(refine ZST ?_;clear K r;intro W K r))
    refine (HC.out _ _ _ _ _ _ _ _ _ _ _ ZRD ZRD hs5 hs7).mono ?_
    rintro e W' ⟨rfl,hb⟩
    replace K:=K.keep hb
    clear r
    have r:=K.rawS
    clear hb
    obtain ⟨e6,-⟩:=hs6
    obtain ⟨e8,-⟩:=hs8
    rw [←e6] at h2 hw hw2 Hres
    rw [←e8] at h2 hw hw2 Hres
    clear e6 e8 hs5 hs7
    rcases h2 with h2|⟨h2,h3⟩
    ·go_wp2
     go_ret
     exact ⟨by rw [←Hres.out];rfl,K.1⟩
    ·go_wp2
     go_ret
     exact ⟨by rw [←Hres.out];rfl,K.1⟩
   ·have hu:fr p q≠0:=fun e=>h1 (Or.inl e)
    have hv:fr r' s≠0:=fun e=>h1 (Or.inr e)
    have HN:=jpk (HI.out.step h0 hu hv)
    have hm:=(HI.out.rests h0).2.1
    have HM:=jpk (show (fr p q).toNat<q.toNat by omega)
    have h2:=jkm hu
    have h3:=jkm hv
    have hw:IntKind.i64.wrap (-sg)= -sg:=IntWalk.i64_in _ ZO
    generalize cmpI (fq p q) (fq r' s)=cc at *
    generalize fr p q=u at *
    generalize fr r' s=v at *
    clear hm hu hv h0 h1 hq hs hsg F1 F3 hC
    go_wp2_with (first|(refine ZAL ?_;clear K r;(first|((fail_if_success revert b0);intro W b0 K r)|((fail_if_success revert b1);intro W b1 K r)|((fail_if_success revert b2);intro W b2 K r)|((fail_if_success revert b3);intro W b3 K r)|((fail_if_success revert b4);intro W b4 K r)|((fail_if_success revert b5);intro W b5 K r)|intro W b K r))|(refine ZST ?_;clear K r;intro W K r))
    refine (HD1.out _ ZRD ZRD).mono ?_
    rintro e W' ⟨s5,A5,n5,c5,l5,s6,A6,n6,c6,l6,rfl,⟨hra,hs5,hfa⟩,⟨hrb,hs6,hfb⟩,hb⟩
    replace K:=K.retF hb hra hrb hfa hfb
    clear r hra hrb hfa hfb hb
    have r:=K.rawS
    go_wp2_with (first|(refine ZAL ?_;clear K r;(first|((fail_if_success revert b0);intro W b0 K r)|((fail_if_success revert b1);intro W b1 K r)|((fail_if_success revert b2);intro W b2 K r)|((fail_if_success revert b3);intro W b3 K r)|((fail_if_success revert b4);intro W b4 K r)|((fail_if_success revert b5);intro W b5 K r)|intro W b K r))|(refine ZST ?_;clear K r;intro W K r))
    refine (HD2.out _ ZRD ZRD).mono ?_
    rintro e W' ⟨s7,A7,n7,c7,l7,s8,A8,n8,c8,l8,rfl,⟨hra,hs7,hfa⟩,⟨hrb,hs8,hfb⟩,hb⟩
    replace K:=K.retF hb hra hrb hfa hfb
    clear r hra hrb hfa hfb hb
    have r:=K.rawS
    go_wp2_with (first|(refine ZAL ?_;clear K r;(first|((fail_if_success revert b0);intro W b0 K r)|((fail_if_success revert b1);intro W b1 K r)|((fail_if_success revert b2);intro W b2 K r)|((fail_if_success revert b3);intro W b3 K r)|((fail_if_success revert b4);intro W b4 K r)|((fail_if_success revert b5);intro W b5 K r)|intro W b K r))|(refine ZST ?_;clear K r;intro W K r))
    refine (HC.out _ _ _ _ _ _ _ _ _ _ _ ZRD ZRD hs5 hs7).mono ?_
    rintro e W' ⟨rfl,hb⟩
    replace K:=K.keep hb
    clear r
    have r:=K.rawS
    clear hb
    rw [←hs6.1] at h2
    rw [←hs8.1] at h3
    have E6:=jpk hs6
    have E8:=jpk hs8
    have E2:=jpk S2
    have E4:=jpk S4
    clear hs6 hs8 S1 S2 S3 S4 hs5 hs7 HD1 HD2 HC
    go_wp2_with fail
    have K6:St w [(b5,#[.int .i64 s8,.slice A8 n8 c8],27),(b3,#[.int .i64 s6,.slice A6 n6 c6],27),(g8,#[.int .i64 s4,.slice A4 n4 c4],27),(g7,#[.int .i64 s3,.slice A3 n3 c3],27),(g6,#[.int .i64 s2,.slice A2 n2 c2],27),(g5,#[.int .i64 s1,.slice A1 n1 c1],27)] _ W':=K.pick (fun p hp=>by
     simp only [List.mem_cons,List.not_mem_nil,or_false] at hp
     rcases hp with rfl|rfl|rfl|rfl|rfl|rfl <;> simp) (by
     have:=K.2.2.1
     simp only [List.pairwise_cons,List.mem_cons,List.not_mem_nil,or_false,forall_eq_or_imp,forall_eq,false_imp_iff,implies_true,List.Pairwise.nil,and_true] at this ⊢
     simp only [this,true_and,not_false_eq_true,ne_eq])
    clear K r
    have r:=K6.raw
    have z:=K6.rawz
    simp only [Raw,RawC,RawZ,and_true,Nat.zero_add,Nat.reduceAdd] at r z
    have hpw:=K6.2.2.1
    simp only [List.pairwise_cons,List.mem_cons,List.not_mem_nil,or_false,forall_eq_or_imp,forall_eq,false_imp_iff,implies_true,List.Pairwise.nil,and_true] at hpw
    obtain ⟨⟨p1,p2,p3,p4,p5⟩,⟨p6,p7,p8,p9⟩,⟨p10,p11,p12⟩,⟨p13,p14⟩,p15⟩:=hpw
    have p1':=Ne.symm p1
    have p2':=Ne.symm p2
    have p3':=Ne.symm p3
    have p4':=Ne.symm p4
    have p5':=Ne.symm p5
    have p6':=Ne.symm p6
    have p7':=Ne.symm p7
    have p8':=Ne.symm p8
    have p9':=Ne.symm p9
    have p10':=Ne.symm p10
    have p11':=Ne.symm p11
    have p12':=Ne.symm p12
    have p13':=Ne.symm p13
    have p14':=Ne.symm p14
    have p15':=Ne.symm p15
    have K7:=jpk K6
    clear K6
    have FF:=jpk (And.intro (And.intro F2 F4) (And.intro G2 G4))
    clear G2 G4 F2 F4 h2 h3 hd HI HI0 KW
    go_region
    have K8:=(((K7.out.set2 (u:=.int .i64 s2) (v:=.slice A2 n2 c2) (b:=g5) ZUP).set2 (u:=.int .i64 s6) (v:=.slice A6 n6 c6) (b:=g6) ZUP).set2 (u:=.int .i64 s4) (v:=.slice A4 n4 c4) (b:=g7) ZUP).set2 (u:=.int .i64 s8) (v:=.slice A8 n8 c8) (b:=g8) ZUP
    have K9:=K8.drew
    obtain ⟨⟨F2,F4⟩,G2,G4⟩:=FF.out
    have HW:=jpk (⟨s2,A2,n2,c2,l2,s6,A6,n6,c6,l6,s4,A4,n4,c4,l4,s8,A8,n8,c8,l8,_,_,_,_,(K9.pick (L':=[(g8,#[.int .i64 s8,.slice A8 n8 c8],27),(g7,#[.int .i64 s4,.slice A4 n4 c4],27),(g6,#[.int .i64 s6,.slice A6 n6 c6],27),(g5,#[.int .i64 s2,.slice A2 n2 c2],27)]) (fun p hp=>List.mem_cons_of_mem _ (List.mem_cons_of_mem _ hp)) (by
     have:=K9.2.2.1
     exact (List.pairwise_cons.1 (List.pairwise_cons.1 this).2).2)).less (D':=[⟨rdP A8 n8 c8 l8,rdS A8 n8⟩,⟨rdP A4 n4 c4 l4,Z4⟩,⟨rdP A6 n6 c6 l6,rdS A6 n6⟩,⟨rdP A2 n2 c2 l2,Z2⟩]) (fun x hx=>by
     simp only [List.mem_cons,List.not_mem_nil,or_false] at hx
     rcases hx with rfl|rfl|rfl|rfl <;> simp),⟨E2.out,E6.out,E4.out,E8.out⟩,F2,G2,F4,G4⟩:CmpW w g5 g6 g7 g8 q u s v _)
    clear K7 K8 K9 r z F2 F4 G2 G4 p1 p2 p3 p4 p5 p6 p7 p8 p9 p10 p11 p12 p13 p14 p15 p1' p2' p3' p4' p5' p6' p7' p8' p9' p10' p11' p12' p13' p14' p15'
    go_wp2
    go_roundg u.toNat
    case rel=>exact ⟨-sg,q,u,s,v,rfl,HN.out,rfl,HW.out⟩
    case measure=>exact HM.out
end Go.Proofs.YtgikfcjndiohjaaGreat
