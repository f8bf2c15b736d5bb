/- Laws and walks; conditions stand in each theorem. -/
import Derived.Test.YtdlcglndhhndpaaGreatP27
set_option linter.unusedSimpArgs false
set_option linter.unusedVariables false
set_option maxHeartbeats 4000000
set_option maxRecDepth 100000
namespace Go.Proofs.YtdlcglndhhndpaaGreat
open Go.RowKit
def fewP (l:List Fv) (ls:List Rv):Bool:=decide (ls.length≤4)&&(jdG 4 1 l&&ls.all (jcz 4 1))
theorem jkA (A A':Option Addr) (n cap m cap':Nat) (l:List Fv) (ls:List Rv) (w:World) (hl:RdF w w.heap.size A n cap l) (hr:RdR w w.heap.size A' m cap' ls) :
 Calls Tryz.prog 21 #[.agg #[.slice A n cap,.slice A' m cap']] w fun e w'=>e=.returned (.bool (fewP l ls))∧Below w.heap.size w w':=by
 have hcap:=hl.caps;have hcap':=hr.caps;have hlen:=hr.len;have HL:=jmT hr;have HS:=jmT (fun W (h:Below w.heap.size w W)=>jcZ 4 A n cap l W (hl.up jan h));have K:=St.start w;by_cases hm:m≤4
 ·have hm1:decide ((m:Int)>4)=false:=decide_eq_false ZO;have hm3:decide (4<m)=false:=decide_eq_false ZO;have hm2:¬(m:Int)>4:=by omega
  cases hs:jdG 4 1 l
  ·have e:fewP l ls=false:=by unfold fewP;rw [hs,Bool.false_and,Bool.and_false]
   rw [e];rw [hs] at HS;clear e hs hlen hl hr HL;go_enter Tryz.func21,Tryz.ntmps21
   go_wp2_with (first|(first|(apply K.box;rfl;rfl;rfl;clear K;intro W b0 K;have c0:=(K.blk (b:=b0) (cs:=#[.slice A n cap,.slice A' m cap']) (t:=38) List.mem_cons_self).cell (j:=0) rfl;have c1:=(K.blk (b:=b0) (cs:=#[.slice A n cap,.slice A' m cap']) (t:=38) List.mem_cons_self).cell (j:=1) rfl))|(go_at_call 22;refine (HS.out _ K.1).mono ?_;rintro e W' ⟨rfl,hb⟩;replace K:=K.keep hb))
   go_ret;exact ⟨rfl,K.1⟩
  ·have e:fewP l ls=ls.all (jcz 4 1):=by unfold fewP;rw [hs,Bool.true_and,decide_eq_true ZO,Bool.true_and]
   rw [e];rw [hs] at HS;obtain ⟨R,hR⟩:∃R,R=ls.all (jcz 4 1):=⟨_,rfl⟩;rw [←hR]
   have HNo:=jmT (show ∀(i:Nat) x,ls[i]?=some x→jcz 4 1 x=false→R=false from fun i x hx h=>by
    rw [hR,List.all_eq_false]
    exact ⟨x,List.mem_of_getElem? hx,by rw [h];simp⟩)
   have HYes:=jmT (show (∀(i:Nat) x,i<m→ls[i]?=some x→jcz 4 1 x=true)→R=true from fun h1=>by
    rw [hR,List.all_eq_true];intro x hx;obtain ⟨i,hi,rfl⟩:=List.mem_iff_getElem.1 hx
    exact h1 i _ ZO (List.getElem?_eq_getElem hi))
   clear e hs hlen hl hr hR;go_enter Tryz.func21,Tryz.ntmps21
   go_wp2_with (first|(first|(apply K.box;rfl;rfl;rfl;clear K;intro W b0 K;have c0:=(K.blk (b:=b0) (cs:=#[.slice A n cap,.slice A' m cap']) (t:=38) List.mem_cons_self).cell (j:=0) rfl;have c1:=(K.blk (b:=b0) (cs:=#[.slice A n cap,.slice A' m cap']) (t:=38) List.mem_cons_self).cell (j:=1) rfl))|(go_at_call 22;refine (HS.out _ K.1).mono ?_;rintro e W' ⟨rfl,hb⟩;replace K:=K.keep hb;clear hb c0 c1))
   go_loopg [3] m (fun gk s3 wr=>∃k:Nat,k≤m∧gk=m-k∧s3=.int .i64 k∧Hid (∀(i:Nat) x,i<k→ls[i]?=some x→jcz 4 1 x=true)∧St w [(b0,#[.slice A n cap,.slice A' m cap'],38)] [] wr)
   case atStart=>exact ⟨0,Nat.zero_le _,rfl,rfl,jmT (fun j x h=>absurd h ZO),K⟩
   case round =>
    clear K;obtain ⟨k,hk,rfl,rfl,HA,K⟩:=hrel;have c1:=(K.blk (b:=b0) (cs:=#[.slice A n cap,.slice A' m cap']) (t:=38) List.mem_cons_self).cell (j:=1) rfl;by_cases hlt:k<m
    ·have hltd:decide (k<m)=true:=decide_eq_true hlt;have hb:=K.1;obtain ⟨eb,off,A0,n0,c0,A1,n1,c9,A2,n2,c2,x,hA,hbB,hx,⟨z0,z1,z2,z3,z4⟩,r0,r1,r2⟩:=HL.out.atR hlt;subst hA;have e0:=(hb.cell (p:=⟨eb,off+k*5,none⟩) hbB).trans z0;have e1:=(hb.cell (p:=⟨eb,off+k*5+1,none⟩) hbB).trans z1;have e2:=(hb.cell (p:=⟨eb,off+k*5+2,none⟩) hbB).trans z2;have e3:=(hb.cell (p:=⟨eb,off+k*5+3,none⟩) hbB).trans z3;have e4:=(hb.cell (p:=⟨eb,off+k*5+4,none⟩) hbB).trans z4;have Hc:=jmT (fun W (h:Below wr.heap.size wr W)=>(⟨jaw h e0,jaw h e1,jaw h e2,jaw h e3,jaw h e4⟩:W.cell? ⟨eb,off+k*5,none⟩=some (.slice A0 n0 c0)∧W.cell? ⟨eb,off+k*5+1,none⟩=some (.int .i64 x.b.s)∧W.cell? ⟨eb,off+k*5+2,none⟩=some (.slice A1 n1 c9)∧W.cell? ⟨eb,off+k*5+3,none⟩=some (.int .i64 x.b.t)∧W.cell? ⟨eb,off+k*5+4,none⟩=some (.slice A2 n2 c2)));have hki:(k:Int)<(m:Int):=by omega
     have hk0:(0:Int)≤(k:Int):=by omega
     have hcp0:=r0.caps;have hcp1:=r1.caps;have hcp2:=r2.caps;have HWa:=jmT (jcZ 4 A0 n0 c0 x.a wr (r0.up jan hb));have HW:=jmT (fun W=>jgT x.b.s x.b.t A1 A2 n1 c9 n2 c2 1 W);have hv:fewF n1 n2 1=fewV 1 x.b:=by unfold fewV;rw [r1.len,r2.len]
     rw [hv] at HW;clear z0 z1 z2 z3 z4 r0 r1 r2 hv;have Hx:=jmT hx;clear hx
     have HA2:=jmT (show jcz 4 1 x=true→∀(i:Nat) y,i<k+1→ls[i]?=some y→jcz 4 1 y=true from fun hf i y hi hy=>by
      by_cases e:i=k
      ·subst e;rw [Hx.out] at hy;cases hy;exact hf
      ·exact HA.out i y ZO hy)
     have HR2:=jmT (HNo.out k x Hx.out);clear HA HNo HYes;cases hf1:jdG 4 1 x.a
     ·rw [hf1] at HWa;have HR:=jmT (HR2.out (by unfold jcz;rw [hf1];rfl));clear hf1 HR2 HA2
      go_wp2_with (go_at_call 22;refine HWa.out.mono ?_;rintro e w1 ⟨rfl,hb1⟩;replace K:=K.keep hb1)
      exact jjU
     ·rw [hf1] at HWa;cases hf2:fewV 1 x.b
      ·rw [hf2] at HW;have HR:=jmT (HR2.out (by unfold jcz;rw [hf1,hf2];rfl));clear hf1 hf2 HR2 HA2
       go_wp2_with (first|(go_at_call 22;refine HWa.out.mono ?_;rintro e w1 ⟨rfl,hb1⟩;replace K:=K.keep hb1;clear c1;have c1:=(K.blk (b:=b0) (cs:=#[.slice A n cap,.slice (some ⟨eb,off,none⟩) m cap']) (t:=38) List.mem_cons_self).cell (j:=1) rfl;obtain ⟨g0,g1,g2,g3,g4⟩:=Hc.out _ hb1)|(go_at_call 37;refine (HW.out _).mono ?_;rintro e w2 ⟨rfl,hb2⟩;replace K:=K.keep hb2))
       exact jjU
      ·rw [hf2] at HW;have HA3:=jmT (HA2.out (by unfold jcz;rw [hf1,hf2];rfl));clear hf1 hf2 HR2 HA2
       go_wp2_with (first|(go_at_call 22;refine HWa.out.mono ?_;rintro e w1 ⟨rfl,hb1⟩;replace K:=K.keep hb1;clear c1;have c1:=(K.blk (b:=b0) (cs:=#[.slice A n cap,.slice (some ⟨eb,off,none⟩) m cap']) (t:=38) List.mem_cons_self).cell (j:=1) rfl;obtain ⟨g0,g1,g2,g3,g4⟩:=Hc.out _ hb1)|(go_at_call 37;refine (HW.out _).mono ?_;rintro e w2 ⟨rfl,hb2⟩;replace K:=K.keep hb2))
       go_roundg (m-(k+1))
       case rel=>exact ⟨k+1,hlt,rfl,by go_num,HA3,K⟩
       case measure=>omega
    ·have hd:decide (k<m)=false:=decide_eq_false hlt;have e:m=k:=by omega
     have HR:=jmT (HYes.out (by rw [e];exact HA.out));clear HA HNo HYes e
     go_wp2
     exact jjU
 ·have hm1:decide ((m:Int)>4)=true:=decide_eq_true ZO;have hm3:decide (4<m)=true:=decide_eq_true ZO;have hm2:(m:Int)>4:=by omega
  have e:fewP l ls=false:=by unfold fewP;rw [decide_eq_false ZO,Bool.false_and]
  rw [e];clear e hlen hl hr HL;go_enter Tryz.func21,Tryz.ntmps21
  go_wp2_with (first|(apply K.box;rfl;rfl;rfl;clear K;intro W b0 K;have c0:=(K.blk (b:=b0) (cs:=#[.slice A n cap,.slice A' m cap']) (t:=38) List.mem_cons_self).cell (j:=0) rfl;have c1:=(K.blk (b:=b0) (cs:=#[.slice A n cap,.slice A' m cap']) (t:=38) List.mem_cons_self).cell (j:=1) rfl))
  go_ret;exact ⟨rfl,K.1⟩
theorem jba {w0:World} {L:List Blk} {D:List Hl} {V:World} (p:Int) (hp: -9223372036854775808≤p∧p≤9223372036854775807) (hf:jbc ((p:Int):Rat)=true) (h:St w0 L D V):Calls Tryz.prog 66 #[.int .i64 p] V fun e W6=>∃z:Rw,e=Ending.returned (.agg #[.int .i64 z.s,.slice z.A z.n z.c,.int .i64 z.t,.slice z.B z.m z.d])∧Hid (isQ z ((p:Int):Rat))∧St w0 L (⟨rdP z.B z.m z.d z.k,rdS z.B z.m⟩::⟨rdP z.A z.n z.c z.l,rdS z.A z.n⟩::D) W6 :=
 (jfd p V hp).mono fun e W6 ⟨s7,A7,n7,c7,l7,t7,B7,m7,d7,k7,he,⟨hra,hrb⟩,ho,⟨hfa,hfb⟩,hbl⟩=>⟨⟨s7,A7,n7,c7,l7,t7,B7,m7,d7,k7⟩,he,jmT (⟨ho,hf⟩:isQ ⟨s7,A7,n7,c7,l7,t7,B7,m7,d7,k7⟩ _),h.retF hbl hra hrb hfa hfb⟩
theorem jdF:((6:Int) !=0)=true:=rfl
theorem jja:((0:Int) !=0)=false:=rfl
theorem jcB {x y:Int} {z:Rat}:madO true x y=binO true false z∧madE true y=binE true false:=⟨rfl,rfl⟩
theorem jh7 {x y:Int} {z:Rat} (hy:y≠0) (hz:Rat.divInt x y=z):madO false x y=binO true true z∧madE false y=binE true true:=by
 refine ⟨?_,?_⟩
 ·unfold madO;rw [if_neg Zb0,jbH hy,hz];exact (if_pos ⟨rfl,rfl⟩).symm
 ·unfold madE;rw [if_neg Zb0,jbG hy];rfl
theorem jmE (x y:Rat) (b:Bool) (hb:b=((errZ true (x.num*y.num) !=0)||(errZ true ((x.den:Int)*y.den) !=0))):madO b (resZ true (x.num*y.num)) (resZ true ((x.den:Int)*y.den))=binO true (mulK x y) (x*y)∧madE b (resZ true ((x.den:Int)*y.den))=binE true (mulK x y):=by
 unfold mulK;cases k1:fits (x.num*y.num)
 ·rw [jbQ k1,jdF,Bool.true_or] at hb;rw [hb,Bool.false_and];exact jcB
 cases k2:fits ((x.den:Int)*y.den)
 ·rw [jbQ k2,jdF,Bool.or_true] at hb;rw [hb,Bool.true_and];exact jcB
 rw [jbJ k1,jbJ k2,jja] at hb;rw [hb,jbL k1,jbL k2];exact jh7 (Int.ne_of_gt (jbA x y)) (jgh x y)
theorem jh6 (x y:Rat) (b:Bool) (hb:b=((((errZ true (x.num*y.den) !=0)||(errZ true (y.num*x.den) !=0))||(errZ true ((x.den:Int)*y.den) !=0))||(errZ true (resZ true (x.num*y.den)+resZ true (y.num*x.den)) !=0))):madO b (resZ true (resZ true (x.num*y.den)+resZ true (y.num*x.den))) (resZ true ((x.den:Int)*y.den))=binO true (addK x y) (x+y)∧madE b (resZ true ((x.den:Int)*y.den))=binE true (addK x y):=by
 unfold addK sumK;cases k1:fits (x.num*y.den)
 ·rw [jbQ k1,jdF,Bool.true_or,Bool.true_or,Bool.true_or] at hb;rw [hb,Bool.false_and,Bool.false_and];exact jcB
 cases k2:fits (y.num*x.den)
 ·rw [jbQ k2,jdF,Bool.or_true,Bool.true_or,Bool.true_or] at hb;rw [hb,Bool.false_and,Bool.and_false,Bool.false_and];exact jcB
 cases k3:fits ((x.den:Int)*y.den)
 ·rw [jbQ k3,jdF,Bool.or_true,Bool.true_or] at hb;rw [hb,Bool.and_false];exact jcB
 rw [jbL k1,jbL k2] at hb ⊢;cases k4:fits (x.num*y.den+y.num*x.den)
 ·rw [jbQ k4,jdF,Bool.or_true] at hb;rw [hb,Bool.and_false,Bool.and_false,Bool.false_and];exact jcB
 rw [jbJ k1,jbJ k2,jbJ k3,jbJ k4,jja] at hb;rw [hb,jbL k4,jbL k3];exact jh7 (Int.ne_of_gt (jbA x y)) (jgf x y)
theorem jkE (s1 t1 s2 t2:Int) (A1 B1 A2 B2:Option Addr) (n1 c1 m1 d1 n2 c2 m2 d2:Nat) (l1 k1 l2 k2:List Int) (w:World) (r1:RdI w w.heap.size A1 n1 c1 l1) (q1:RdI w w.heap.size B1 m1 d1 k1) (r2:RdI w w.heap.size A2 n2 c2 l2) (q2:RdI w w.heap.size B2 m2 d2 k2) :
 Calls Tryz.prog 55 #[.agg #[.int .i64 s1,.slice A1 n1 c1,.int .i64 t1,.slice B1 m1 d1],.agg #[.int .i64 s2,.slice A2 n2 c2,.int .i64 t2,.slice B2 m2 d2]] w (FrE w (binO (jap s1 l1 t1 k1&&jap s2 l2 t2 k2) (mulK (ratF s1 l1 t1 k1) (ratF s2 l2 t2 k2)) (ratF s1 l1 t1 k1*ratF s2 l2 t2 k2)) (binE (jap s1 l1 t1 k1&&jap s2 l2 t2 k2) (mulK (ratF s1 l1 t1 k1) (ratF s2 l2 t2 k2)))):=by
 have K:=((((St.start w).oldRd r1).oldRd q1).oldRd r2).oldRd q2;have r:=K.raw;have HR1:=jmT (fun W h g=>jaY s1 t1 A1 B1 n1 c1 m1 d1 l1 k1 W h g);have HR2:=jmT (fun W h g=>jaY s2 t2 A2 B2 n2 c2 m2 d2 l2 k2 W h g);have Hno:=jmT (fun W (c:Int) (h:Below w.heap.size w W)=>(⟨0,none,0,0,[],0,none,0,0,[],rfl,⟨Rd.nil,Rd.nil⟩,⟨rfl,rfl,rfl,rfl⟩,⟨FrA.none,FrA.none⟩,h⟩:FrE w none c (.returned (.tuple #[.agg #[.int .i64 0,.slice none 0 0,.int .i64 0,.slice none 0 0],.int .i64 c])) W));cases h1:jap s1 l1 t1 k1
 ·rw [h1] at HR1;rw [Bool.false_and,jby,jbx];clear h1;go_enter Tryz.func55,Tryz.ntmps55
  go_wp2_with (first|(refine ZAL ?_;clear K r;intro W b K r)|(refine ZST ?_;clear K r;intro W K r))
  refine (HR1.out _ ZRD ZRD).mono ?_;exact ZQ70
 cases h2:jap s2 l2 t2 k2
 ·rw [h1] at HR1;rw [h2] at HR2;rw [Bool.true_and,jby,jbx];clear h1 h2;go_enter Tryz.func55,Tryz.ntmps55
  go_wp2_with (first|(refine ZAL ?_;clear K r;intro W b K r)|(refine ZST ?_;clear K r;intro W K r))
  refine (HR1.out _ ZRD ZRD).mono ?_;rintro e W' ⟨rfl,hb⟩;replace K:=K.keep hb;clear r;have r:=K.rawS;clear hb
  go_wp2_with (first|(refine ZAL ?_;clear K r;intro W b K r)|(refine ZST ?_;clear K r;intro W K r))
  refine (HR2.out _ ZRD ZRD).mono ?_;exact ZQ70
 rw [h1] at HR1;rw [h2] at HR2;obtain ⟨⟨S1,T1⟩,F1⟩:=jay h1;obtain ⟨⟨S2,T2⟩,F2⟩:=jay h2;have a1:=jaG F1;have a2:=jaJ F1;have a3:=jaG F2;have a4:=jaJ F2;rw [Bool.true_and];generalize ratF s1 l1 t1 k1=x at *;generalize ratF s2 l2 t2 k2=y at *;have HB:=jmT (jmE x y);have HM1:=jmT (fun W hl hm=>uMul x.num y.num s1 A1 n1 c1 l1 s2 A2 n2 c2 l2 W hl hm S1 S2 a1 a3);have HM:=jmT (fun W hl hm=>uMul x.den y.den t1 B1 m1 d1 k1 t2 B2 m2 d2 k2 W hl hm T1 T2 a2 a4);have V1:=jaQ true (x.num*y.num);have V2:=jaQ true ((x.den:Int)*y.den);generalize errZ true (x.num*y.num)=E1 at *;generalize resZ true (x.num*y.num)=Z1 at *;generalize errZ true ((x.den:Int)*y.den)=E2 at *;generalize resZ true ((x.den:Int)*y.den)=Z2 at *;generalize binO true (mulK x y) (x*y)=O at *;generalize binE true (mulK x y)=E at *;clear S1 S2 T1 T2 F1 F2 a1 a2 a3 a4 h1 h2;cases hd1:(E1 !=0) <;> cases hd2:(E2 !=0)
 ·obtain ⟨z1,z2⟩:=HB.out false (by simp [hd1,hd2]);have HQ:=jmT (fun s A n cap l t A' n' cap' m W hl hm e1 e2=>(jaN false Z1 Z2 s A n cap l t A' n' cap' m W hl hm e1 e2 V1 V2));exact ZQ6
 ·obtain ⟨z1,z2⟩:=HB.out true (by simp [hd1,hd2]);have HQ:=jmT (fun s A n cap l t A' n' cap' m W hl hm e1 e2=>(jaN true Z1 Z2 s A n cap l t A' n' cap' m W hl hm e1 e2 V1 V2));exact ZQ6
 ·obtain ⟨z1,z2⟩:=HB.out true (by simp [hd1,hd2]);have HQ:=jmT (fun s A n cap l t A' n' cap' m W hl hm e1 e2=>(jaN true Z1 Z2 s A n cap l t A' n' cap' m W hl hm e1 e2 V1 V2));exact ZQ6
 ·obtain ⟨z1,z2⟩:=HB.out true (by simp [hd1,hd2]);have HQ:=jmT (fun s A n cap l t A' n' cap' m W hl hm e1 e2=>(jaN true Z1 Z2 s A n cap l t A' n' cap' m W hl hm e1 e2 V1 V2));exact ZQ6
end Go.Proofs.YtdlcglndhhndpaaGreat
