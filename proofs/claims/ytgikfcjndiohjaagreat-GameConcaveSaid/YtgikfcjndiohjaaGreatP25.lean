/- Laws and walks; conditions stand in each theorem. -/
import Derived.Test.YtgikfcjndiohjaaGreatP24
set_option linter.unusedSimpArgs false
set_option linter.unusedVariables false
set_option maxHeartbeats 4000000
set_option maxRecDepth 100000
namespace Go.Proofs.YtgikfcjndiohjaaGreat
open Go.RowKit
theorem jmq (s1 t1 s2 t2:Int) (A1 B1 A2 B2:Option Addr) (n1 c1 m1 d1 n2 c2 m2 d2:Nat) (l1 k1 l2 k2:List Int) (w:World) (r1:RdI w w.heap.size A1 n1 c1 l1) (q1:RdI w w.heap.size B1 m1 d1 k1) (r2:RdI w w.heap.size A2 n2 c2 l2) (q2:RdI w w.heap.size B2 m2 d2 k2) :
 Calls Tryz.prog 40 #[.agg #[.int .i64 s1,.slice A1 n1 c1,.int .i64 t1,.slice B1 m1 d1],.agg #[.int .i64 s2,.slice A2 n2 c2,.int .i64 t2,.slice B2 m2 d2]] w (FrE w (binO (jam s1 l1 t1 k1&&jam s2 l2 t2 k2) (addK (ratF s1 l1 t1 k1) (ratF s2 l2 t2 k2)) (ratF s1 l1 t1 k1+ratF s2 l2 t2 k2)) (binE (jam s1 l1 t1 k1&&jam s2 l2 t2 k2) (addK (ratF s1 l1 t1 k1) (ratF s2 l2 t2 k2)))):=by
 have K:=((((St.start w).oldRd r1).oldRd q1).oldRd r2).oldRd q2
 have r:=K.raw
 have HR1:=jpk (fun W h g=>jby s1 t1 A1 B1 n1 c1 m1 d1 l1 k1 W h g)
 have HR2:=jpk (fun W h g=>jby s2 t2 A2 B2 n2 c2 m2 d2 l2 k2 W h g)
 have Hno:=jpk (fun W (c:Int) (h:Below w.heap.size w W)=>(⟨0,none,0,0,[],0,none,0,0,[],rfl,⟨Rd.nil,Rd.nil⟩,⟨rfl,rfl,rfl,rfl⟩,⟨FrA.none,FrA.none⟩,h⟩:FrE w none c (.returned (.tuple #[.agg #[.int .i64 0,.slice none 0 0,.int .i64 0,.slice none 0 0],.int .i64 c])) W))
 cases h1:jam s1 l1 t1 k1
 ·rw [h1] at HR1
  rw [Bool.false_and,jbH,jbG]
  clear h1
  go_enter Tryz.func40,Tryz.ntmps40
  go_wp2_with (first|(refine ZAL ?_;clear K r;intro W b K r)|(refine ZST ?_;clear K r;intro W K r))
  refine (HR1.out _ ZRD ZRD).mono ?_
  exact ZQ59
 cases h2:jam s2 l2 t2 k2
 ·rw [h1] at HR1
  rw [h2] at HR2
  rw [Bool.true_and,jbH,jbG]
  clear h1 h2
  go_enter Tryz.func40,Tryz.ntmps40
  go_wp2_with (first|(refine ZAL ?_;clear K r;intro W b K r)|(refine ZST ?_;clear K r;intro W K r))
  refine (HR1.out _ ZRD ZRD).mono ?_
  rintro e W' ⟨rfl,hb⟩
  replace K:=K.keep hb
  clear r
  have r:=K.rawS
  clear hb
  go_wp2_with (first|(refine ZAL ?_;clear K r;intro W b K r)|(refine ZST ?_;clear K r;intro W K r))
  refine (HR2.out _ ZRD ZRD).mono ?_
  exact ZQ59
 rw [h1] at HR1
 rw [h2] at HR2
 obtain ⟨⟨S1,T1⟩,F1⟩:=jay h1
 obtain ⟨⟨S2,T2⟩,F2⟩:=jay h2
 have a1:=jaK F1
 have a2:=jaQ F1
 have a3:=jaK F2
 have a4:=jaQ F2
 rw [Bool.true_and]
 generalize ratF s1 l1 t1 k1=x at *
 generalize ratF s2 l2 t2 k2=y at *
 have HB:=jpk (jnY x y)
 have HM1:=jpk (fun W hl hm=>uMul x.num y.den s1 A1 n1 c1 l1 t2 B2 m2 d2 k2 W hl hm S1 T2 a1 a4)
 have HM2:=jpk (fun W hl hm=>uMul y.num x.den s2 A2 n2 c2 l2 t1 B1 m1 d1 k1 W hl hm S2 T1 a3 a2)
 have HM3:=jpk (fun W hl hm=>uMul x.den y.den t1 B1 m1 d1 k1 t2 B2 m2 d2 k2 W hl hm T1 T2 a2 a4)
 have V1:=jbb true (x.num*y.den)
 have V2:=jbb true (y.num*x.den)
 have V3:=jbb true ((x.den:Int)*y.den)
 have V4:=jbb true (resZ true (x.num*y.den)+resZ true (y.num*x.den))
 have HA:=jpk (fun s A n cap l t A' n' cap' m W hl hm e1 e2=>uAdd (resZ true (x.num*y.den)) (resZ true (y.num*x.den)) s A n cap l t A' n' cap' m W hl hm e1 e2 V1 V2)
 generalize errZ true (resZ true (x.num*y.den)+resZ true (y.num*x.den))=E4 at *
 generalize resZ true (resZ true (x.num*y.den)+resZ true (y.num*x.den))=Z4 at *
 generalize errZ true (x.num*y.den)=E1 at *
 generalize resZ true (x.num*y.den)=Z1 at *
 generalize errZ true (y.num*x.den)=E2 at *
 generalize resZ true (y.num*x.den)=Z2 at *
 generalize errZ true ((x.den:Int)*y.den)=E3 at *
 generalize resZ true ((x.den:Int)*y.den)=Z3 at *
 generalize binO true (addK x y) (x+y)=O at *
 generalize binE true (addK x y)=E at *
 clear S1 S2 T1 T2 F1 F2 a1 a2 a3 a4 h1 h2 V1 V2
 have hcase:(E1 !=0)=true∨((E1 !=0)=false∧(E2 !=0)=true)∨((E1 !=0)=false∧(E2 !=0)=false∧(E3 !=0)=true)∨((E1 !=0)=false∧(E2 !=0)=false∧(E3 !=0)=false∧(E4 !=0)=true)∨((E1 !=0)=false∧(E2 !=0)=false∧(E3 !=0)=false∧(E4 !=0)=false):=by
  cases (E1 !=0) <;> cases (E2 !=0) <;> cases (E3 !=0) <;> cases (E4 !=0) <;> simp
 rcases hcase with hd1|⟨hd1,hd2⟩|⟨hd1,hd2,hd3⟩|⟨hd1,hd2,hd3,hd4⟩|⟨hd1,hd2,hd3,hd4⟩
 ·obtain ⟨z1,z2⟩:=HB.out true Zb20
  have HQ:=jpk (fun s A n cap l t A' n' cap' m W hl hm e1 e2=>(jbt true Z4 Z3 s A n cap l t A' n' cap' m W hl hm e1 e2 V4 V3))
  exact ZQ1
 ·obtain ⟨z1,z2⟩:=HB.out true Zb20
  have HQ:=jpk (fun s A n cap l t A' n' cap' m W hl hm e1 e2=>(jbt true Z4 Z3 s A n cap l t A' n' cap' m W hl hm e1 e2 V4 V3))
  exact ZQ1
 ·obtain ⟨z1,z2⟩:=HB.out true Zb20
  have HQ:=jpk (fun s A n cap l t A' n' cap' m W hl hm e1 e2=>(jbt true Z4 Z3 s A n cap l t A' n' cap' m W hl hm e1 e2 V4 V3))
  exact ZQ1
 ·obtain ⟨z1,z2⟩:=HB.out true Zb20
  have HQ:=jpk (fun s A n cap l t A' n' cap' m W hl hm e1 e2=>(jbt true Z4 Z3 s A n cap l t A' n' cap' m W hl hm e1 e2 V4 V3))
  exact ZQ1
 ·obtain ⟨z1,z2⟩:=HB.out false Zb20
  have HQ:=jpk (fun s A n cap l t A' n' cap' m W hl hm e1 e2=>(jbt false Z4 Z3 s A n cap l t A' n' cap' m W hl hm e1 e2 V4 V3))
  exact ZQ1
theorem jhu (N:Nat):∀(C p q r' s:Int) (s1 s2 s3 s4:Int) (A1 A2 A3 A4:Option Addr) (n1 c1 n2 c2 n3 c3 n4 c4:Nat) (l1 l2 l3 l4:List Int) (w:World) (r1:RdI w w.heap.size A1 n1 c1 l1) (r2:RdI w w.heap.size A2 n2 c2 l2) (r3:RdI w w.heap.size A3 n3 c3 l3) (r4:RdI w w.heap.size A4 n4 c4 l4) (e1:Std s1 l1 p) (e2:Std s2 l2 q) (e3:Std s3 l3 r') (e4:Std s4 l4 s) (f1:fits p=true) (f2:fits q=true) (f3:fits r'=true) (f4:fits s=true) (hC:CmpI C 1 p q r' s) (hN:(q+s).toNat≤N),
 Calls Tryz.prog 87 #[.agg #[.int .i64 s1,.slice A1 n1 c1],.agg #[.int .i64 s2,.slice A2 n2 c2],.agg #[.int .i64 s3,.slice A3 n3 c3],.agg #[.int .i64 s4,.slice A4 n4 c4]] w fun e w'=>e=.returned (.int .i64 C)∧Below w.heap.size w w':=by
 induction N with
 | zero=>intro C p q r' s s1 s2 s3 s4 A1 A2 A3 A4 n1 c1 n2 c2 n3 c3 n4 c4 l1 l2 l3 l4 w r1 r2 r3 r4 e1 e2 e3 e4 f1 f2 f3 f4 hC hN;have:=hC.1;have:=hC.2.1;omega
 | succ N ih =>
  intro C p q r' s s1 s2 s3 s4 A1 A2 A3 A4 n1 c1 n2 c2 n3 c3 n4 c4 l1 l2 l3 l4 w r1 r2 r3 r4 e1 e2 e3 e4 f1 f2 f3 f4 hC hN
  have K:=((((St.start w).oldRd r1).oldRd r2).oldRd r3).oldRd r4
  have r:=K.raw
  have hq:=hC.1
  have hs:=hC.2.1
  have HD1:=jpk (fun W hl hm=>uDiv p q s1 A1 n1 c1 l1 s2 A2 n2 c2 l2 W hl hm e1 e2 f1 f2 ZO)
  have HD2:=jpk (fun W hl hm=>uDiv r' s s3 A3 n3 c3 l3 s4 A4 n4 c4 l4 W hl hm e3 e4 f3 f4 ZO)
  have HC:=jpk (fun s5 A5 n5 c5 l5 s6 A6 n6 c6 l6 W r1 r2 h1 h2=>jhg (fq p q) (fq r' s) s5 A5 n5 c5 l5 s6 A6 n6 c6 l6 W r1 r2 h1 h2 (je6 hq f1) (je6 hs f3))
  have G2:=je7 (x:=p) hq f2
  have G4:=je7 (x:=r') hs f4
  have Hp:=hC.parts
  have Hs:=hC.stop
  have Hr:=hC.rests
  obtain ⟨U,hU⟩:∃U,sgI (fr p q)=U:=⟨_,rfl⟩
  obtain ⟨V,hV⟩:∃V,sgI (fr r' s)=V:=⟨_,rfl⟩
  rw [hU,hV] at Hs
  have hU1: -1≤U∧U≤1:=by rw [←hU];unfold sgI;split;omega;split <;> omega
  have hV1: -1≤V∧V≤1:=by rw [←hV];unfold sgI;split;omega;split <;> omega
  have hU0:U=0↔fr p q=0:=by rw [←hU];unfold sgI;split;omega;split <;> omega
  have hV0:V=0↔fr r' s=0:=by rw [←hV];unfold sgI;split;omega;split <;> omega
  clear r1 r2 r3 r4 e1 e3 f1 f3 hC
  generalize fr p q=u at *
  generalize fr r' s=v at *
  generalize cmpI (fq p q) (fq r' s)=c at *
  generalize fq p q=x at *
  generalize fq r' s=y at *
  by_cases hc:c=0
  case neg =>
   have hd:(c !=0)=true:=by simp [hc]
   have HE:=jpk (Hp hc)
   clear hc Hp Hs Hr G2 G4 ih hq hs hN hU1 hV1 hU0 hV0 e2 e4 f2 f4
   exact ZQ18
  subst hc
  have hw:IntKind.i64.wrap (U-V)=U-V:=IntWalk.i64_in _ ZO
  obtain ⟨g1,g2,g3⟩:=Hr rfl
  by_cases hu:u=0
  ·have hd:(U==0)=true:=by simp [hU0,hu]
   have HE:=jpk (Hs rfl (Or.inl hu))
   clear Hp Hs Hr G2 G4 ih hq hs hN hU1 hV1 hU0 hV0 e2 e4 f2 f4 g1 g2 g3 hu
   exact ZQ18
  by_cases hv:v=0
  ·have hd:(U==0)=false:=by simp [hU0,hu]
   have hd2:(V==0)=true:=by simp [hV0,hv]
   have HE:=jpk (Hs rfl (Or.inr hv))
   clear Hp Hs Hr G2 G4 ih hq hs hN hU1 hV1 hU0 hV0 e2 e4 f2 f4 g1 g2 g3 hu hv
   exact ZQ18
  have hd:(U==0)=false:=by simp [hU0,hu]
  have hd2:(V==0)=false:=by simp [hV0,hv]
  have HI:=jpk (fun s8 s6 A8 A6 n8 c8 n6 c6 l8 l6 W r4 r8 r2 r6 h8 h6=>ih C s v q u s4 s8 s2 s6 A4 A8 A2 A6 n4 c4 n8 c8 n2 c2 n6 c6 l4 l8 l2 l6 W r4 r8 r2 r6 e4 h8 e2 h6 f4 G4 f2 G2 ⟨by omega,by omega,Or.inl rfl,by rw [Int.mul_comm s u,Int.mul_comm q v];exact g1⟩ ZO)
  clear Hp Hs Hr G2 G4 ih hq hs hN hU1 hV1 hU0 hV0 e2 e4 f2 f4 g1 g2 g3 hu hv
  go_enter Tryz.func87,Tryz.ntmps87
  go_wp2_with (first|(refine ZAL ?_;clear K r;intro W b K r)|(refine ZST ?_;clear K r;intro W K r))
  refine (HD1.out _ ZRD ZRD).mono ?_
  rintro e W' ⟨s5,A5,n5,c5,l5,s6,A6,n6,c6,l6,rfl,⟨hra,hs5,hfa⟩,⟨hrb,hs6,hfb⟩,hb⟩
  have hf5:=jpk (hfa.mono K.1.size)
  have hg5:=jpk (hfb.mono K.1.size)
  replace K:=K.retF hb hra hrb hfa hfb
  clear r
  have r:=K.rawS
  clear hra hrb hfa hfb hb
  go_wp2_with (first|(refine ZAL ?_;clear K r;intro W b K r)|(refine ZST ?_;clear K r;intro W K r))
  refine (HD2.out _ ZRD ZRD).mono ?_
  rintro e W' ⟨s7,A7,n7,c7,l7,s8,A8,n8,c8,l8,rfl,⟨hra,hs7,hfa⟩,⟨hrb,hs8,hfb⟩,hb⟩
  have hf7:=jpk (hfa.mono K.1.size)
  have hg7:=jpk (hfb.mono K.1.size)
  replace K:=K.retF hb hra hrb hfa hfb
  clear r
  have r:=K.rawS
  clear hra hrb hfa hfb hb
  obtain rfl:s6=U:=hs6.1.trans hU
  obtain rfl:s8=V:=hs8.1.trans hV
  go_wp2_with (first|(refine ZAL ?_;clear K r;intro W b K r)|(refine ZST ?_;clear K r;intro W K r))
  refine (HC.out _ _ _ _ _ _ _ _ _ _ _ ZRD ZRD hs5 hs7).mono ?_
  rintro e W' ⟨rfl,hb⟩
  replace K:=K.keep hb
  clear r
  have r:=K.rawS
  clear hb
  clear hU hV hs5 hs7
  go_wp2_with (first|(refine ZAL ?_;clear K r;intro W b K r)|(refine ZST ?_;clear K r;intro W K r))
  refine (HI.out _ _ _ _ _ _ _ _ _ _ _ ZRD ZRD ZRD ZRD hs8 hs6).mono ?_
  rintro e W' ⟨rfl,hb⟩
  replace K:=K.keep hb
  clear r
  have r:=K.rawS
  clear hb
  clear hs6 hs8
  go_wp2
  go_ret
  exact ⟨rfl,K.1⟩
theorem jfH (s1 t1 s2 t2:Int) (A1 B1 A2 B2:Option Addr) (n1 c1 m1 d1 n2 c2 m2 d2:Nat) (l1 k1 l2 k2:List Int) (w:World) (r1:RdI w w.heap.size A1 n1 c1 l1) (q1:RdI w w.heap.size B1 m1 d1 k1) (r2:RdI w w.heap.size A2 n2 c2 l2) (q2:RdI w w.heap.size B2 m2 d2 k2) :
 Calls Tryz.prog 49 #[.agg #[.int .i64 s1,.slice A1 n1 c1,.int .i64 t1,.slice B1 m1 d1],.agg #[.int .i64 s2,.slice A2 n2 c2,.int .i64 t2,.slice B2 m2 d2]] w fun e w'=>e=.returned (.int .i64 (cmpF (jam s1 l1 t1 k1&&jam s2 l2 t2 k2) (ratF s1 l1 t1 k1) (ratF s2 l2 t2 k2)))∧Below w.heap.size w w':=by
 have K:=((((St.start w).oldRd r1).oldRd q1).oldRd r2).oldRd q2
 have r:=K.raw
 have HR1:=jpk (fun W h g=>jby s1 t1 A1 B1 n1 c1 m1 d1 l1 k1 W h g)
 have HR2:=jpk (fun W h g=>jby s2 t2 A2 B2 n2 c2 m2 d2 l2 k2 W h g)
 have Hno:=jpk (fun W (c:Int) (h:Below w.heap.size w W)=>(⟨0,none,0,0,[],0,none,0,0,[],rfl,⟨Rd.nil,Rd.nil⟩,⟨rfl,rfl,rfl,rfl⟩,⟨FrA.none,FrA.none⟩,h⟩:FrE w none c (.returned (.tuple #[.agg #[.int .i64 0,.slice none 0 0,.int .i64 0,.slice none 0 0],.int .i64 c])) W))
 cases h1:jam s1 l1 t1 k1
 ·rw [h1] at HR1
  clear h1
  go_enter Tryz.func49,Tryz.ntmps49
  go_wp2_with (first|(refine ZAL ?_;clear K r;intro W b K r)|(refine ZST ?_;clear K r;intro W K r))
  refine (HR1.out _ ZRD ZRD).mono ?_
  exact ZQ21
 cases h2:jam s2 l2 t2 k2
 ·rw [h1] at HR1
  rw [h2] at HR2
  clear h1 h2
  go_enter Tryz.func49,Tryz.ntmps49
  go_wp2_with (first|(refine ZAL ?_;clear K r;intro W b K r)|(refine ZST ?_;clear K r;intro W K r))
  refine (HR1.out _ ZRD ZRD).mono ?_
  rintro e W' ⟨rfl,hb⟩
  replace K:=K.keep hb
  clear r
  have r:=K.rawS
  clear hb
  go_wp2_with (first|(refine ZAL ?_;clear K r;intro W b K r)|(refine ZST ?_;clear K r;intro W K r))
  refine (HR2.out _ ZRD ZRD).mono ?_
  exact ZQ21
 rw [h1] at HR1
 rw [h2] at HR2
 obtain ⟨⟨S1,T1⟩,F1⟩:=jay h1
 obtain ⟨⟨S2,T2⟩,F2⟩:=jay h2
 have a1:=jaK F1
 have a2:=jaQ F1
 have a3:=jaK F2
 have a4:=jaQ F2
 rw [Bool.true_and]
 generalize ratF s1 l1 t1 k1=x at *
 generalize ratF s2 l2 t2 k2=y at *
 have hcmp:cmpF true x y=cmpQ x y:=if_pos rfl
 rw [hcmp]
 have HB:=jpk (fun W r1 r2 r3 r4=>jhu (x.den+y.den:Int).toNat (cmpQ x y) x.num x.den y.num y.den s1 t1 s2 t2 A1 B1 A2 B2 n1 c1 m1 d1 n2 c2 m2 d2 l1 k1 l2 k2 W r1 r2 r3 r4 S1 T1 S2 T2 a1 a2 a3 a4 (CmpI.start x y) (Nat.le_refl _))
 generalize cmpQ x y=C at *
 clear hcmp h1 h2 S1 S2 T1 T2 F1 F2 a1 a2 a3 a4
 go_enter Tryz.func49,Tryz.ntmps49
 go_wp2_with (first|(refine ZAL ?_;clear K r;intro W b K r)|(refine ZST ?_;clear K r;intro W K r))
 refine (HR1.out _ ZRD ZRD).mono ?_
 rintro e W' ⟨rfl,hb⟩
 replace K:=K.keep hb
 clear r
 have r:=K.rawS
 clear hb
 go_wp2_with (first|(refine ZAL ?_;clear K r;intro W b K r)|(refine ZST ?_;clear K r;intro W K r))
 refine (HR2.out _ ZRD ZRD).mono ?_
 rintro e W' ⟨rfl,hb⟩
 replace K:=K.keep hb
 clear r
 have r:=K.rawS
 clear hb
 go_wp2_with (first|(refine ZAL ?_;clear K r;intro W b K r)|(refine ZST ?_;clear K r;intro W K r))
 refine (HB.out _ ZRD ZRD ZRD ZRD).mono ?_
 rintro e W' ⟨rfl,hb⟩
 replace K:=K.keep hb
 clear r
 have r:=K.rawS
 clear hb
 go_wp2
 go_ret
 exact ⟨rfl,K.1⟩
end Go.Proofs.YtgikfcjndiohjaaGreat
