/- Laws and walks; conditions stand in each theorem. -/
import Derived.Test.YtdlcglndhhndpaaGreatP28
import Derived.Test.YtdlcglndhhndpaaGreatP29
set_option linter.unusedSimpArgs false
set_option linter.unusedVariables false
set_option maxHeartbeats 4000000
set_option maxRecDepth 100000
namespace Go.Proofs.YtdlcglndhhndpaaGreat
open Go.RowKit
theorem uSub (x y:Int) (s:Int) (A:Option Addr) (n cap:Nat) (l:List Int) (t:Int) (A':Option Addr) (n' cap':Nat) (m:List Int) (W:World) (hl:RdI W W.heap.size A n cap l) (hm:RdI W W.heap.size A' n' cap' m) (h1:Std s l x) (h2:Std t m y) (f1:fits x=true) (f2:fits y=true):Calls Tryz.prog 95 #[.agg #[.int .i64 s,.slice A n cap],.agg #[.int .i64 t,.slice A' n' cap']] W (BigE W (resZ true (x-y)) (errZ true (x-y))):=by
 have h:=jks s t A A' n cap n' cap' l m W hl hm;exact jhw
theorem jkT (z:Int):resZ true (-z)= - resZ true z:=by
 cases h:fits z
 ·have h':fits (-z)=false:=by
   cases h2:fits (-z)
   ·rfl
   ·have:=jbp h2;rw [Int.neg_neg,h] at this;cases this
  rw [jfS h',jfS h];rfl
 ·rw [jbL h,jbL (jbp h)]
theorem jkv (z:Int):errZ true (-z)=errZ true z:=by
 cases h:fits z
 ·have h':fits (-z)=false:=by
   cases h2:fits (-z)
   ·rfl
   ·have:=jbp h2;rw [Int.neg_neg,h] at this;cases this
  rw [jbQ h,jbQ h']
 ·rw [jbJ h,jbJ (jbp h)]
theorem jmF (x y:Rat) (b:Bool) (hb:b=((((errZ true (x.num*y.den) !=0)||(errZ true (y.num*x.den) !=0))||(errZ true ((x.den:Int)*y.den) !=0))||(errZ true (resZ true (x.num*y.den)-resZ true (y.num*x.den)) !=0))):madO b (resZ true (resZ true (x.num*y.den)-resZ true (y.num*x.den))) (resZ true ((x.den:Int)*y.den))=binO true (addK x (-y)) (x-y)∧madE b (resZ true ((x.den:Int)*y.den))=binE true (addK x (-y)):=by
 have h:=jh6 x (-y) b;rw [Rat.neg_num,Rat.neg_den,Int.neg_mul,jkv,jkT,←Int.sub_eq_add_neg,←Rat.sub_eq_add_neg] at h;exact h hb
theorem jmG {a b:Int} {z:Rat} (hb:b≠0) (hz:Rat.divInt a b=z) (c:Bool) (hc:c=((errZ true a !=0)||(errZ true b !=0))):madO c (resZ true a) (resZ true b)=binO true (fits a&&fits b) z∧madE c (resZ true b)=binE true (fits a&&fits b):=by
 cases k1:fits a
 ·rw [jbQ k1,jdF,Bool.true_or] at hc;rw [hc,Bool.false_and];exact jcB
 cases k2:fits b
 ·rw [jbQ k2,jdF,Bool.or_true] at hc;rw [hc,Bool.true_and];exact jcB
 rw [jbJ k1,jbJ k2,jja] at hc;rw [hc,jbL k1,jbL k2];exact jh7 hb hz
theorem jkG (s1 t1 s2 t2:Int) (A1 B1 A2 B2:Option Addr) (n1 c1 m1 d1 n2 c2 m2 d2:Nat) (l1 k1 l2 k2:List Int) (w:World) (r1:RdI w w.heap.size A1 n1 c1 l1) (q1:RdI w w.heap.size B1 m1 d1 k1) (r2:RdI w w.heap.size A2 n2 c2 l2) (q2:RdI w w.heap.size B2 m2 d2 k2) :
 Calls Tryz.prog 43 #[.agg #[.int .i64 s1,.slice A1 n1 c1,.int .i64 t1,.slice B1 m1 d1],.agg #[.int .i64 s2,.slice A2 n2 c2,.int .i64 t2,.slice B2 m2 d2]] w (FrE w (binO (jap s1 l1 t1 k1&&jap s2 l2 t2 k2) (addK (ratF s1 l1 t1 k1) (-ratF s2 l2 t2 k2)) (ratF s1 l1 t1 k1-ratF s2 l2 t2 k2)) (binE (jap s1 l1 t1 k1&&jap s2 l2 t2 k2) (addK (ratF s1 l1 t1 k1) (-ratF s2 l2 t2 k2)))):=by
 have K:=((((St.start w).oldRd r1).oldRd q1).oldRd r2).oldRd q2;have r:=K.raw;have HR1:=jmT (fun W h g=>jaY s1 t1 A1 B1 n1 c1 m1 d1 l1 k1 W h g);have HR2:=jmT (fun W h g=>jaY s2 t2 A2 B2 n2 c2 m2 d2 l2 k2 W h g);have Hno:=jmT (fun W (c:Int) (h:Below w.heap.size w W)=>(⟨0,none,0,0,[],0,none,0,0,[],rfl,⟨Rd.nil,Rd.nil⟩,⟨rfl,rfl,rfl,rfl⟩,⟨FrA.none,FrA.none⟩,h⟩:FrE w none c (.returned (.tuple #[.agg #[.int .i64 0,.slice none 0 0,.int .i64 0,.slice none 0 0],.int .i64 c])) W));cases h1:jap s1 l1 t1 k1
 ·rw [h1] at HR1;rw [Bool.false_and,jby,jbx];clear h1;go_enter Tryz.func43,Tryz.ntmps43
  go_wp2_with (first|(refine ZAL ?_;clear K r;intro W b K r)|(refine ZST ?_;clear K r;intro W K r))
  refine (HR1.out _ ZRD ZRD).mono ?_;exact ZQ67
 cases h2:jap s2 l2 t2 k2
 ·rw [h1] at HR1;rw [h2] at HR2;rw [Bool.true_and,jby,jbx];clear h1 h2;go_enter Tryz.func43,Tryz.ntmps43
  go_wp2_with (first|(refine ZAL ?_;clear K r;intro W b K r)|(refine ZST ?_;clear K r;intro W K r))
  refine (HR1.out _ ZRD ZRD).mono ?_;rintro e W' ⟨rfl,hb⟩;replace K:=K.keep hb;clear r;have r:=K.rawS;clear hb
  go_wp2_with (first|(refine ZAL ?_;clear K r;intro W b K r)|(refine ZST ?_;clear K r;intro W K r))
  refine (HR2.out _ ZRD ZRD).mono ?_;exact ZQ67
 rw [h1] at HR1;rw [h2] at HR2;obtain ⟨⟨S1,T1⟩,F1⟩:=jay h1;obtain ⟨⟨S2,T2⟩,F2⟩:=jay h2;have a1:=jaG F1;have a2:=jaJ F1;have a3:=jaG F2;have a4:=jaJ F2;rw [Bool.true_and];generalize ratF s1 l1 t1 k1=x at *;generalize ratF s2 l2 t2 k2=y at *;have HB:=jmT (jmF x y);have HM1:=jmT (fun W hl hm=>uMul x.num y.den s1 A1 n1 c1 l1 t2 B2 m2 d2 k2 W hl hm S1 T2 a1 a4);have HM2:=jmT (fun W hl hm=>uMul y.num x.den s2 A2 n2 c2 l2 t1 B1 m1 d1 k1 W hl hm S2 T1 a3 a2);have HM3:=jmT (fun W hl hm=>uMul x.den y.den t1 B1 m1 d1 k1 t2 B2 m2 d2 k2 W hl hm T1 T2 a2 a4);have V1:=jaQ true (x.num*y.den);have V2:=jaQ true (y.num*x.den);have V3:=jaQ true ((x.den:Int)*y.den);have V4:=jaQ true (resZ true (x.num*y.den)-resZ true (y.num*x.den));have HA:=jmT (fun s A n cap l t A' n' cap' m W hl hm e1 e2=>uSub (resZ true (x.num*y.den)) (resZ true (y.num*x.den)) s A n cap l t A' n' cap' m W hl hm e1 e2 V1 V2)
 generalize errZ true (resZ true (x.num*y.den)-resZ true (y.num*x.den))=E4 at *;generalize resZ true (resZ true (x.num*y.den)-resZ true (y.num*x.den))=Z4 at *;generalize errZ true (x.num*y.den)=E1 at *;generalize resZ true (x.num*y.den)=Z1 at *;generalize errZ true (y.num*x.den)=E2 at *;generalize resZ true (y.num*x.den)=Z2 at *;generalize errZ true ((x.den:Int)*y.den)=E3 at *;generalize resZ true ((x.den:Int)*y.den)=Z3 at *;generalize binO true (addK x (-y)) (x-y)=O at *;generalize binE true (addK x (-y))=E at *;clear S1 S2 T1 T2 F1 F2 a1 a2 a3 a4 h1 h2 V1 V2
 have hcase:(E1 !=0)=true∨((E1 !=0)=false∧(E2 !=0)=true)∨((E1 !=0)=false∧(E2 !=0)=false∧(E3 !=0)=true)∨((E1 !=0)=false∧(E2 !=0)=false∧(E3 !=0)=false∧(E4 !=0)=true)∨((E1 !=0)=false∧(E2 !=0)=false∧(E3 !=0)=false∧(E4 !=0)=false):=by
  cases (E1 !=0) <;> cases (E2 !=0) <;> cases (E3 !=0) <;> cases (E4 !=0) <;> simp
 rcases hcase with hd1|⟨hd1,hd2⟩|⟨hd1,hd2,hd3⟩|⟨hd1,hd2,hd3,hd4⟩|⟨hd1,hd2,hd3,hd4⟩
 ·obtain ⟨z1,z2⟩:=HB.out true Zb25;have HQ:=jmT (fun s A n cap l t A' n' cap' m W hl hm e1 e2=>(jaN true Z4 Z3 s A n cap l t A' n' cap' m W hl hm e1 e2 V4 V3));exact ZQ1
 ·obtain ⟨z1,z2⟩:=HB.out true Zb25;have HQ:=jmT (fun s A n cap l t A' n' cap' m W hl hm e1 e2=>(jaN true Z4 Z3 s A n cap l t A' n' cap' m W hl hm e1 e2 V4 V3));exact ZQ1
 ·obtain ⟨z1,z2⟩:=HB.out true Zb25;have HQ:=jmT (fun s A n cap l t A' n' cap' m W hl hm e1 e2=>(jaN true Z4 Z3 s A n cap l t A' n' cap' m W hl hm e1 e2 V4 V3));exact ZQ1
 ·obtain ⟨z1,z2⟩:=HB.out true Zb25;have HQ:=jmT (fun s A n cap l t A' n' cap' m W hl hm e1 e2=>(jaN true Z4 Z3 s A n cap l t A' n' cap' m W hl hm e1 e2 V4 V3));exact ZQ1
 ·obtain ⟨z1,z2⟩:=HB.out false Zb25;have HQ:=jmT (fun s A n cap l t A' n' cap' m W hl hm e1 e2=>(jaN false Z4 Z3 s A n cap l t A' n' cap' m W hl hm e1 e2 V4 V3));exact ZQ1
theorem jkD (s1 t1 s2 t2:Int) (A1 B1 A2 B2:Option Addr) (n1 c1 m1 d1 n2 c2 m2 d2:Nat) (l1 k1 l2 k2:List Int) (w:World) (r1:RdI w w.heap.size A1 n1 c1 l1) (q1:RdI w w.heap.size B1 m1 d1 k1) (r2:RdI w w.heap.size A2 n2 c2 l2) (q2:RdI w w.heap.size B2 m2 d2 k2) :
 Calls Tryz.prog 129 #[.agg #[.int .i64 s1,.slice A1 n1 c1,.int .i64 t1,.slice B1 m1 d1],.agg #[.int .i64 s2,.slice A2 n2 c2,.int .i64 t2,.slice B2 m2 d2]] w (FrE w (divO (jap s1 l1 t1 k1&&jap s2 l2 t2 k2) (ratF s1 l1 t1 k1) (ratF s2 l2 t2 k2)) (divE (jap s1 l1 t1 k1&&jap s2 l2 t2 k2) (ratF s1 l1 t1 k1) (ratF s2 l2 t2 k2))):=by
 have K:=((((St.start w).oldRd r1).oldRd q1).oldRd r2).oldRd q2;have r:=K.raw;have HR1:=jmT (fun W h g=>jaY s1 t1 A1 B1 n1 c1 m1 d1 l1 k1 W h g);have HR2:=jmT (fun W h g=>jaY s2 t2 A2 B2 n2 c2 m2 d2 l2 k2 W h g);have Hno:=jmT (fun W (c:Int) (h:Below w.heap.size w W)=>(⟨0,none,0,0,[],0,none,0,0,[],rfl,⟨Rd.nil,Rd.nil⟩,⟨rfl,rfl,rfl,rfl⟩,⟨FrA.none,FrA.none⟩,h⟩:FrE w none c (.returned (.tuple #[.agg #[.int .i64 0,.slice none 0 0,.int .i64 0,.slice none 0 0],.int .i64 c])) W));cases h1:jap s1 l1 t1 k1
 ·rw [h1] at HR1;rw [Bool.false_and,jeZ,jeY];clear h1;go_enter Tryz.func129,Tryz.ntmps129
  go_wp2_with (first|(refine ZAL ?_;clear K r;intro W b K r)|(refine ZST ?_;clear K r;intro W K r))
  refine (HR1.out _ ZRD ZRD).mono ?_;exact ZQ66
 cases h2:jap s2 l2 t2 k2
 ·rw [h1] at HR1;rw [h2] at HR2;rw [Bool.true_and,jeZ,jeY];clear h1 h2;go_enter Tryz.func129,Tryz.ntmps129
  go_wp2_with (first|(refine ZAL ?_;clear K r;intro W b K r)|(refine ZST ?_;clear K r;intro W K r))
  refine (HR1.out _ ZRD ZRD).mono ?_;rintro e W' ⟨rfl,hb⟩;replace K:=K.keep hb;clear r;have r:=K.rawS;clear hb
  go_wp2_with (first|(refine ZAL ?_;clear K r;intro W b K r)|(refine ZST ?_;clear K r;intro W K r))
  refine (HR2.out _ ZRD ZRD).mono ?_;exact ZQ66
 rw [h1] at HR1;rw [h2] at HR2;obtain ⟨⟨S1,T1⟩,F1⟩:=jay h1;obtain ⟨⟨S2,T2⟩,F2⟩:=jay h2;have a1:=jaG F1;have a2:=jaJ F1;have a3:=jaG F2;have a4:=jaJ F2;rw [Bool.true_and];generalize ratF s1 l1 t1 k1=x at *;generalize ratF s2 l2 t2 k2=y at *;by_cases hy:y=0
 ·have hd:(s2==0)=true:=by rw [S2.1,hy];rfl
  have e1:divO true x y=none:=if_pos hy;have e2:divE true x y=15:=if_pos ⟨rfl,hy⟩;rw [e1,e2];clear e1 e2 S1 S2 T1 T2 F1 F2 a1 a2 a3 a4 h1 h2 hy;go_enter Tryz.func129,Tryz.ntmps129
  go_wp2_with (first|(refine ZAL ?_;clear K r;intro W b K r)|(refine ZST ?_;clear K r;intro W K r))
  refine (HR1.out _ ZRD ZRD).mono ?_;rintro e W' ⟨rfl,hb⟩;replace K:=K.keep hb;clear r;have r:=K.rawS;clear hb
  go_wp2_with (first|(refine ZAL ?_;clear K r;intro W b K r)|(refine ZST ?_;clear K r;intro W K r))
  refine (HR2.out _ ZRD ZRD).mono ?_;rintro e W' ⟨rfl,hb⟩;replace K:=K.keep hb;clear r;have r:=K.rawS;clear hb
  go_wp2_with (first|(refine ZAL ?_;clear K r;intro W b K r)|(refine ZST ?_;clear K r;intro W K r))
  exact bodyPost_ret (v:=.tuple #[.agg #[.int .i64 0,.slice none 0 0,.int .i64 0,.slice none 0 0],.int .i64 15]) (by simp [results,Tryz.results129,go_sem,r]) rfl (Hno.out _ _ K.1)
 have hyn:y.num≠0:=fun e=>hy (jg0.2 e)
 have hd:(s2==0)=false:=by
  rcases S2.signs with ⟨-,-,h⟩|⟨-,h,-⟩|⟨-,h,-⟩
  ·exact absurd h hyn
  ·simp [h]
  ·simp [h]
 have e1:divO true x y=binO true (divK x y) (x / y):=if_neg hy;have e2:divE true x y=binE true (divK x y):=if_neg (fun h=>hy h.2);rw [e1,e2];have hb0:(x.den:Int)*y.num≠0:=Int.mul_ne_zero (Int.ne_of_gt (jbY x)) hyn;have HB:=jmT (jmG (a:=x.num*y.den) hb0 (jgg x y));have HM1:=jmT (fun W hl hm=>uMul x.num y.den s1 A1 n1 c1 l1 t2 B2 m2 d2 k2 W hl hm S1 T2 a1 a4);have HM:=jmT (fun W hl hm=>uMul x.den y.num t1 B1 m1 d1 k1 s2 A2 n2 c2 l2 W hl hm T1 S2 a2 a3);have V1:=jaQ true (x.num*y.den);have V2:=jaQ true ((x.den:Int)*y.num);have hK:divK x y=(fits (x.num*y.den)&&fits ((x.den:Int)*y.num)):=rfl;rw [←hK] at HB;generalize errZ true (x.num*y.den)=E1 at *;generalize resZ true (x.num*y.den)=Z1 at *;generalize errZ true ((x.den:Int)*y.num)=E2 at *;generalize resZ true ((x.den:Int)*y.num)=Z2 at *;generalize binO true (divK x y) (x / y)=O at *;generalize binE true (divK x y)=E at *
 clear e1 e2 hK hb0 S1 S2 T1 T2 F1 F2 a1 a2 a3 a4 h1 h2 hy hyn;cases hd1:(E1 !=0) <;> cases hd2:(E2 !=0)
 ·obtain ⟨z1,z2⟩:=HB.out false (by simp [hd1,hd2]);have HQ:=jmT (fun s A n cap l t A' n' cap' m W hl hm e1 e2=>(jaN false Z1 Z2 s A n cap l t A' n' cap' m W hl hm e1 e2 V1 V2));exact ZQ5
 ·obtain ⟨z1,z2⟩:=HB.out true (by simp [hd1,hd2]);have HQ:=jmT (fun s A n cap l t A' n' cap' m W hl hm e1 e2=>(jaN true Z1 Z2 s A n cap l t A' n' cap' m W hl hm e1 e2 V1 V2));exact ZQ5
 ·obtain ⟨z1,z2⟩:=HB.out true (by simp [hd1,hd2]);have HQ:=jmT (fun s A n cap l t A' n' cap' m W hl hm e1 e2=>(jaN true Z1 Z2 s A n cap l t A' n' cap' m W hl hm e1 e2 V1 V2));exact ZQ5
 ·obtain ⟨z1,z2⟩:=HB.out true (by simp [hd1,hd2]);have HQ:=jmT (fun s A n cap l t A' n' cap' m W hl hm e1 e2=>(jaN true Z1 Z2 s A n cap l t A' n' cap' m W hl hm e1 e2 V1 V2));exact ZQ5
end Go.Proofs.YtdlcglndhhndpaaGreat
