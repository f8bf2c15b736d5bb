/- Laws and walks; conditions stand in each theorem. -/
import Derived.Deep.CutRange
import Derived.Deep.CutBlock
import Derived.Test.YtdlcglndhhndpaaGreatP06
set_option linter.unusedSimpArgs false
set_option linter.unusedVariables false
set_option maxHeartbeats 2000000
set_option maxRecDepth 100000
namespace Go.Proofs.YtdlcglndhhndpaaGreat
open Go.RowKit
def oneB (s:Int) (l:List Int):Bool:=jag s l&&decide (bval s l=1)
theorem jkB (s:Int) (A:Option Addr) (n cap:Nat) (l:List Int) (w:World) (hl:RdI w w.heap.size A n cap l) :
 Calls Tryz.prog 99 #[.agg #[.int .i64 s,.slice A n cap]] w fun e w'=>e=.returned (.bool (oneB s l))∧Below w.heap.size w w':=by
 have K:=(St.start w).oldRd hl;have r:=K.raw;have HI:=jmT (jj3 s A n cap l)
 have HV:intC s l=true∧intV s l=1↔oneB s l=true:=by
  unfold oneB intV intC;simp only [Bool.and_eq_true,decide_eq_true_eq];by_cases h:jag s l=true
  ·by_cases h2: -9223372036854775808≤bval s l∧bval s l≤9223372036854775807
   ·rw [if_pos ⟨h,h2⟩];simp [h,h2]
   ·rw [if_neg (fun h3=>h2 h3.2)];simp;omega
  ·simp [h]
 cases hc:intC s l
 ·have HO:=jmT (show oneB s l=false from by
   cases h:oneB s l
   ·rfl
   ·rw [hc] at HV;exact absurd (HV.2 h).1 Zb0)
  rw [hc] at HI;clear HV hc;exact ZQ81
 ·rw [hc] at HI
  have hd:(intV s l==1)=decide (intV s l=1):=by
   by_cases h:intV s l=1 <;> simp [h]
  have HO:=jmT (show oneB s l=(intV s l==1) from by
   rw [hd];by_cases h:intV s l=1
   ·rw [decide_eq_true h];exact HV.1 ⟨hc,h⟩
   ·rw [decide_eq_false h];cases h2:oneB s l
    ·rfl
    ·exact absurd (HV.2 h2).2 h)
  clear HV hc hd;generalize intV s l=V at *;exact ZQ81
theorem jkP {s:Int} {l:List Int} {z:Int} (h:Std s l z) (hf:fits z=true):oneB s l=decide (z=1):=by
 unfold oneB;rw [h.right hf,h.val,Bool.true_and]
theorem jcN {x y:Int} (hy:y≠0) (h:fits y=true):fits (Int.gcd x y:Int)=true:=jdw h (by
 have:Int.gcd x y≤y.natAbs:=Nat.gcd_le_right _ ZO
 omega)
theorem ja3 (s t:Int) (A A':Option Addr) (n cap n' cap':Nat) (l m:List Int) (w:World) (hl:RdI w w.heap.size A n cap l) (hm:RdI w w.heap.size A' n' cap' m) :
 Calls Tryz.prog 45 #[.agg #[.int .i64 s,.slice A n cap,.int .i64 t,.slice A' n' cap']] w fun e w'=>e=.returned (.bool (jap s l t m))∧Below w.heap.size w w':=by
 have K:=((St.start w).oldRd hl).oldRd hm;have r:=K.raw;have HR1:=jmT (fun W h=>jaK s A n cap l W h);have HR2:=jmT (fun W h=>jaK t A' n' cap' m W h)
 have hF:¬(jag s l=true∧jag t m=true∧t=1)→jap s l t m=false:=fun h=>by
  cases hr:jap s l t m
  ·rfl
  ·obtain ⟨h1,h2,h3,-⟩:=jcW.1 hr;exact absurd ⟨h1,h2,h3⟩ h
 cases h1:jag s l
 ·rw [hF (by simp [h1])];rw [h1] at HR1;clear hF h1;go_enter Tryz.func45,Tryz.ntmps45
  go_wp2_with (first|(refine ZAL ?_;clear K r;intro W b K r)|(refine ZST ?_;clear K r;intro W K r))
  refine (HR1.out _ ZRD).mono ?_;exact ZQ28
 cases h2:jag t m
 ·rw [hF (by simp [h2])];rw [h1] at HR1;rw [h2] at HR2;clear hF h1 h2;go_enter Tryz.func45,Tryz.ntmps45
  go_wp2_with (first|(refine ZAL ?_;clear K r;intro W b K r)|(refine ZST ?_;clear K r;intro W K r))
  refine (HR1.out _ ZRD).mono ?_;rintro e W' ⟨rfl,hb⟩;replace K:=K.keep hb;clear r;have r:=K.rawS;clear hb
  go_wp2_with (first|(refine ZAL ?_;clear K r;intro W b K r)|(refine ZST ?_;clear K r;intro W K r))
  refine (HR2.out _ ZRD).mono ?_;exact ZQ28
 rw [h1] at HR1;rw [h2] at HR2;by_cases ht:t=1
 case neg =>
  have hd:(t !=1)=true:=by simp [ht]
  rw [hF (fun h=>ht h.2.2)];clear hF h1 h2 ht;go_enter Tryz.func45,Tryz.ntmps45
  go_wp2_with (first|(refine ZAL ?_;clear K r;intro W b K r)|(refine ZST ?_;clear K r;intro W K r))
  refine (HR1.out _ ZRD).mono ?_;rintro e W' ⟨rfl,hb⟩;replace K:=K.keep hb;clear r;have r:=K.rawS;clear hb
  go_wp2_with (first|(refine ZAL ?_;clear K r;intro W b K r)|(refine ZST ?_;clear K r;intro W K r))
  refine (HR2.out _ ZRD).mono ?_;exact ZQ28
 have hd:(t !=1)=false:=by simp [ht]
 have hp:=jdA h2 ht;have HG:=jmT (jgx s t A A' n cap n' cap' l m);have hG:gcdZ (jag s l&&jag t m) (bval s l) (bval t m)=(Int.gcd (bval s l) (bval t m):Int):=by rw [h1,h2];unfold gcdZ;simp
 have hE:okE (jag s l&&jag t m)=0:=by rw [h1,h2];rfl
 rw [hG,hE] at HG
 have HO:=jmT (fun s' l' (h:Std s' l' (Int.gcd (bval s l) (bval t m):Int))=>(show oneB s' l'=jap s l t m from by
  rw [jkP h (jcN ZO (jaS h2))];unfold jap;rw [h1,h2,decide_eq_true ht];simp only [Bool.true_and]
  exact decide_eq_decide.2 ZO))
 generalize jap s l t m=RF at *;generalize (Int.gcd (bval s l) (bval t m):Int)=G at *;clear hF h1 h2 ht hp hG hE;go_enter Tryz.func45,Tryz.ntmps45
 go_wp2_with (first|(refine ZAL ?_;clear K r;intro W b K r)|(refine ZST ?_;clear K r;intro W K r))
 refine (HR1.out _ ZRD).mono ?_;rintro e W' ⟨rfl,hb⟩;replace K:=K.keep hb;clear r;have r:=K.rawS;clear hb
 go_wp2_with (first|(refine ZAL ?_;clear K r;intro W b K r)|(refine ZST ?_;clear K r;intro W K r))
 refine (HR2.out _ ZRD).mono ?_;rintro e W' ⟨rfl,hb⟩;replace K:=K.keep hb;clear r;have r:=K.rawS;clear hb
 go_wp2_with (first|(refine ZAL ?_;clear K r;intro W b K r)|(refine ZST ?_;clear K r;intro W K r))
 refine (HG.out _ ZRD ZRD).mono ?_;rintro e W' ⟨s1,A1,n1,c1,l1,rfl,hr,hs,hf,hb⟩;replace K:=K.ret hb hr hf;clear r;have r:=K.rawS;have HO1:=jmT (HO.out _ _ hs);clear hr hs hf hb
 go_wp2_with (first|(refine ZAL ?_;clear K r;intro W b K r)|(refine ZST ?_;clear K r;intro W K r))
 refine (jkB _ _ _ _ _ _ ZRD).mono ?_;rintro e W' ⟨rfl,hb⟩;replace K:=K.keep hb;clear r;have r:=K.rawS;clear hb
 go_wp2
 go_ret;exact ⟨by rw [←HO1.out];rfl,K.1⟩
section
variable (x y:Int) (s:Int) (A:Option Addr) (n cap:Nat) (l:List Int) (t:Int) (A':Option Addr) (n' cap':Nat) (m:List Int) (W:World)
variable (hl:RdI W W.heap.size A n cap l) (hm:RdI W W.heap.size A' n' cap' m) (h1:Std s l x) (h2:Std t m y) (f1:fits x=true) (f2:fits y=true)
include hl hm h1 h2 f1 f2
theorem vGcd:Calls Tryz.prog 98 #[.agg #[.int .i64 s,.slice A n cap],.agg #[.int .i64 t,.slice A' n' cap']] W (BigE W (Int.gcd x y:Int) 0):=by
 have h:=jgx s t A A' n cap n' cap' l m W hl hm;exact ZQ112
theorem vDiv (hy:y≠0):Calls Tryz.prog 109 #[.agg #[.int .i64 s,.slice A n cap],.agg #[.int .i64 t,.slice A' n' cap']] W (jcc W (fq x y) (fr x y) 0):=by
 have h:=jj2 s t A A' n cap n' cap' l m W hl hm;exact ZQ102
theorem vMul:Calls Tryz.prog 106 #[.agg #[.int .i64 s,.slice A n cap],.agg #[.int .i64 t,.slice A' n' cap']] W (BigE W (resZ true (x*y)) (errZ true (x*y))):=by
 have h:=jj4 s t A A' n cap n' cap' l m W hl hm;exact jhw
theorem vAdd:Calls Tryz.prog 144 #[.agg #[.int .i64 s,.slice A n cap],.agg #[.int .i64 t,.slice A' n' cap']] W (BigE W (resZ true (x+y)) (errZ true (x+y))):=by
 have h:=jj1 s t A A' n cap n' cap' l m W hl hm;exact jhw
theorem jk2:Calls Tryz.prog 110 #[.agg #[.int .i64 s,.slice A n cap],.agg #[.int .i64 t,.slice A' n' cap']] W fun e w'=>e=.returned (.int .i64 (cmpI x y))∧Below W.heap.size W w':=by
 have h:=jfs s t A A' n cap n' cap' l m W hl hm;exact ZQ148
end
theorem vNeg (x:Int) (s:Int) (A:Option Addr) (n cap:Nat) (l:List Int) (W:World) (hl:RdI W W.heap.size A n cap l) (h1:Std s l x) (f1:fits x=true):Calls Tryz.prog 93 #[.agg #[.int .i64 s,.slice A n cap]] W (BigR W (-x)):=by
 have h:=jj9 s A n cap l W hl
 have e:negZ s l= -x:=by
  unfold negZ;rw [if_pos (h1.right f1),h1.val]
 rw [e] at h;exact h
theorem jev (x y:Int):Rat.divInt (-x) (-y)=Rat.divInt x y:=Rat.neg_divInt_neg x y
theorem jky (s t:Int) (A A':Option Addr) (n cap n' cap':Nat) (l m:List Int) (w:World) (hl:RdI w w.heap.size A n cap l) (hm:RdI w w.heap.size A' n' cap' m) :
 Calls Tryz.prog 90 #[.agg #[.int .i64 s,.slice A n cap],.agg #[.int .i64 t,.slice A' n' cap']] w (FrE w (newO (jag s l&&jag t m) (bval s l) (bval t m)) (newE (jag s l&&jag t m) (bval t m))):=by
 have K:=((St.start w).oldRd hl).oldRd hm;have r:=K.raw;have HR1:=jmT (fun W h=>jaK s A n cap l W h);have HR2:=jmT (fun W h=>jaK t A' n' cap' m W h);have Hno:=jmT (fun W (c:Int) (h:Below w.heap.size w W)=>(⟨0,none,0,0,[],0,none,0,0,[],rfl,⟨Rd.nil,Rd.nil⟩,⟨rfl,rfl,rfl,rfl⟩,⟨FrA.none,FrA.none⟩,h⟩:FrE w none c (.returned (.tuple #[.agg #[.int .i64 0,.slice none 0 0,.int .i64 0,.slice none 0 0],.int .i64 c])) W));cases h1:jag s l
 ·rw [h1] at HR1;rw [Bool.false_and,jfc,jfb];clear h1;go_enter Tryz.func90,Tryz.ntmps90
  go_wp2_with (first|(refine ZAL ?_;clear K r;(first|((fail_if_success revert b0);intro W b0 K r)|((fail_if_success revert b1);intro W b1 K r)|((fail_if_success revert b2);intro W b2 K r)|intro W b K r))|(refine ZST ?_;clear K r;intro W K r))
  refine (HR1.out _ ZRD).mono ?_;exact ZQ51
 cases h2:jag t m
 ·rw [h1] at HR1;rw [h2] at HR2;rw [Bool.true_and,jfc,jfb];clear h1 h2;go_enter Tryz.func90,Tryz.ntmps90
  go_wp2_with (first|(refine ZAL ?_;clear K r;(first|((fail_if_success revert b0);intro W b0 K r)|((fail_if_success revert b1);intro W b1 K r)|((fail_if_success revert b2);intro W b2 K r)|intro W b K r))|(refine ZST ?_;clear K r;intro W K r))
  refine (HR1.out _ ZRD).mono ?_;rintro e W' ⟨rfl,hb⟩;replace K:=K.keep hb;clear r;have r:=K.rawS;clear hb
  go_wp2_with (first|(refine ZAL ?_;clear K r;(first|((fail_if_success revert b0);intro W b0 K r)|((fail_if_success revert b1);intro W b1 K r)|((fail_if_success revert b2);intro W b2 K r)|intro W b K r))|(refine ZST ?_;clear K r;intro W K r))
  refine (HR2.out _ ZRD).mono ?_;exact ZQ51
 rw [h1] at HR1;rw [h2] at HR2;rw [Bool.true_and];obtain ⟨x,hx⟩:∃x,x=bval s l:=⟨_,rfl⟩;obtain ⟨y,hy⟩:∃y,y=bval t m:=⟨_,rfl⟩;have S1:Std s l x:=by rw [hx];exact Std.of_right h1
 have S2:Std t m y:=by rw [hy];exact Std.of_right h2
 have F1:fits x=true:=by rw [hx];exact jaS h1
 have F2:fits y=true:=by rw [hy];exact jaS h2
 rw [←hx,←hy];clear hx hy h1 h2;rcases S2.signs with ⟨-,ht,hy0⟩|⟨-,ht,hy0⟩|⟨-,ht,hy0⟩
 ·have hd:(t==0)=true:=by simp [ht]
  rw [hy0,jfN,jfM];clear S1 S2 F1 F2 ht hy0;go_enter Tryz.func90,Tryz.ntmps90
  go_wp2_with (first|(refine ZAL ?_;clear K r;(first|((fail_if_success revert b0);intro W b0 K r)|((fail_if_success revert b1);intro W b1 K r)|((fail_if_success revert b2);intro W b2 K r)|intro W b K r))|(refine ZST ?_;clear K r;intro W K r))
  refine (HR1.out _ ZRD).mono ?_;rintro e W' ⟨rfl,hb⟩;replace K:=K.keep hb;clear r;have r:=K.rawS;clear hb
  go_wp2_with (first|(refine ZAL ?_;clear K r;(first|((fail_if_success revert b0);intro W b0 K r)|((fail_if_success revert b1);intro W b1 K r)|((fail_if_success revert b2);intro W b2 K r)|intro W b K r))|(refine ZST ?_;clear K r;intro W K r))
  refine (HR2.out _ ZRD).mono ?_;rintro e W' ⟨rfl,hb⟩;replace K:=K.keep hb;clear r;have r:=K.rawS;clear hb
  go_wp2_with (first|(refine ZAL ?_;clear K r;(first|((fail_if_success revert b0);intro W b0 K r)|((fail_if_success revert b1);intro W b1 K r)|((fail_if_success revert b2);intro W b2 K r)|intro W b K r))|(refine ZST ?_;clear K r;intro W K r))
  exact bodyPost_ret (v:=.tuple #[.agg #[.int .i64 0,.slice none 0 0,.int .i64 0,.slice none 0 0],.int .i64 15]) (by simp [results,Tryz.results90,go_sem,r]) rfl (Hno.out _ _ K.1)
 ·have hd:(t==0)=false:=by simp [ht]
  have hd2:decide (t<0)=false:=decide_eq_false ZO;have hg:(0:Int)<(Int.gcd x y:Int):=by have:=Int.gcd_pos_of_ne_zero_right x (show y≠0 by omega);omega
  have F3:=jcN (x:=x) (show y≠0 by omega) F2;obtain ⟨g1,g2⟩:=je4 (x:=x) hy0;have HGc:=jmT (fun s A n cap l t A' n' cap' m W hl hm h1 h2=>vGcd x y s A n cap l t A' n' cap' m W hl hm h1 h2 F1 F2);have HD1:=jmT (fun s A n cap l t A' n' cap' m W hl hm h1 h2=>vDiv x (Int.gcd x y:Int) s A n cap l t A' n' cap' m W hl hm h1 h2 F1 F3 ZO);have HD2:=jmT (fun s A n cap l t A' n' cap' m W hl hm h1 h2=>vDiv y (Int.gcd x y:Int) s A n cap l t A' n' cap' m W hl hm h1 h2 F2 F3 ZO);rw [jbH ZO,jbG ZO]
  have HEnd:=jmT (fun s A n cap l t A' n' cap' m W (r1:RdI W W.heap.size A n cap l) (r2:RdI W W.heap.size A' n' cap' m) (e1:Std s l (fq x (Int.gcd x y:Int))) (e2:Std t m (fq y (Int.gcd x y:Int))) (a1:FrA w.heap.size A) (a2:FrA w.heap.size A') (hb:Below w.heap.size w W)=>(⟨s,A,n,cap,l,t,A',n',cap',m,rfl,⟨r1,r2⟩,⟨by rw [←g1];exact e1,by rw [←g2];exact e2⟩,⟨a1,a2⟩,hb⟩:FrE w (some (Rat.divInt x y)) 0 (.returned (.tuple #[.agg #[.int .i64 s,.slice A n cap,.int .i64 t,.slice A' n' cap'],.int .i64 0])) W));have hs1:=S1;have hs2:=S2;clear S1 S2 F1 F2 F3 ht hy0 hg g1 g2;go_enter Tryz.func90,Tryz.ntmps90
  go_wp2_with (first|(refine ZAL ?_;clear K r;(first|((fail_if_success revert b0);intro W b0 K r)|((fail_if_success revert b1);intro W b1 K r)|((fail_if_success revert b2);intro W b2 K r)|intro W b K r))|(refine ZST ?_;clear K r;intro W K r))
  refine (HR1.out _ ZRD).mono ?_;rintro e W' ⟨rfl,hb⟩;replace K:=K.keep hb;clear r;have r:=K.rawS;clear hb
  go_wp2_with (first|(refine ZAL ?_;clear K r;(first|((fail_if_success revert b0);intro W b0 K r)|((fail_if_success revert b1);intro W b1 K r)|((fail_if_success revert b2);intro W b2 K r)|intro W b K r))|(refine ZST ?_;clear K r;intro W K r))
  refine (HR2.out _ ZRD).mono ?_;rintro e W' ⟨rfl,hb⟩;replace K:=K.keep hb;clear r;have r:=K.rawS;clear hb;exact ZQ24
 ·have hd:(t==0)=false:=by simp [ht]
  have hd2:decide (t<0)=true:=decide_eq_true ZO;have hy1:0< -y:=by omega
  have hg:(0:Int)<(Int.gcd (-x) (-y):Int):=by have:=Int.gcd_pos_of_ne_zero_right (-x) (show -y≠0 by omega);omega
  have F1':=jbp F1;have F2':=jbp F2;have F3:=jcN (x:= -x) (show -y≠0 by omega) F2';obtain ⟨g1,g2⟩:=je4 (x:= -x) hy1;rw [jev] at g1 g2;have HN1:=jmT (fun W hl=>vNeg x s A n cap l W hl S1 F1);have HN2:=jmT (fun W hl=>vNeg y t A' n' cap' m W hl S2 F2);have HGc:=jmT (fun s A n cap l t A' n' cap' m W hl hm h1 h2=>vGcd (-x) (-y) s A n cap l t A' n' cap' m W hl hm h1 h2 F1' F2');have HD1:=jmT (fun s A n cap l t A' n' cap' m W hl hm h1 h2=>vDiv (-x) (Int.gcd (-x) (-y):Int) s A n cap l t A' n' cap' m W hl hm h1 h2 F1' F3 ZO);have HD2:=jmT (fun s A n cap l t A' n' cap' m W hl hm h1 h2=>vDiv (-y) (Int.gcd (-x) (-y):Int) s A n cap l t A' n' cap' m W hl hm h1 h2 F2' F3 ZO);rw [jbH ZO,jbG ZO]
  have HEnd:=jmT (fun s A n cap l t A' n' cap' m W (r1:RdI W W.heap.size A n cap l) (r2:RdI W W.heap.size A' n' cap' m) (e1:Std s l (fq (-x) (Int.gcd (-x) (-y):Int))) (e2:Std t m (fq (-y) (Int.gcd (-x) (-y):Int))) (a1:FrA w.heap.size A) (a2:FrA w.heap.size A') (hb:Below w.heap.size w W)=>(⟨s,A,n,cap,l,t,A',n',cap',m,rfl,⟨r1,r2⟩,⟨by rw [←g1];exact e1,by rw [←g2];exact e2⟩,⟨a1,a2⟩,hb⟩:FrE w (some (Rat.divInt x y)) 0 (.returned (.tuple #[.agg #[.int .i64 s,.slice A n cap,.int .i64 t,.slice A' n' cap'],.int .i64 0])) W));clear S1 S2 F1 F2 F3 F1' F2' ht hy0 hy1 hg g1 g2;go_enter Tryz.func90,Tryz.ntmps90
  go_upto_block 0 with (first|(refine ZAL ?_;clear K r;(first|((fail_if_success revert b0);intro W b0 K r)|((fail_if_success revert b1);intro W b1 K r)|((fail_if_success revert b2);intro W b2 K r)|intro W b K r))|(refine ZST ?_;clear K r;intro W K r))
  go_cut [] from 14 to 36 (fun wx=>∃s1 A1 n1 c1 l1 s2 A2 n2 c2 l2 D,St w [(b2,#[.int .i64 0,.slice none 0 0,.int .i64 0,.slice none 0 0],50),(b1,#[.int .i64 s2,.slice A2 n2 c2],48),(b0,#[.int .i64 s1,.slice A1 n1 c1],48)] (⟨rdP A2 n2 c2 l2,rdS A2 n2⟩::⟨rdP A1 n1 c1 l1,rdS A1 n1⟩::D) wx∧Std s1 l1 (-x)∧Std s2 l2 (-y))
  case first =>
   go_wp2_with (first|(refine ZAL ?_;clear K r;(first|((fail_if_success revert b0);intro W b0 K r)|((fail_if_success revert b1);intro W b1 K r)|((fail_if_success revert b2);intro W b2 K r)|intro W b K r))|(refine ZST ?_;clear K r;intro W K r))
   refine (HR1.out _ ZRD).mono ?_;rintro e W' ⟨rfl,hb⟩;replace K:=K.keep hb;clear r;have r:=K.rawS;clear hb
   go_wp2_with (first|(refine ZAL ?_;clear K r;(first|((fail_if_success revert b0);intro W b0 K r)|((fail_if_success revert b1);intro W b1 K r)|((fail_if_success revert b2);intro W b2 K r)|intro W b K r))|(refine ZST ?_;clear K r;intro W K r))
   refine (HR2.out _ ZRD).mono ?_;rintro e W' ⟨rfl,hb⟩;replace K:=K.keep hb;clear r;have r:=K.rawS;clear hb;go_upto_region 6 with fail;have Kd:=K.drew;have z:=K.rawz;simp only [RawZ,and_true] at z;have hne:=K.rawn;simp only [RawN,List.mem_cons,List.not_mem_nil,or_false,forall_eq_or_imp,forall_eq,and_true,false_imp_iff,implies_true] at hne
   go_region_with (first
    | (go_at_call 93;(with_reducible refine (HN1.out _ (by first | exact K.rd ZMB | exact Kd.rd ZMB)).mono ?_);rintro e W ⟨s1,A1,n1,c1,l1,rfl,hr,hs1,hf,hb⟩;(first | (replace K:=K.ret hb hr hf) | (replace K:=Kd.ret hb hr hf));clear r z hr hf hb;have r:=K.raw;have z:=K.rawz;simp only [Raw,RawC,RawZ,and_true,true_and,Nat.zero_add,Nat.reduceAdd] at r z)
    | (go_at_call 93;(with_reducible refine (HN2.out _ (by first | exact K.rd ZMB | exact Kd.rd ZMB)).mono ?_);rintro e W ⟨s2,A2,n2,c2,l2,rfl,hr,hs2,hf,hb⟩;(first | (replace K:=K.ret hb hr hf) | (replace K:=Kd.ret hb hr hf));clear r z hr hf hb;have r:=K.raw;have z:=K.rawz;simp only [Raw,RawC,RawZ,and_true,true_and,Nat.zero_add,Nat.reduceAdd] at r z))
   all_goals
    replace K:=(K.set2 (u:=.int .i64 s1) (v:=.slice A1 n1 c1) (b:=b0) ZUP).set2 (u:=.int .i64 s2) (v:=.slice A2 n2 c2) (b:=b1) ZUP;clear r z hne Kd;go_wp2_with fail;go_meet;exact ⟨s1,A1,n1,c1,l1,s2,A2,n2,c2,l2,_,K,hs1,hs2⟩
  case rest =>
   obtain ⟨s1,A1,n1,c1,l1,s2,A2,n2,c2,l2,D,K,hs1,hs2⟩:=hcut;have r:=K.rawS;exact ZQ24
end Go.Proofs.YtdlcglndhhndpaaGreat
