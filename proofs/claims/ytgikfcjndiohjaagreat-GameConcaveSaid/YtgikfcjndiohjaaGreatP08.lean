/- Laws and walks; conditions stand in each theorem. -/
import Derived.Deep.CutRange
import Derived.Deep.CutBlock
import Derived.Test.YtgikfcjndiohjaaGreatP05
set_option linter.unusedSimpArgs false
set_option linter.unusedVariables false
set_option maxHeartbeats 2000000
set_option maxRecDepth 100000
namespace Go.Proofs.YtgikfcjndiohjaaGreat
open Go.RowKit
def oneB (s:Int) (l:List Int):Bool:=jae s l&&decide (bval s l=1)
theorem jmj (s:Int) (A:Option Addr) (n cap:Nat) (l:List Int) (w:World) (hl:RdI w w.heap.size A n cap l) :
 Calls Tryz.prog 90 #[.agg #[.int .i64 s,.slice A n cap]] w fun e w'=>e=.returned (.bool (oneB s l))∧Below w.heap.size w w':=by
 have K:=(St.start w).oldRd hl
 have r:=K.raw
 have HI:=jpk (jkK s A n cap l)
 have HV:intC s l=true∧intV s l=1↔oneB s l=true:=by
  unfold oneB intV intC
  simp only [Bool.and_eq_true,decide_eq_true_eq]
  by_cases h:jae s l=true
  ·by_cases h2: -9223372036854775808≤bval s l∧bval s l≤9223372036854775807
   ·rw [if_pos ⟨h,h2⟩];simp [h,h2]
   ·rw [if_neg (fun h3=>h2 h3.2)];simp;omega
  ·simp [h]
 cases hc:intC s l
 ·have HO:=jpk (show oneB s l=false from by
   cases h:oneB s l
   ·rfl
   ·rw [hc] at HV;exact absurd (HV.2 h).1 Zb0)
  rw [hc] at HI
  clear HV hc
  exact ZQ68
 ·rw [hc] at HI
  have hd:(intV s l==1)=decide (intV s l=1):=by
   by_cases h:intV s l=1 <;> simp [h]
  have HO:=jpk (show oneB s l=(intV s l==1) from by
   rw [hd]
   by_cases h:intV s l=1
   ·rw [decide_eq_true h];exact HV.1 ⟨hc,h⟩
   ·rw [decide_eq_false h]
    cases h2:oneB s l
    ·rfl
    ·exact absurd (HV.2 h2).2 h)
  clear HV hc hd
  generalize intV s l=V at *
  exact ZQ68
theorem jmH {s:Int} {l:List Int} {z:Int} (h:Std s l z) (hf:fits z=true):oneB s l=decide (z=1):=by
 unfold oneB
 rw [h.right hf,h.val,Bool.true_and]
theorem jcG {x y:Int} (hy:y≠0) (h:fits y=true):fits (Int.gcd x y:Int)=true:=jdq h (by
 have:Int.gcd x y≤y.natAbs:=Nat.gcd_le_right _ ZO
 omega)
theorem jaT (s t:Int) (A A':Option Addr) (n cap n' cap':Nat) (l m:List Int) (w:World) (hl:RdI w w.heap.size A n cap l) (hm:RdI w w.heap.size A' n' cap' m) :
 Calls Tryz.prog 51 #[.agg #[.int .i64 s,.slice A n cap,.int .i64 t,.slice A' n' cap']] w fun e w'=>e=.returned (.bool (jam s l t m))∧Below w.heap.size w w':=by
 have K:=((St.start w).oldRd hl).oldRd hm
 have r:=K.raw
 have HR1:=jpk (fun W h=>jaE s A n cap l W h)
 have HR2:=jpk (fun W h=>jaE t A' n' cap' m W h)
 have hF:¬(jae s l=true∧jae t m=true∧t=1)→jam s l t m=false:=fun h=>by
  cases hr:jam s l t m
  ·rfl
  ·obtain ⟨h1,h2,h3,-⟩:=jcQ.1 hr
   exact absurd ⟨h1,h2,h3⟩ h
 cases h1:jae s l
 ·rw [hF (by simp [h1])]
  rw [h1] at HR1
  clear hF h1
  go_enter Tryz.func51,Tryz.ntmps51
  go_wp2_with (first|(refine ZAL ?_;clear K r;intro W b K r)|(refine ZST ?_;clear K r;intro W K r))
  refine (HR1.out _ ZRD).mono ?_
  exact ZQ21
 cases h2:jae t m
 ·rw [hF (by simp [h2])]
  rw [h1] at HR1
  rw [h2] at HR2
  clear hF h1 h2
  go_enter Tryz.func51,Tryz.ntmps51
  go_wp2_with (first|(refine ZAL ?_;clear K r;intro W b K r)|(refine ZST ?_;clear K r;intro W K r))
  refine (HR1.out _ ZRD).mono ?_
  rintro e W' ⟨rfl,hb⟩
  replace K:=K.keep hb
  clear r
  have r:=K.rawS
  clear hb
  go_wp2_with (first|(refine ZAL ?_;clear K r;intro W b K r)|(refine ZST ?_;clear K r;intro W K r))
  refine (HR2.out _ ZRD).mono ?_
  exact ZQ21
 rw [h1] at HR1
 rw [h2] at HR2
 by_cases ht:t=1
 case neg =>
  have hd:(t !=1)=true:=by simp [ht]
  rw [hF (fun h=>ht h.2.2)]
  clear hF h1 h2 ht
  go_enter Tryz.func51,Tryz.ntmps51
  go_wp2_with (first|(refine ZAL ?_;clear K r;intro W b K r)|(refine ZST ?_;clear K r;intro W K r))
  refine (HR1.out _ ZRD).mono ?_
  rintro e W' ⟨rfl,hb⟩
  replace K:=K.keep hb
  clear r
  have r:=K.rawS
  clear hb
  go_wp2_with (first|(refine ZAL ?_;clear K r;intro W b K r)|(refine ZST ?_;clear K r;intro W K r))
  refine (HR2.out _ ZRD).mono ?_
  exact ZQ21
 have hd:(t !=1)=false:=by simp [ht]
 have hp:=jdy h2 ht
 have HG:=jpk (jgw s t A A' n cap n' cap' l m)
 have hG:gcdZ (jae s l&&jae t m) (bval s l) (bval t m)=(Int.gcd (bval s l) (bval t m):Int):=by rw [h1,h2];unfold gcdZ;simp
 have hE:okE (jae s l&&jae t m)=0:=by rw [h1,h2];rfl
 rw [hG,hE] at HG
 have HO:=jpk (fun s' l' (h:Std s' l' (Int.gcd (bval s l) (bval t m):Int))=>(show oneB s' l'=jam s l t m from by
  rw [jmH h (jcG ZO (jaU h2))]
  unfold jam
  rw [h1,h2,decide_eq_true ht]
  simp only [Bool.true_and]
  exact decide_eq_decide.2 ZO))
 generalize jam s l t m=RF at *
 generalize (Int.gcd (bval s l) (bval t m):Int)=G at *
 clear hF h1 h2 ht hp hG hE
 go_enter Tryz.func51,Tryz.ntmps51
 go_wp2_with (first|(refine ZAL ?_;clear K r;intro W b K r)|(refine ZST ?_;clear K r;intro W K r))
 refine (HR1.out _ ZRD).mono ?_
 rintro e W' ⟨rfl,hb⟩
 replace K:=K.keep hb
 clear r
 have r:=K.rawS
 clear hb
 go_wp2_with (first|(refine ZAL ?_;clear K r;intro W b K r)|(refine ZST ?_;clear K r;intro W K r))
 refine (HR2.out _ ZRD).mono ?_
 rintro e W' ⟨rfl,hb⟩
 replace K:=K.keep hb
 clear r
 have r:=K.rawS
 clear hb
 go_wp2_with (first|(refine ZAL ?_;clear K r;intro W b K r)|(refine ZST ?_;clear K r;intro W K r))
 refine (HG.out _ ZRD ZRD).mono ?_
 rintro e W' ⟨s1,A1,n1,c1,l1,rfl,hr,hs,hf,hb⟩
 replace K:=K.ret hb hr hf
 clear r
 have r:=K.rawS
 have HO1:=jpk (HO.out _ _ hs)
 clear hr hs hf hb
 go_wp2_with (first|(refine ZAL ?_;clear K r;intro W b K r)|(refine ZST ?_;clear K r;intro W K r))
 refine (jmj _ _ _ _ _ _ ZRD).mono ?_
 rintro e W' ⟨rfl,hb⟩
 replace K:=K.keep hb
 clear r
 have r:=K.rawS
 clear hb
 go_wp2
 go_ret
 exact ⟨by rw [←HO1.out];rfl,K.1⟩
section
variable (x y:Int) (s:Int) (A:Option Addr) (n cap:Nat) (l:List Int) (t:Int) (A':Option Addr) (n' cap':Nat) (m:List Int) (W:World)
variable (hl:RdI W W.heap.size A n cap l) (hm:RdI W W.heap.size A' n' cap' m) (h1:Std s l x) (h2:Std t m y) (f1:fits x=true) (f2:fits y=true)
include hl hm h1 h2 f1 f2
theorem vGcd:Calls Tryz.prog 89 #[.agg #[.int .i64 s,.slice A n cap],.agg #[.int .i64 t,.slice A' n' cap']] W (BigE W (Int.gcd x y:Int) 0):=by
 have h:=jgw s t A A' n cap n' cap' l m W hl hm
 exact ZQ96
theorem vDiv (hy:y≠0):Calls Tryz.prog 55 #[.agg #[.int .i64 s,.slice A n cap],.agg #[.int .i64 t,.slice A' n' cap']] W (jb0 W (fq x y) (fr x y) 0):=by
 have h:=jkJ s t A A' n cap n' cap' l m W hl hm
 exact ZQ86
theorem vMul:Calls Tryz.prog 53 #[.agg #[.int .i64 s,.slice A n cap],.agg #[.int .i64 t,.slice A' n' cap']] W (BigE W (resZ true (x*y)) (errZ true (x*y))):=by
 have h:=jkL s t A A' n cap n' cap' l m W hl hm
 exact jkC
theorem vAdd:Calls Tryz.prog 91 #[.agg #[.int .i64 s,.slice A n cap],.agg #[.int .i64 t,.slice A' n' cap']] W (BigE W (resZ true (x+y)) (errZ true (x+y))):=by
 have h:=jkH s t A A' n cap n' cap' l m W hl hm
 exact jkC
theorem jmZ:Calls Tryz.prog 56 #[.agg #[.int .i64 s,.slice A n cap],.agg #[.int .i64 t,.slice A' n' cap']] W fun e w'=>e=.returned (.int .i64 (cmpI x y))∧Below W.heap.size W w':=by
 have h:=jfv s t A A' n cap n' cap' l m W hl hm
 exact ZQ128
end
theorem vNeg (x:Int) (s:Int) (A:Option Addr) (n cap:Nat) (l:List Int) (W:World) (hl:RdI W W.heap.size A n cap l) (h1:Std s l x) (f1:fits x=true):Calls Tryz.prog 66 #[.agg #[.int .i64 s,.slice A n cap]] W (BigR W (-x)):=by
 have h:=jkR s A n cap l W hl
 have e:negZ s l= -x:=by
  unfold negZ
  rw [if_pos (h1.right f1),h1.val]
 rw [e] at h
 exact h
theorem jeu (x y:Int):Rat.divInt (-x) (-y)=Rat.divInt x y:=Rat.neg_divInt_neg x y
theorem jmd (s t:Int) (A A':Option Addr) (n cap n' cap':Nat) (l m:List Int) (w:World) (hl:RdI w w.heap.size A n cap l) (hm:RdI w w.heap.size A' n' cap' m) :
 Calls Tryz.prog 95 #[.agg #[.int .i64 s,.slice A n cap],.agg #[.int .i64 t,.slice A' n' cap']] w (FrE w (newO (jae s l&&jae t m) (bval s l) (bval t m)) (newE (jae s l&&jae t m) (bval t m))):=by
 have K:=((St.start w).oldRd hl).oldRd hm
 have r:=K.raw
 have HR1:=jpk (fun W h=>jaE s A n cap l W h)
 have HR2:=jpk (fun W h=>jaE t A' n' cap' m W h)
 have Hno:=jpk (fun W (c:Int) (h:Below w.heap.size w W)=>(⟨0,none,0,0,[],0,none,0,0,[],rfl,⟨Rd.nil,Rd.nil⟩,⟨rfl,rfl,rfl,rfl⟩,⟨FrA.none,FrA.none⟩,h⟩:FrE w none c (.returned (.tuple #[.agg #[.int .i64 0,.slice none 0 0,.int .i64 0,.slice none 0 0],.int .i64 c])) W))
 cases h1:jae s l
 ·rw [h1] at HR1
  rw [Bool.false_and,jfh,jfg]
  clear h1
  go_enter Tryz.func95,Tryz.ntmps95
  go_wp2_with (first|(refine ZAL ?_;clear K r;(first|((fail_if_success revert b0);intro W b0 K r)|((fail_if_success revert b1);intro W b1 K r)|((fail_if_success revert b2);intro W b2 K r)|intro W b K r))|(refine ZST ?_;clear K r;intro W K r))
  refine (HR1.out _ ZRD).mono ?_
  exact ZQ45
 cases h2:jae t m
 ·rw [h1] at HR1
  rw [h2] at HR2
  rw [Bool.true_and,jfh,jfg]
  clear h1 h2
  go_enter Tryz.func95,Tryz.ntmps95
  go_wp2_with (first|(refine ZAL ?_;clear K r;(first|((fail_if_success revert b0);intro W b0 K r)|((fail_if_success revert b1);intro W b1 K r)|((fail_if_success revert b2);intro W b2 K r)|intro W b K r))|(refine ZST ?_;clear K r;intro W K r))
  refine (HR1.out _ ZRD).mono ?_
  rintro e W' ⟨rfl,hb⟩
  replace K:=K.keep hb
  clear r
  have r:=K.rawS
  clear hb
  go_wp2_with (first|(refine ZAL ?_;clear K r;(first|((fail_if_success revert b0);intro W b0 K r)|((fail_if_success revert b1);intro W b1 K r)|((fail_if_success revert b2);intro W b2 K r)|intro W b K r))|(refine ZST ?_;clear K r;intro W K r))
  refine (HR2.out _ ZRD).mono ?_
  exact ZQ45
 rw [h1] at HR1
 rw [h2] at HR2
 rw [Bool.true_and]
 obtain ⟨x,hx⟩:∃x,x=bval s l:=⟨_,rfl⟩
 obtain ⟨y,hy⟩:∃y,y=bval t m:=⟨_,rfl⟩
 have S1:Std s l x:=by rw [hx];exact Std.of_right h1
 have S2:Std t m y:=by rw [hy];exact Std.of_right h2
 have F1:fits x=true:=by rw [hx];exact jaU h1
 have F2:fits y=true:=by rw [hy];exact jaU h2
 rw [←hx,←hy]
 clear hx hy h1 h2
 rcases S2.signs with ⟨-,ht,hy0⟩|⟨-,ht,hy0⟩|⟨-,ht,hy0⟩
 ·have hd:(t==0)=true:=by simp [ht]
  rw [hy0,jfT,jfS]
  clear S1 S2 F1 F2 ht hy0
  go_enter Tryz.func95,Tryz.ntmps95
  go_wp2_with (first|(refine ZAL ?_;clear K r;(first|((fail_if_success revert b0);intro W b0 K r)|((fail_if_success revert b1);intro W b1 K r)|((fail_if_success revert b2);intro W b2 K r)|intro W b K r))|(refine ZST ?_;clear K r;intro W K r))
  refine (HR1.out _ ZRD).mono ?_
  rintro e W' ⟨rfl,hb⟩
  replace K:=K.keep hb
  clear r
  have r:=K.rawS
  clear hb
  go_wp2_with (first|(refine ZAL ?_;clear K r;(first|((fail_if_success revert b0);intro W b0 K r)|((fail_if_success revert b1);intro W b1 K r)|((fail_if_success revert b2);intro W b2 K r)|intro W b K r))|(refine ZST ?_;clear K r;intro W K r))
  refine (HR2.out _ ZRD).mono ?_
  rintro e W' ⟨rfl,hb⟩
  replace K:=K.keep hb
  clear r
  have r:=K.rawS
  clear hb
  go_wp2_with (first|(refine ZAL ?_;clear K r;(first|((fail_if_success revert b0);intro W b0 K r)|((fail_if_success revert b1);intro W b1 K r)|((fail_if_success revert b2);intro W b2 K r)|intro W b K r))|(refine ZST ?_;clear K r;intro W K r))
  exact bodyPost_ret (v:=.tuple #[.agg #[.int .i64 0,.slice none 0 0,.int .i64 0,.slice none 0 0],.int .i64 15]) (by simp [results,Tryz.results95,go_sem,r]) rfl (Hno.out _ _ K.1)
 ·have hd:(t==0)=false:=by simp [ht]
  have hd2:decide (t<0)=false:=decide_eq_false ZO
  have hg:(0:Int)<(Int.gcd x y:Int):=by have:=Int.gcd_pos_of_ne_zero_right x (show y≠0 by omega);omega
  have F3:=jcG (x:=x) (show y≠0 by omega) F2
  obtain ⟨g1,g2⟩:=je9 (x:=x) hy0
  have HGc:=jpk (fun s A n cap l t A' n' cap' m W hl hm h1 h2=>vGcd x y s A n cap l t A' n' cap' m W hl hm h1 h2 F1 F2)
  have HD1:=jpk (fun s A n cap l t A' n' cap' m W hl hm h1 h2=>vDiv x (Int.gcd x y:Int) s A n cap l t A' n' cap' m W hl hm h1 h2 F1 F3 ZO)
  have HD2:=jpk (fun s A n cap l t A' n' cap' m W hl hm h1 h2=>vDiv y (Int.gcd x y:Int) s A n cap l t A' n' cap' m W hl hm h1 h2 F2 F3 ZO)
  rw [jbk ZO,jbj ZO]
  have HEnd:=jpk (fun s A n cap l t A' n' cap' m W (r1:RdI W W.heap.size A n cap l) (r2:RdI W W.heap.size A' n' cap' m) (e1:Std s l (fq x (Int.gcd x y:Int))) (e2:Std t m (fq y (Int.gcd x y:Int))) (a1:FrA w.heap.size A) (a2:FrA w.heap.size A') (hb:Below w.heap.size w W)=>(⟨s,A,n,cap,l,t,A',n',cap',m,rfl,⟨r1,r2⟩,⟨by rw [←g1];exact e1,by rw [←g2];exact e2⟩,⟨a1,a2⟩,hb⟩:FrE w (some (Rat.divInt x y)) 0 (.returned (.tuple #[.agg #[.int .i64 s,.slice A n cap,.int .i64 t,.slice A' n' cap'],.int .i64 0])) W))
  have hs1:=S1;have hs2:=S2
  clear S1 S2 F1 F2 F3 ht hy0 hg g1 g2
  go_enter Tryz.func95,Tryz.ntmps95
  go_wp2_with (first|(refine ZAL ?_;clear K r;(first|((fail_if_success revert b0);intro W b0 K r)|((fail_if_success revert b1);intro W b1 K r)|((fail_if_success revert b2);intro W b2 K r)|intro W b K r))|(refine ZST ?_;clear K r;intro W K r))
  refine (HR1.out _ ZRD).mono ?_
  rintro e W' ⟨rfl,hb⟩
  replace K:=K.keep hb
  clear r
  have r:=K.rawS
  clear hb
  go_wp2_with (first|(refine ZAL ?_;clear K r;(first|((fail_if_success revert b0);intro W b0 K r)|((fail_if_success revert b1);intro W b1 K r)|((fail_if_success revert b2);intro W b2 K r)|intro W b K r))|(refine ZST ?_;clear K r;intro W K r))
  refine (HR2.out _ ZRD).mono ?_
  rintro e W' ⟨rfl,hb⟩
  replace K:=K.keep hb
  clear r
  have r:=K.rawS
  clear hb
  exact ZQ19
 ·have hd:(t==0)=false:=by simp [ht]
  have hd2:decide (t<0)=true:=decide_eq_true ZO
  have hy1:0< -y:=by omega
  have hg:(0:Int)<(Int.gcd (-x) (-y):Int):=by have:=Int.gcd_pos_of_ne_zero_right (-x) (show -y≠0 by omega);omega
  have F1':=jbV F1
  have F2':=jbV F2
  have F3:=jcG (x:= -x) (show -y≠0 by omega) F2'
  obtain ⟨g1,g2⟩:=je9 (x:= -x) hy1
  rw [jeu] at g1 g2
  have HN1:=jpk (fun W hl=>vNeg x s A n cap l W hl S1 F1)
  have HN2:=jpk (fun W hl=>vNeg y t A' n' cap' m W hl S2 F2)
  have HGc:=jpk (fun s A n cap l t A' n' cap' m W hl hm h1 h2=>vGcd (-x) (-y) s A n cap l t A' n' cap' m W hl hm h1 h2 F1' F2')
  have HD1:=jpk (fun s A n cap l t A' n' cap' m W hl hm h1 h2=>vDiv (-x) (Int.gcd (-x) (-y):Int) s A n cap l t A' n' cap' m W hl hm h1 h2 F1' F3 ZO)
  have HD2:=jpk (fun s A n cap l t A' n' cap' m W hl hm h1 h2=>vDiv (-y) (Int.gcd (-x) (-y):Int) s A n cap l t A' n' cap' m W hl hm h1 h2 F2' F3 ZO)
  rw [jbk ZO,jbj ZO]
  have HEnd:=jpk (fun s A n cap l t A' n' cap' m W (r1:RdI W W.heap.size A n cap l) (r2:RdI W W.heap.size A' n' cap' m) (e1:Std s l (fq (-x) (Int.gcd (-x) (-y):Int))) (e2:Std t m (fq (-y) (Int.gcd (-x) (-y):Int))) (a1:FrA w.heap.size A) (a2:FrA w.heap.size A') (hb:Below w.heap.size w W)=>(⟨s,A,n,cap,l,t,A',n',cap',m,rfl,⟨r1,r2⟩,⟨by rw [←g1];exact e1,by rw [←g2];exact e2⟩,⟨a1,a2⟩,hb⟩:FrE w (some (Rat.divInt x y)) 0 (.returned (.tuple #[.agg #[.int .i64 s,.slice A n cap,.int .i64 t,.slice A' n' cap'],.int .i64 0])) W))
  clear S1 S2 F1 F2 F3 F1' F2' ht hy0 hy1 hg g1 g2
  go_enter Tryz.func95,Tryz.ntmps95
  go_upto_block 0 with (first|(refine ZAL ?_;clear K r;(first|((fail_if_success revert b0);intro W b0 K r)|((fail_if_success revert b1);intro W b1 K r)|((fail_if_success revert b2);intro W b2 K r)|intro W b K r))|(refine ZST ?_;clear K r;intro W K r))
  go_cut [] from 14 to 36 (fun wx=>∃s1 A1 n1 c1 l1 s2 A2 n2 c2 l2 D,St w [(b2,#[.int .i64 0,.slice none 0 0,.int .i64 0,.slice none 0 0],29),(b1,#[.int .i64 s2,.slice A2 n2 c2],27),(b0,#[.int .i64 s1,.slice A1 n1 c1],27)] (⟨rdP A2 n2 c2 l2,rdS A2 n2⟩::⟨rdP A1 n1 c1 l1,rdS A1 n1⟩::D) wx∧Std s1 l1 (-x)∧Std s2 l2 (-y))
  case first =>
   go_wp2_with (first|(refine ZAL ?_;clear K r;(first|((fail_if_success revert b0);intro W b0 K r)|((fail_if_success revert b1);intro W b1 K r)|((fail_if_success revert b2);intro W b2 K r)|intro W b K r))|(refine ZST ?_;clear K r;intro W K r))
   refine (HR1.out _ ZRD).mono ?_
   rintro e W' ⟨rfl,hb⟩
   replace K:=K.keep hb
   clear r
   have r:=K.rawS
   clear hb
   go_wp2_with (first|(refine ZAL ?_;clear K r;(first|((fail_if_success revert b0);intro W b0 K r)|((fail_if_success revert b1);intro W b1 K r)|((fail_if_success revert b2);intro W b2 K r)|intro W b K r))|(refine ZST ?_;clear K r;intro W K r))
   refine (HR2.out _ ZRD).mono ?_
   rintro e W' ⟨rfl,hb⟩
   replace K:=K.keep hb
   clear r
   have r:=K.rawS
   clear hb
   go_upto_region 6 with fail
   have Kd:=K.drew
   have z:=K.rawz
   simp only [RawZ,and_true] at z
   have hne:=K.rawn
   simp only [RawN,List.mem_cons,List.not_mem_nil,or_false,forall_eq_or_imp,forall_eq,and_true,false_imp_iff,implies_true] at hne
   go_region_with (first
    | (go_at_call 66;(with_reducible refine (HN1.out _ (by first | exact K.rd ZMB | exact Kd.rd ZMB)).mono ?_);rintro e W ⟨s1,A1,n1,c1,l1,rfl,hr,hs1,hf,hb⟩;(first | (replace K:=K.ret hb hr hf) | (replace K:=Kd.ret hb hr hf));clear r z hr hf hb;have r:=K.raw;have z:=K.rawz;simp only [Raw,RawC,RawZ,and_true,true_and,Nat.zero_add,Nat.reduceAdd] at r z)
    | (go_at_call 66;(with_reducible refine (HN2.out _ (by first | exact K.rd ZMB | exact Kd.rd ZMB)).mono ?_);rintro e W ⟨s2,A2,n2,c2,l2,rfl,hr,hs2,hf,hb⟩;(first | (replace K:=K.ret hb hr hf) | (replace K:=Kd.ret hb hr hf));clear r z hr hf hb;have r:=K.raw;have z:=K.rawz;simp only [Raw,RawC,RawZ,and_true,true_and,Nat.zero_add,Nat.reduceAdd] at r z))
   all_goals
    replace K:=(K.set2 (u:=.int .i64 s1) (v:=.slice A1 n1 c1) (b:=b0) ZUP).set2 (u:=.int .i64 s2) (v:=.slice A2 n2 c2) (b:=b1) ZUP
    clear r z hne Kd
    go_wp2_with fail
    go_meet
    exact ⟨s1,A1,n1,c1,l1,s2,A2,n2,c2,l2,_,K,hs1,hs2⟩
  case rest =>
   obtain ⟨s1,A1,n1,c1,l1,s2,A2,n2,c2,l2,D,K,hs1,hs2⟩:=hcut
   have r:=K.rawS
   exact ZQ19
end Go.Proofs.YtgikfcjndiohjaaGreat
