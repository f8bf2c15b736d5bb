/- Laws and walks; conditions stand in each theorem. -/
import Derived.Test.YtdlcglndhhndpaaGreatP16
import Derived.Test.YtdlcglndhhndpaaGreatP10
set_option linter.unusedSimpArgs false
set_option linter.unusedVariables false
set_option maxHeartbeats 2000000
set_option maxRecDepth 100000
namespace Go.Proofs.YtdlcglndhhndpaaGreat
open Go.RowKit
theorem jdb {x y:Rat}:cmpQ x y=0↔x=y:=by
 unfold cmpQ
 split
 ·grind
 ·split <;> grind
theorem jkk (x y:Rat):cmpQ y x= - cmpQ x y:=by
 unfold cmpQ
 split <;> split <;> grind
theorem jck {x y:Rat}:cmpQ x y≤0↔x≤y:=by
 unfold cmpQ
 split
 ·grind
 ·split <;> grind
theorem jgE (a:Int):Rat.divInt a 1=(a:Rat):=by
 have h:=jb3 (a:Rat);rw [Rat.num_intCast,Rat.den_intCast] at h;exact h
theorem jhR (s:Int) (A:Option Addr) (n cap:Nat) (w:World) :
 Calls Tryz.prog 135 #[.agg #[.int .i64 s,.slice A n cap]] w fun e w'=>e=.returned (.tuple #[if true=true∧n≤60 then .agg #[.int .i64 s,.slice A n cap] else .agg #[.int .i64 0,.slice none 0 0],.int .i64 (ckE true n)])∧Below w.heap.size w w':=by
 have K:=St.start w;have r:=K.raw;by_cases hn:n≤60
 ·have e1:ckE true n=0:=by unfold ckE;rw [if_neg Zb0,if_neg ZO]
  have hd:decide ((60:Int)<(n:Int))=false:=by simp;omega
  rw [e1,if_pos ⟨rfl,hn⟩];clear e1 hn;go_enter Tryz.func135,Tryz.ntmps135
  go_wp2_with (first|(refine ZAL ?_;clear K r;intro W b K r)|(refine ZST ?_;clear K r;intro W K r))
  exact bodyPost_ret (v:=.tuple #[.agg #[.int .i64 s,.slice A n cap],.int .i64 0]) (by simp [results,Tryz.results135,go_sem,r]) rfl ⟨rfl,K.1⟩
 ·have e1:ckE true n=6:=by unfold ckE;rw [if_neg Zb0,if_pos ZO]
  have hd:decide ((60:Int)<(n:Int))=true:=by simp;omega
  rw [e1,if_neg (by intro h;exact hn h.2)];clear e1 hn;go_enter Tryz.func135,Tryz.ntmps135
  go_wp2_with (first|(refine ZAL ?_;clear K r;intro W b K r)|(refine ZST ?_;clear K r;intro W K r))
  exact bodyPost_ret (v:=.tuple #[.agg #[.int .i64 0,.slice none 0 0],.int .i64 6]) (by simp [results,Tryz.results135,go_sem,r]) rfl ⟨rfl,K.1⟩
theorem jk6 (s:Int) (A:Option Addr) (n cap:Nat) (l:List Int) (z:Int) (w:World) (hl:RdI w w.heap.size A n cap l) (hz:Std s l z):Calls Tryz.prog 135 #[.agg #[.int .i64 s,.slice A n cap]] w (ChkR w A (resZ true z) (errZ true z)) :=
 (jhR s A n cap w).mono fun e w' ⟨he,hb⟩=>by
  have hlen:=hz.len;rw [hl.len] at hlen
  have he1:ckE true n=errZ true z:=by
   unfold ckE errZ;exact ZQ108
  rw [he1] at he;by_cases h:n≤60
  ·rw [if_pos ⟨rfl,h⟩] at he;refine ⟨s,A,n,cap,l,he,hl.up (jab _) hb,?_,fun _ h=>h,hb⟩;rw [resZ,if_pos ⟨rfl,hlen.1 h⟩];exact hz
  ·rw [if_neg (fun h1=>h h1.2)] at he;refine ⟨0,none,0,0,[],he,Rd.nil,?_,fun _ _=>FrA.none,hb⟩;rw [resZ,if_neg (fun h1=>h (hlen.2 h1.2))];exact Std.zero
theorem jmv {s:Int} {a b:List Int} (ha:jag s a=true) (hb:jag s b=true) (hne:a≠b):cmpB s a s b=if (decide (val a<val b)==decide (0<s))=true then -1 else 1:=by
 have h:cmpB s a s b=cmpI (bval s a) (bval s b):=if_pos ⟨ha,hb⟩;rw [h,jdW ha hb];obtain ⟨a1,a2,a3⟩:=jak ha;obtain ⟨b1,b2,b3⟩:=jak hb;have hv:val a≠val b:=fun e=>hne (a1.unique b1 e)
 have hs:s=1∨s= -1:=by
  rcases a3 with ⟨rfl,rfl⟩|⟨h1,h2⟩
  ·rcases b3 with ⟨rfl,_⟩|⟨_,h2⟩
   ·exact absurd rfl hne
   ·omega
  ·exact h2
 by_cases h1:val a<val b
 ·rw [jbg h1,decide_eq_true h1];rcases hs with rfl|rfl <;> rfl
 ·rw [jbv ZO,decide_eq_false h1];rcases hs with rfl|rfl <;> rfl
theorem jfy (s t:Int) (A A2:Option Addr) (n cap n2 cap2:Nat) (a b:List Int) (w:World) (ha:RdI w w.heap.size A n cap a) (hb:RdI w w.heap.size A2 n2 cap2 b) :
 Calls Tryz.prog 104 #[.agg #[.int .i64 s,.slice A n cap],.agg #[.int .i64 t,.slice A2 n2 cap2]] w fun e w'=>e=.returned (.int .i64 (cmpB s a t b))∧Below w.heap.size w w':=by
 have K:=((St.start w).oldRd ha).oldRd hb;have r:=K.raw;have HR1:=jmT (fun W h=>jaL s A n cap a W h);have HR2:=jmT (fun W h=>jaL t A2 n2 cap2 b W h);have HS:=jmT (fun W h h2=>jhS s t A A2 n cap n2 cap2 a b W h h2);clear ha hb;cases h1:jag s a
 ·have hC:cmpB s a t b=0:=by unfold cmpB;rw [h1,if_neg Zb0]
  rw [h1] at HR1;rw [hC];clear h1 hC;go_enter Tryz.func104,Tryz.ntmps104
  go_wp2_with (first|(refine ZAL ?_;clear K r;(first|((fail_if_success revert b0);intro W b0 K r)|((fail_if_success revert b1);intro W b1 K r)|((fail_if_success revert b2);intro W b2 K r)|((fail_if_success revert b3);intro W b3 K r)|intro W b K r))|(refine ZST ?_;clear K r;intro W K r))
  refine (HR1.out _ ZRD).mono ?_;exact ZQ28
 cases h2:jag t b
 ·have hC:cmpB s a t b=0:=by unfold cmpB;rw [h1,h2,if_neg Zb0]
  rw [h1] at HR1;rw [h2] at HR2;rw [hC];clear h1 h2 hC;go_enter Tryz.func104,Tryz.ntmps104
  go_wp2_with (first|(refine ZAL ?_;clear K r;(first|((fail_if_success revert b0);intro W b0 K r)|((fail_if_success revert b1);intro W b1 K r)|((fail_if_success revert b2);intro W b2 K r)|((fail_if_success revert b3);intro W b3 K r)|intro W b K r))|(refine ZST ?_;clear K r;intro W K r))
  refine (HR1.out _ ZRD).mono ?_;rintro e W' ⟨rfl,hb⟩;replace K:=K.keep hb;clear r;have r:=K.rawS;clear hb
  go_wp2_with (first|(refine ZAL ?_;clear K r;(first|((fail_if_success revert b0);intro W b0 K r)|((fail_if_success revert b1);intro W b1 K r)|((fail_if_success revert b2);intro W b2 K r)|((fail_if_success revert b3);intro W b3 K r)|intro W b K r))|(refine ZST ?_;clear K r;intro W K r))
  refine (HR2.out _ ZRD).mono ?_;exact ZQ28
 rw [h1] at HR1;rw [h2] at HR2;cases h3:jbz s a t b
 case true =>
  have hC:cmpB s a t b=0:=by
   unfold jbz at h3;obtain ⟨rfl,rfl⟩:=of_decide_eq_true h3;unfold cmpB;rw [h1,if_pos ⟨rfl,rfl⟩,jf3]
  rw [h3] at HS;rw [hC];clear h1 h2 h3 hC;exact ZQ20
 rw [h3] at HS;by_cases hst:s=t
 case neg =>
  have hd:(s !=t)=true:=by simp [hst]
  have hC:cmpB s a t b=cmpI s t:=by
   rw [←jeu h1 h2 hst];exact if_pos ⟨h1,h2⟩
  rw [hC];clear h1 h2 h3 hC;by_cases hlt:s<t
  ·have hd2:decide (s<t)=true:=decide_eq_true hlt;rw [jbg hlt];clear hlt hst;exact ZQ20
  ·have hd2:decide (s<t)=false:=decide_eq_false hlt;rw [jbv ZO];clear hlt hst;exact ZQ20
 subst hst;have hd:(s !=s)=false:=by simp
 have hC:=jmv h1 h2 (fun e=>by unfold jbz at h3;exact (of_decide_eq_false h3) ⟨rfl,e⟩);rw [hC];obtain ⟨da,-,-⟩:=jak h1;obtain ⟨db,-,-⟩:=jak h2;have HL:=jmT (fun W h h'=>jdZ A A2 n cap n2 cap2 a b W h h' da.1 db.1);obtain ⟨L,hL⟩:∃L,L=decide (val a<val b):=⟨_,rfl⟩;rw [←hL] at HL ⊢;clear h1 h2 h3 hC da db hL;obtain ⟨P,hP⟩:∃P,decide (0<s)=P:=⟨_,rfl⟩;rw [hP];go_enter Tryz.func104,Tryz.ntmps104
 go_wp2_with (first|(refine ZAL ?_;clear K r;(first|((fail_if_success revert b0);intro W b0 K r)|((fail_if_success revert b1);intro W b1 K r)|((fail_if_success revert b2);intro W b2 K r)|((fail_if_success revert b3);intro W b3 K r)|intro W b K r))|(refine ZST ?_;clear K r;intro W K r))
 refine (HR1.out _ ZRD).mono ?_;rintro e W' ⟨rfl,hb⟩;replace K:=K.keep hb;clear r;have r:=K.rawS;clear hb
 go_wp2_with (first|(refine ZAL ?_;clear K r;(first|((fail_if_success revert b0);intro W b0 K r)|((fail_if_success revert b1);intro W b1 K r)|((fail_if_success revert b2);intro W b2 K r)|((fail_if_success revert b3);intro W b3 K r)|intro W b K r))|(refine ZST ?_;clear K r;intro W K r))
 refine (HR2.out _ ZRD).mono ?_;rintro e W' ⟨rfl,hb⟩;replace K:=K.keep hb;clear r;have r:=K.rawS;clear hb
 go_wp2_with (first|(refine ZAL ?_;clear K r;(first|((fail_if_success revert b0);intro W b0 K r)|((fail_if_success revert b1);intro W b1 K r)|((fail_if_success revert b2);intro W b2 K r)|((fail_if_success revert b3);intro W b3 K r)|intro W b K r))|(refine ZST ?_;clear K r;intro W K r))
 refine (HS.out _ ZRD ZRD).mono ?_;rintro e W' ⟨rfl,hb⟩;replace K:=K.keep hb;clear r;have r:=K.rawS;clear hb;have HQ:=jmT (fun q=>(HL.out (W'.drewN q) ((K.drewN q).rd ZMB) ((K.drewN q).rd ZMB)).mono fun e w'' ⟨h1,h2⟩=>(⟨h1,q,h2.symm⟩:e=Ending.returned (.bool L)∧∃m,w''=W'.drewN m))
 go_wp2_with (first|(refine ZAL ?_;clear K r;(first|((fail_if_success revert b0);intro W b0 K r)|((fail_if_success revert b1);intro W b1 K r)|((fail_if_success revert b2);intro W b2 K r)|((fail_if_success revert b3);intro W b3 K r)|intro W b K r))|(refine ZST ?_;clear K r;intro W K r))
 go_quiet ((go_at_call 142;exact HQ.out _))
 cases L <;> cases P
 all_goals
  go_wp2
  go_ret;exact ⟨rfl,(K.drewN _).1⟩
theorem jf7 (n:Int) (w:World) (hn: -9223372036854775808≤n∧n≤9223372036854775807) :
 Calls Tryz.prog 83 #[.int .i64 n] w (BigR w n):=by
 obtain ⟨i0,hi0,hz0,hz1,hz2⟩:=jaU jbq;have K:=St.start w;have r:=K.raw;by_cases h0:n=0
 ·subst h0;have HE:=jmT (fun W (h:Below w.heap.size w W)=>show BigR w 0 (.returned (.agg #[.int .i64 0,.slice none 0 0])) W from ⟨0,none,0,0,[],rfl,Rd.nil,Std.zero,FrA.none,h⟩);go_enter Tryz.func83,Tryz.ntmps83
  go_wp2_with (first|(refine ZAL ?_;clear K r;intro W b K r)|(refine ZST ?_;clear K r;intro W K r))
  exact bodyPost_ret (v:=.agg #[.int .i64 0,.slice none 0 0]) (by simp [results,Tryz.results83,go_sem,r]) rfl (HE.out _ K.1)
 have hd0:(n==0)=false:=by simp [h0]
 have HI0:OfI n.natAbs [] n.natAbs:=by unfold OfI;simp
 have HI0:=jmT HI0;have HN:=jmT (show n.natAbs≤9223372036854775808 by omega);have HV:=jmT (show (if n<0 then (-1:Int) else 1)*val (digs n.natAbs)=n from by rw [jaz];split <;> omega);by_cases hneg:n<0
 ·have hd:decide (n<0)=true:=decide_eq_true hneg;have HX:=jmT (show n= -(n.natAbs:Int) by omega);rw [if_pos hneg] at HV;clear hneg h0;obtain ⟨N,hN⟩:∃N,N=n.natAbs:=⟨_,rfl⟩;rw [←hN] at HI0 HN HV HX;clear hN;go_enter Tryz.func83,Tryz.ntmps83
  go_wp2_with (first|(refine ZAL ?_;clear K r;intro W b K r)|(refine ZST ?_;clear K r;intro W K r))
  go_loopg [0,4] N (fun gk nv lv wr=>∃(l:List Int) (u:Nat),nv=.int .i64 (-(u:Int))∧Own 1 iEnc wr W.heap.size 3 lv l∧OfI N l u∧u≤N∧gk=u∧Below W.heap.size W wr)
  case atStart=>exact ⟨[],N,by rw [←HX.out],Own.nil,HI0.out,Nat.le_refl _,rfl,Below.refl _ _⟩
  case round =>
   obtain ⟨l,u,rfl,ho,hI,hu,rfl,hb⟩:=hrel;have HI:=jmT hI;have hl4:=hI.len (Nat.le_trans HN.out ZO);have hub:=HN.out;clear hI;rcases Nat.eq_zero_or_pos gk with h0|h0
   ·subst h0;have hd2:(-((0:Nat):Int) !=0)=false:=rfl;have hl:=HI.out.fin;subst hl;obtain ⟨A,cap,rfl,hr⟩:=ho.rd jaq ZO;have hA:=ho.fr rfl;have HM:=jmT (jbb (-1) A _ cap _ n wr hr ZO (jau N).1 Zb8 HV.out);exact ZQ42
   ·have hd2:(-(gk:Int) !=0)=true:=by simp;omega
    have HNx:=jmT (HI.out.step h0);have hsz:=hb.size;obtain ⟨m,hm0⟩:∃m,m=gk%1048576:=⟨_,rfl⟩;have hmd:(-(gk:Int)).tmod 1048576= -(m:Int):=by rw [Int.neg_tmod,Int.tmod_eq_emod_of_nonneg ZO,hm0];rfl
    have hqd:(-(gk:Int)).tdiv 1048576= -((gk / 1048576:Nat):Int):=by rw [Int.neg_tdiv,Int.tdiv_eq_ediv_of_nonneg ZO];rfl
    have hmb:m<1048576:=by omega
    rw [←hm0] at HNx;clear hm0;rcases Nat.eq_zero_or_pos m with hm1|hm1
    ·subst hm1;have hd3:decide (-((0:Nat):Int)<0)=false:=rfl
     go_wp2_with (at_builtin
                  refine jbk jaq rfl _ _ 46 rfl W.heap.size 3 i0 _ 8 Tryz.underlying46 hi0 hz0 hz1 hz2 rfl _ l rfl ho ((-((0:Nat):Int))) _ rfl wr.heap.size rfl rfl ZO ZO hsz ?_;intro v4 w4 ho4 hk4 hn4 hB4
                  have hb4:=hB4 _ _ (Nat.le_refl _) hb)
     go_roundg (gk / 1048576)
     case rel=>exact ⟨_,gk / 1048576,rfl,ho4,HNx.out,by omega,rfl,hb4⟩
     case measure=>omega
    ·have hd3:decide (-(m:Int)<0)=true:=decide_eq_true ZO;have hw:IntKind.i64.wrap (-(-(m:Int)))=(m:Int):=by rw [Int.neg_neg];exact IntWalk.i64_in _ ZO
     have hw2:IntKind.i64.wrap (m:Int)=(m:Int):=IntWalk.i64_in _ ZO;exact ZQ59
 ·have hd:decide (n<0)=false:=decide_eq_false hneg;have HX:=jmT (show n=(n.natAbs:Int) by omega);rw [if_neg hneg] at HV;clear hneg h0;obtain ⟨N,hN⟩:∃N,N=n.natAbs:=⟨_,rfl⟩;rw [←hN] at HI0 HN HV HX;clear hN;go_enter Tryz.func83,Tryz.ntmps83
  go_wp2_with (first|(refine ZAL ?_;clear K r;intro W b K r)|(refine ZST ?_;clear K r;intro W K r))
  go_loopg [0,4] N (fun gk nv lv wr=>∃(l:List Int) (u:Nat),nv=.int .i64 (u:Int)∧Own 1 iEnc wr W.heap.size 3 lv l∧OfI N l u∧u≤N∧gk=u∧Below W.heap.size W wr)
  case atStart=>exact ⟨[],N,by rw [←HX.out],Own.nil,HI0.out,Nat.le_refl _,rfl,Below.refl _ _⟩
  case round =>
   obtain ⟨l,u,rfl,ho,hI,hu,rfl,hb⟩:=hrel;have HI:=jmT hI;have hl4:=hI.len (Nat.le_trans HN.out ZO);have hub:=HN.out;clear hI;rcases Nat.eq_zero_or_pos gk with h0|h0
   ·subst h0;have hd2:(((0:Nat):Int) !=0)=false:=rfl;have hl:=HI.out.fin;subst hl;obtain ⟨A,cap,rfl,hr⟩:=ho.rd jaq ZO;have hA:=ho.fr rfl;have HM:=jmT (jbb 1 A _ cap _ n wr hr ZO (jau N).1 Zb8 HV.out);exact ZQ42
   ·have hd2:((gk:Int) !=0)=true:=by simp;omega
    have HNx:=jmT (HI.out.step h0);have hsz:=hb.size;obtain ⟨m,hm0⟩:∃m,m=gk%1048576:=⟨_,rfl⟩;have hmd:((gk:Int)).tmod 1048576=(m:Int):=by rw [Int.tmod_eq_emod_of_nonneg ZO,hm0];rfl
    have hqd:((gk:Int)).tdiv 1048576=((gk / 1048576:Nat):Int):=by rw [Int.tdiv_eq_ediv_of_nonneg ZO];rfl
    have hmb:m<1048576:=by omega
    rw [←hm0] at HNx;clear hm0;have hd3:decide ((m:Int)<0)=false:=decide_eq_false ZO;exact ZQ59
section
variable (x y:Int) (s:Int) (A:Option Addr) (n cap:Nat) (l:List Int) (t:Int) (A':Option Addr) (n' cap':Nat) (m:List Int) (W:World)
variable (hl:RdI W W.heap.size A n cap l) (hm:RdI W W.heap.size A' n' cap' m) (h1:Std s l x) (h2:Std t m y) (f1:fits x=true) (f2:fits y=true)
include hl hm h1 h2 f1 f2
theorem uGcd:Calls Tryz.prog 103 #[.agg #[.int .i64 s,.slice A n cap],.agg #[.int .i64 t,.slice A' n' cap']] W (BigE W (Int.gcd x y:Int) 0):=by
 have h:=jgH s t A A' n cap n' cap' l m W hl hm;exact ZQ112
theorem uDiv (hy:y≠0):Calls Tryz.prog 123 #[.agg #[.int .i64 s,.slice A n cap],.agg #[.int .i64 t,.slice A' n' cap']] W (jcc W (fq x y) (fr x y) 0):=by
 have h:=jkq s t A A' n cap n' cap' l m W hl hm;exact ZQ102
theorem jha:Calls Tryz.prog 104 #[.agg #[.int .i64 s,.slice A n cap],.agg #[.int .i64 t,.slice A' n' cap']] W fun e w'=>e=.returned (.int .i64 (cmpI x y))∧Below W.heap.size W w':=by
 have h:=jfy s t A A' n cap n' cap' l m W hl hm;exact ZQ148
end
theorem uNeg (x:Int) (s:Int) (A:Option Addr) (n cap:Nat) (l:List Int) (W:World) (hl:RdI W W.heap.size A n cap l) (h1:Std s l x) (f1:fits x=true):Calls Tryz.prog 124 #[.agg #[.int .i64 s,.slice A n cap]] W (BigR W (-x)):=by
 have h:=jgJ s A n cap l W hl
 have e:negZ s l= -x:=by
  unfold negZ;rw [if_pos (h1.right f1),h1.val]
 rw [e] at h;exact h
theorem jaY (s t:Int) (A A':Option Addr) (n cap n' cap':Nat) (l m:List Int) (w:World) (hl:RdI w w.heap.size A n cap l) (hm:RdI w w.heap.size A' n' cap' m) :
 Calls Tryz.prog 49 #[.agg #[.int .i64 s,.slice A n cap,.int .i64 t,.slice A' n' cap']] w fun e w'=>e=.returned (.bool (jap s l t m))∧Below w.heap.size w w':=by
 have K:=((St.start w).oldRd hl).oldRd hm;have r:=K.raw;have HR1:=jmT (fun W h=>jaL s A n cap l W h);have HR2:=jmT (fun W h=>jaL t A' n' cap' m W h)
 have hF:¬(jag s l=true∧jag t m=true∧t=1)→jap s l t m=false:=fun h=>by
  cases hr:jap s l t m
  ·rfl
  ·obtain ⟨h1,h2,h3,-⟩:=jcW.1 hr;exact absurd ⟨h1,h2,h3⟩ h
 cases h1:jag s l
 ·rw [hF (by simp [h1])];rw [h1] at HR1;clear hF h1;go_enter Tryz.func49,Tryz.ntmps49
  go_wp2_with (first|(refine ZAL ?_;clear K r;intro W b K r)|(refine ZST ?_;clear K r;intro W K r))
  refine (HR1.out _ ZRD).mono ?_;exact ZQ28
 cases h2:jag t m
 ·rw [hF (by simp [h2])];rw [h1] at HR1;rw [h2] at HR2;clear hF h1 h2;go_enter Tryz.func49,Tryz.ntmps49
  go_wp2_with (first|(refine ZAL ?_;clear K r;intro W b K r)|(refine ZST ?_;clear K r;intro W K r))
  refine (HR1.out _ ZRD).mono ?_;rintro e W' ⟨rfl,hb⟩;replace K:=K.keep hb;clear r;have r:=K.rawS;clear hb
  go_wp2_with (first|(refine ZAL ?_;clear K r;intro W b K r)|(refine ZST ?_;clear K r;intro W K r))
  refine (HR2.out _ ZRD).mono ?_;exact ZQ28
 rw [h1] at HR1;rw [h2] at HR2;by_cases ht:t=1
 case neg =>
  have hd:decide (t<1)=true:=decide_eq_true (by rcases (jak h2).2.2 with ⟨-,h⟩|⟨-,h|h⟩ <;> omega);rw [hF (fun h=>ht h.2.2)];clear hF h1 h2 ht;go_enter Tryz.func49,Tryz.ntmps49
  go_wp2_with (first|(refine ZAL ?_;clear K r;intro W b K r)|(refine ZST ?_;clear K r;intro W K r))
  refine (HR1.out _ ZRD).mono ?_;rintro e W' ⟨rfl,hb⟩;replace K:=K.keep hb;clear r;have r:=K.rawS;clear hb
  go_wp2_with (first|(refine ZAL ?_;clear K r;intro W b K r)|(refine ZST ?_;clear K r;intro W K r))
  refine (HR2.out _ ZRD).mono ?_;exact ZQ28
 have hd:decide (t<1)=false:=decide_eq_false ZO;have hp:=jdA h2 ht;have HG:=jmT (jgH s t A A' n cap n' cap' l m);have hG:gcdZ (jag s l&&jag t m) (bval s l) (bval t m)=(Int.gcd (bval s l) (bval t m):Int):=by rw [h1,h2];unfold gcdZ;simp
 have hE:okE (jag s l&&jag t m)=0:=by rw [h1,h2];rfl
 rw [hG,hE] at HG
 have hO:jap s l t m=(cmpI (Int.gcd (bval s l) (bval t m):Int) 1==0):=by
  have h3:(cmpI (Int.gcd (bval s l) (bval t m):Int) 1==0)=decide ((Int.gcd (bval s l) (bval t m):Int)=1):=by
   by_cases h:(Int.gcd (bval s l) (bval t m):Int)=1
   ·rw [h,jf3];rfl
   ·have h4:cmpI (Int.gcd (bval s l) (bval t m):Int) 1≠0:=fun e=>h (jdX.1 e)
    rw [decide_eq_false h];simp [h4]
  rw [h3];unfold jap;rw [h1,h2,decide_eq_true ht];simp only [Bool.true_and];exact decide_eq_decide.2 ZO
 have HOf:=jmT (fun W=>jf7 1 W ZO);have HCm:=jmT (fun s1 A1 n1 cap1 l1 t2 A2 n2 cap2 m2 W hl hm e1 e2=>jha (Int.gcd (bval s l) (bval t m):Int) 1 s1 A1 n1 cap1 l1 t2 A2 n2 cap2 m2 W hl hm e1 e2 (jcN ZO (jaS h2)) (jbU Zb0));have HO:=jmT hO;clear hO;generalize cmpI (Int.gcd (bval s l) (bval t m):Int) 1=C at *;generalize jap s l t m=RF at *;generalize (Int.gcd (bval s l) (bval t m):Int)=G at *;clear hF h1 h2 ht hp hG hE;go_enter Tryz.func49,Tryz.ntmps49
 go_wp2_with (first|(refine ZAL ?_;clear K r;intro W b K r)|(refine ZST ?_;clear K r;intro W K r))
 refine (HR1.out _ ZRD).mono ?_;rintro e W' ⟨rfl,hb⟩;replace K:=K.keep hb;clear r;have r:=K.rawS;clear hb
 go_wp2_with (first|(refine ZAL ?_;clear K r;intro W b K r)|(refine ZST ?_;clear K r;intro W K r))
 refine (HR2.out _ ZRD).mono ?_;rintro e W' ⟨rfl,hb⟩;replace K:=K.keep hb;clear r;have r:=K.rawS;clear hb
 go_wp2_with (first|(refine ZAL ?_;clear K r;intro W b K r)|(refine ZST ?_;clear K r;intro W K r))
 refine (HG.out _ ZRD ZRD).mono ?_;rintro e W' ⟨s1,A1,n1,c1,l1,rfl,hr,hs1,hf,hb⟩;have hf1:=jmT (hf.mono K.1.size);replace K:=K.ret hb hr hf;clear r;have r:=K.rawS;clear hr hf hb;go_upto_region 4 with (first|(refine ZAL ?_;clear K r;intro W b K r)|(refine ZST ?_;clear K r;intro W K r))
 have Kd:=K.drew
 go_region_with (first
  | (go_at_call 83;(with_reducible refine (HOf.out _).mono ?_);rintro e W ⟨s2,A2,n2,c2,l2,rfl,hr,hs2,hf,hb⟩;(first | (replace K:=K.ret hb hr hf) | (replace K:=Kd.ret hb hr hf));clear r hr hf hb;have r:=K.rawS)
  | (go_at_call 104;(with_reducible refine (HCm.out _ _ _ _ _ _ _ _ _ _ _ ZRD ZRD hs1 hs2).mono ?_);rintro e W ⟨rfl,hb⟩;replace K:=K.keep hb;clear r hb;have r:=K.rawS))
 all_goals
  clear hs1 hs2
  go_wp2
  go_ret;exact ⟨by rw [HO.out];rfl,K.1⟩
end Go.Proofs.YtdlcglndhhndpaaGreat
