/- Laws and walks; conditions stand in each theorem. -/
import Derived.Test.YtdlcglndhhndpaaGreatP09
import Derived.Test.YtdlcglndhhndpaaGreatP13
set_option linter.unusedSimpArgs false
set_option linter.unusedVariables false
set_option maxHeartbeats 2000000
set_option maxRecDepth 100000
namespace Go.Proofs.YtdlcglndhhndpaaGreat
open Go.RowKit
theorem jbL {z:Int} (h:fits z=true):resZ true z=z:=by unfold resZ;rw [if_pos ⟨rfl,h⟩]
theorem jbJ {z:Int} (h:fits z=true):errZ true z=0:=by unfold errZ;rw [if_neg Zb0,if_pos h]
theorem jfS {z:Int} (h:fits z=false):resZ true z=0:=by unfold resZ;rw [if_neg (by simp [h])]
theorem jbQ {z:Int} (h:fits z=false):errZ true z=6:=by unfold errZ;rw [if_neg Zb0,if_neg (by simp [h])]
theorem jbU {z:Int} (h:z.natAbs≤9223372036854775808):fits z=true:=jb6.2 (by
 have h1:pw 4=1208925819614629174706176:=by simp [pw]
 have h2:=jcu (show 4≤60 by omega)
 omega)
theorem jfD:fits 0=true:=jbU Zb0
theorem jaQ (b:Bool) (z:Int):fits (resZ b z)=true:=by
 unfold resZ
 split
 ·rename_i h;exact h.2
 ·exact jfD
section
variable {w W W':World} {L:List Blk} {D:List Hl}
theorem St.retF (h:St w L D W) (hb:Below W.heap.size W W') {A A':Option Addr} {n cap n' cap':Nat} {l m:List Int} (hl:RdI W' W'.heap.size A n cap l) (hm:RdI W' W'.heap.size A' n' cap' m) (hA:FrA W.heap.size A) (hA':FrA W.heap.size A') :
 St w L (⟨rdP A' n' cap' m,rdS A' n'⟩::⟨rdP A n cap l,rdS A n⟩::D) W':=by
 have h1:=h.ret hb hl hA;have h2:=h.ret hb hm hA';exact h1.add (h2.2.2.2 _ List.mem_cons_self)
end
theorem vNew (x y:Int) (s:Int) (A:Option Addr) (n cap:Nat) (l:List Int) (t:Int) (A':Option Addr) (n' cap':Nat) (m:List Int) (W:World) (hl:RdI W W.heap.size A n cap l) (hm:RdI W W.heap.size A' n' cap' m) (h1:Std s l x) (h2:Std t m y) (f1:fits x=true) (f2:fits y=true) :
 Calls Tryz.prog 90 #[.agg #[.int .i64 s,.slice A n cap],.agg #[.int .i64 t,.slice A' n' cap']] W (FrE W (newO true x y) (newE true y)):=by
 have h:=jky s t A A' n cap n' cap' l m W hl hm;rw [h1.right f1,h2.right f2,h1.val,h2.val] at h;exact h
theorem jmx (p q:Int) (w:World) (hp: -9223372036854775808≤p∧p≤9223372036854775807) (hq: -9223372036854775808≤q∧q≤9223372036854775807) :
 Calls Tryz.prog 40 #[.int .i64 p,.int .i64 q] w (FrE w (newO true p q) (newE true q)):=by
 have K:=St.start w;have r:=K.raw;have HO1:=jmT (fun W=>jhC p W hp);have HO2:=jmT (fun W=>jhC q W hq);have HN:=jmT (fun s A n cap l t A' n' cap' m W hl hm h1 h2=>vNew p q s A n cap l t A' n' cap' m W hl hm h1 h2 (jbU ZO) (jbU ZO));generalize newO true p q=O at *;generalize newE true q=E at *;clear hp hq;go_enter Tryz.func40,Tryz.ntmps40
 go_wp2_with (first|(refine ZAL ?_;clear K r;intro W b K r)|(refine ZST ?_;clear K r;intro W K r))
 refine (HO1.out _).mono ?_;rintro e W' ⟨s1,A1,n1,c1,l1,rfl,hr,hs1,hf,hb⟩;have hf1:=jmT (hf.mono K.1.size);replace K:=K.ret hb hr hf;clear r;have r:=K.rawS;clear hr hf hb
 go_wp2_with (first|(refine ZAL ?_;clear K r;intro W b K r)|(refine ZST ?_;clear K r;intro W K r))
 refine (HO2.out _).mono ?_;rintro e W' ⟨s2,A2,n2,c2,l2,rfl,hr,hs2,hf,hb⟩;have hf2:=jmT (hf.mono K.1.size);replace K:=K.ret hb hr hf;clear r;have r:=K.rawS;clear hr hf hb
 go_wp2_with (first|(refine ZAL ?_;clear K r;intro W b K r)|(refine ZST ?_;clear K r;intro W K r))
 refine (HN.out _ _ _ _ _ _ _ _ _ _ _ ZRD ZRD hs1 hs2).mono ?_;rintro e W' ⟨s3,A3,n3,c3,l3,t3,B3,m3,d3,k3,rfl,⟨hra,hrb⟩,ho,⟨hfa,hfb⟩,hb⟩;have hf3:=jmT (hfa.mono K.1.size);have hg3:=jmT (hfb.mono K.1.size);replace K:=K.retF hb hra hrb hfa hfb;clear r;have r:=K.rawS;clear hra hrb hfa hfb hb
 go_wp2_with (first|(refine ZAL ?_;clear K r;intro W b K r)|(refine ZST ?_;clear K r;intro W K r))
 have HE:=jmT (⟨s3,A3,n3,c3,l3,t3,B3,m3,d3,k3,rfl,⟨ZRD,ZRD⟩,ho,⟨hf3.out,hg3.out⟩,K.1⟩:FrE w O E (.returned (.tuple #[.agg #[.int .i64 s3,.slice A3 n3 c3,.int .i64 t3,.slice B3 m3 d3],.int .i64 E])) W);clear hs1 hs2 ho;exact bodyPost_ret (v:=.tuple #[.agg #[.int .i64 s3,.slice A3 n3 c3,.int .i64 t3,.slice B3 m3 d3],.int .i64 E]) (by simp [results,Tryz.results40,go_sem,r]) rfl HE.out
def quoO (e f:Int) (x y:Int):Option Rat:=if e=0∧f=0 then newO true x y else none
def quoE (e f:Int) (y:Int):Int:=if e=0∧f=0 then newE true y else 6
theorem jmS (e f x y:Int) (s:Int) (A:Option Addr) (n cap:Nat) (l:List Int) (t:Int) (A':Option Addr) (n' cap':Nat) (m:List Int) (w:World) (hl:RdI w w.heap.size A n cap l) (hm:RdI w w.heap.size A' n' cap' m) (h1:Std s l x) (h2:Std t m y) (f1:fits x=true) (f2:fits y=true) :
 Calls Tryz.prog 107 #[.agg #[.int .i64 s,.slice A n cap],.int .i64 e,.agg #[.int .i64 t,.slice A' n' cap'],.int .i64 f] w (FrE w (quoO e f x y) (quoE e f y)):=by
 have K:=((St.start w).oldRd hl).oldRd hm;have r:=K.raw;have Hno:=jmT (fun W (c:Int) (h:Below w.heap.size w W)=>(⟨0,none,0,0,[],0,none,0,0,[],rfl,⟨Rd.nil,Rd.nil⟩,⟨rfl,rfl,rfl,rfl⟩,⟨FrA.none,FrA.none⟩,h⟩:FrE w none c (.returned (.tuple #[.agg #[.int .i64 0,.slice none 0 0,.int .i64 0,.slice none 0 0],.int .i64 c])) W));by_cases he:e=0
 case neg =>
  have e1:quoO e f x y=none:=if_neg (fun h=>he h.1);have e2:quoE e f y=6:=if_neg (fun h=>he h.1);have hd:(e !=0)=true:=by simp [he]
  rw [e1,e2];clear e1 e2 he h1 h2 f1 f2;exact ZQ76
 subst he;by_cases hf:f=0
 case neg =>
  have e1:quoO 0 f x y=none:=if_neg (fun h=>hf h.2);have e2:quoE 0 f y=6:=if_neg (fun h=>hf h.2);have hd:(f !=0)=true:=by simp [hf]
  rw [e1,e2];clear e1 e2 hf h1 h2 f1 f2;exact ZQ76
 subst hf;have HN:=jmT (fun W hl hm=>vNew x y s A n cap l t A' n' cap' m W hl hm h1 h2 f1 f2);have e1:quoO 0 0 x y=newO true x y:=if_pos ⟨rfl,rfl⟩;have e2:quoE 0 0 y=newE true y:=if_pos ⟨rfl,rfl⟩;rw [e1,e2];generalize newO true x y=O at *;generalize newE true y=E at *;clear e1 e2 h1 h2 f1 f2;go_enter Tryz.func107,Tryz.ntmps107
 go_wp2_with (first|(refine ZAL ?_;clear K r;intro W b K r)|(refine ZST ?_;clear K r;intro W K r))
 refine (HN.out _ ZRD ZRD).mono ?_;rintro e W' ⟨s3,A3,n3,c3,l3,t3,B3,m3,d3,k3,rfl,⟨hra,hrb⟩,ho,⟨hfa,hfb⟩,hb⟩;have hf3:=jmT (hfa.mono K.1.size);have hg3:=jmT (hfb.mono K.1.size);replace K:=K.retF hb hra hrb hfa hfb;clear r;have r:=K.rawS;clear hra hrb hfa hfb hb
 go_wp2_with (first|(refine ZAL ?_;clear K r;intro W b K r)|(refine ZST ?_;clear K r;intro W K r))
 have HE:=jmT (⟨s3,A3,n3,c3,l3,t3,B3,m3,d3,k3,rfl,⟨ZRD,ZRD⟩,ho,⟨hf3.out,hg3.out⟩,K.1⟩:FrE w O E (.returned (.tuple #[.agg #[.int .i64 s3,.slice A3 n3 c3,.int .i64 t3,.slice B3 m3 d3],.int .i64 E])) W);clear ho;exact bodyPost_ret (v:=.tuple #[.agg #[.int .i64 s3,.slice A3 n3 c3,.int .i64 t3,.slice B3 m3 d3],.int .i64 E]) (by simp [results,Tryz.results107,go_sem,r]) rfl HE.out
def sumK (a b c d:Int):Bool:=fits (a*b)&&(fits (c*d)&&fits (a*b+c*d))
def sumZ (a b c d:Int):Int:=if sumK a b c d=true then a*b+c*d else 0
def sumE (a b c d:Int):Int:=if sumK a b c d=true then 0 else 6
theorem jhW (a b c d:Int):fits (sumZ a b c d)=true:=by
 unfold sumZ sumK
 split
 ·rename_i h
  simp only [Bool.and_eq_true] at h;exact h.2.2
 ·exact jfD
theorem vSum (a b c d:Int) (s1 s2 s3 s4:Int) (A1 A2 A3 A4:Option Addr) (n1 n2 n3 n4 c1 c2 c3 c4:Nat) (l1 l2 l3 l4:List Int) (w:World) (r1:RdI w w.heap.size A1 n1 c1 l1) (r2:RdI w w.heap.size A2 n2 c2 l2) (r3:RdI w w.heap.size A3 n3 c3 l3) (r4:RdI w w.heap.size A4 n4 c4 l4)
 (h1:Std s1 l1 a) (h2:Std s2 l2 b) (h3:Std s3 l3 c) (h4:Std s4 l4 d) (f1:fits a=true) (f2:fits b=true) (f3:fits c=true) (f4:fits d=true) :
 Calls Tryz.prog 108 #[.agg #[.int .i64 s1,.slice A1 n1 c1],.agg #[.int .i64 s2,.slice A2 n2 c2],.agg #[.int .i64 s3,.slice A3 n3 c3],.agg #[.int .i64 s4,.slice A4 n4 c4]] w (BigE w (sumZ a b c d) (sumE a b c d)):=by
 have K:=((((St.start w).oldRd r1).oldRd r2).oldRd r3).oldRd r4;have r:=K.raw;have HM1:=jmT (fun W hl hm=>vMul a b s1 A1 n1 c1 l1 s2 A2 n2 c2 l2 W hl hm h1 h2 f1 f2);have HM2:=jmT (fun W hl hm=>vMul c d s3 A3 n3 c3 l3 s4 A4 n4 c4 l4 W hl hm h3 h4 f3 f4);have HA:=jmT (fun s A n cap l t A' n' cap' m W hl hm h1 h2 f1 f2=>vAdd (a*b) (c*d) s A n cap l t A' n' cap' m W hl hm h1 h2 f1 f2);cases k1:fits (a*b)
 ·have e1:sumZ a b c d=0:=by unfold sumZ sumK;rw [k1];rfl
  have e2:sumE a b c d=6:=by unfold sumE sumK;rw [k1];rfl
  rw [jfS k1,jbQ k1] at HM1;rw [e1,e2];clear e1 e2 k1 h1 h2 h3 h4 f1 f2 f3 f4;go_enter Tryz.func108,Tryz.ntmps108
  go_wp2_with (first|(refine ZAL ?_;clear K r;intro W b K r)|(refine ZST ?_;clear K r;intro W K r))
  refine (HM1.out _ ZRD ZRD).mono ?_;rintro e W' ⟨s5,A5,n5,c5,l5,rfl,hr,hs5,hf,hb⟩;have hf5:=jmT (hf.mono K.1.size);replace K:=K.ret hb hr hf;clear r;have r:=K.rawS;clear hr hf hb;clear hs5;exact ZQ80
 cases k2:fits (c*d)
 ·have e1:sumZ a b c d=0:=by unfold sumZ sumK;rw [k2,k1];rfl
  have e2:sumE a b c d=6:=by unfold sumE sumK;rw [k2,k1];rfl
  rw [jbL k1,jbJ k1] at HM1;rw [jfS k2,jbQ k2] at HM2;rw [e1,e2];clear e1 e2 k1 k2 h1 h2 h3 h4 f1 f2 f3 f4;go_enter Tryz.func108,Tryz.ntmps108
  go_wp2_with (first|(refine ZAL ?_;clear K r;intro W b K r)|(refine ZST ?_;clear K r;intro W K r))
  refine (HM1.out _ ZRD ZRD).mono ?_;rintro e W' ⟨s5,A5,n5,c5,l5,rfl,hr,hs5,hf,hb⟩;have hf5:=jmT (hf.mono K.1.size);replace K:=K.ret hb hr hf;clear r;have r:=K.rawS;clear hr hf hb;clear hs5
  go_wp2_with (first|(refine ZAL ?_;clear K r;intro W b K r)|(refine ZST ?_;clear K r;intro W K r))
  refine (HM2.out _ ZRD ZRD).mono ?_;rintro e W' ⟨s6,A6,n6,c6,l6,rfl,hr,hs6,hf,hb⟩;have hf6:=jmT (hf.mono K.1.size);replace K:=K.ret hb hr hf;clear r;have r:=K.rawS;clear hr hf hb;clear hs6;exact ZQ80
 have e1:sumZ a b c d=resZ true (a*b+c*d):=by
  unfold sumZ sumK;rw [k2,k1,Bool.true_and,Bool.true_and];cases k3:fits (a*b+c*d)
  ·rw [jfS k3];rfl
  ·rw [jbL k3];rfl
 have e2:sumE a b c d=errZ true (a*b+c*d):=by
  unfold sumE sumK;rw [k2,k1,Bool.true_and,Bool.true_and];cases k3:fits (a*b+c*d)
  ·rw [jbQ k3];rfl
  ·rw [jbJ k3];rfl
 rw [jbL k1,jbJ k1] at HM1;rw [jbL k2,jbJ k2] at HM2;have HA:=jmT (fun s A n cap l t A' n' cap' m W hl hm h1 h2=>vAdd (a*b) (c*d) s A n cap l t A' n' cap' m W hl hm h1 h2 k1 k2);rw [e1,e2];generalize resZ true (a*b+c*d)=RZ at *;generalize errZ true (a*b+c*d)=EZ at *;clear e1 e2 k1 k2 h1 h2 h3 h4 f1 f2 f3 f4;go_enter Tryz.func108,Tryz.ntmps108
 go_wp2_with (first|(refine ZAL ?_;clear K r;intro W b K r)|(refine ZST ?_;clear K r;intro W K r))
 refine (HM1.out _ ZRD ZRD).mono ?_;rintro e W' ⟨s5,A5,n5,c5,l5,rfl,hr,hs5,hf,hb⟩;have hf5:=jmT (hf.mono K.1.size);replace K:=K.ret hb hr hf;clear r;have r:=K.rawS;clear hr hf hb
 go_wp2_with (first|(refine ZAL ?_;clear K r;intro W b K r)|(refine ZST ?_;clear K r;intro W K r))
 refine (HM2.out _ ZRD ZRD).mono ?_;rintro e W' ⟨s6,A6,n6,c6,l6,rfl,hr,hs6,hf,hb⟩;have hf6:=jmT (hf.mono K.1.size);replace K:=K.ret hb hr hf;clear r;have r:=K.rawS;clear hr hf hb
 go_wp2_with (first|(refine ZAL ?_;clear K r;intro W b K r)|(refine ZST ?_;clear K r;intro W K r))
 refine (HA.out _ _ _ _ _ _ _ _ _ _ _ ZRD ZRD hs5 hs6).mono ?_;rintro e W' ⟨s7,A7,n7,c7,l7,rfl,hr,hs7,hf,hb⟩;have hf7:=jmT (hf.mono K.1.size);replace K:=K.ret hb hr hf;clear r;have r:=K.rawS;clear hr hf hb
 go_wp2_with (first|(refine ZAL ?_;clear K r;intro W b K r)|(refine ZST ?_;clear K r;intro W K r))
 have HE:=jmT (⟨s7,A7,n7,c7,l7,rfl,ZRD,hs7,hf7.out,K.1⟩:BigE w RZ EZ (.returned (.tuple #[.agg #[.int .i64 s7,.slice A7 n7 c7],.int .i64 EZ])) W);clear hs5 hs6 hs7;exact bodyPost_ret (v:=.tuple #[.agg #[.int .i64 s7,.slice A7 n7 c7],.int .i64 EZ]) (by simp [results,Tryz.results108,go_sem,r]) rfl HE.out
def binO (ok k:Bool) (z:Rat):Option Rat:=if ok=true∧k=true then some z else none
def binE (ok k:Bool):Int:=if ok=false then 1 else if k=true then 0 else 6
theorem jby {k:Bool} {z:Rat}:binO false k z=none:=if_neg Zb0
theorem jbx {k:Bool}:binE false k=1:=if_pos rfl
def addK (x y:Rat):Bool:=sumK x.num y.den y.num x.den&&fits ((x.den:Int)*y.den)
def mulK (x y:Rat):Bool:=fits (x.num*y.num)&&fits ((x.den:Int)*y.den)
def divK (x y:Rat):Bool:=fits (x.num*y.den)&&fits ((x.den:Int)*y.num)
theorem jgf (x y:Rat):Rat.divInt (x.num*y.den+y.num*x.den) ((x.den:Int)*y.den)=x+y:=by
 have h1:=jbY x;have h2:=jbY y;have h:=Rat.divInt_add_divInt x.num y.num (d₁:=x.den) (d₂:=y.den) ZO ZO;rw [jb3,jb3] at h;exact h.symm
theorem jgh (x y:Rat):Rat.divInt (x.num*y.num) ((x.den:Int)*y.den)=x*y:=by
 have h:=Rat.divInt_mul_divInt x.num y.num (d₁:=x.den) (d₂:=y.den);rw [jb3,jb3] at h;exact h.symm
theorem jgg (x y:Rat):Rat.divInt (x.num*y.den) ((x.den:Int)*y.num)=x / y:=by
 have h:=Rat.divInt_mul_divInt x.num y.den (d₁:=x.den) (d₂:=y.num);rw [jb3] at h;rw [←h,Rat.div_def,Rat.inv_def]
theorem jbA (x y:Rat):0<(x.den:Int)*y.den:=Int.mul_pos (jbY x) (jbY y)
theorem jaG {x:Rat} (h:jbc x=true):fits x.num=true:=by unfold jbc at h;rw [Bool.and_eq_true] at h;exact h.1
theorem jaJ {x:Rat} (h:jbc x=true):fits x.den=true:=by unfold jbc at h;rw [Bool.and_eq_true] at h;exact h.2
theorem jmN (x y:Rat):quoO (sumE x.num y.den y.num x.den) (errZ true ((x.den:Int)*y.den)) (sumZ x.num y.den y.num x.den) (resZ true ((x.den:Int)*y.den))=binO true (addK x y) (x+y) ∧
 quoE (sumE x.num y.den y.num x.den) (errZ true ((x.den:Int)*y.den)) (resZ true ((x.den:Int)*y.den))=binE true (addK x y):=by
 have hp:=jbA x y;have h1:=jgf x y;unfold quoO quoE sumE sumZ addK;cases k1:sumK x.num y.den y.num x.den
 ·rw [Bool.false_and];exact ZQ79
 ·cases k2:fits ((x.den:Int)*y.den)
  ·rw [jbQ k2];exact ZQ79
  ·rw [jbJ k2,jbL k2,if_pos rfl,if_pos rfl,if_pos ⟨rfl,rfl⟩,if_pos ⟨rfl,rfl⟩,jbH ZO,jbG ZO,h1];exact ⟨(if_pos ⟨rfl,rfl⟩).symm,by unfold binE;simp⟩
theorem jjh {a b:Int} {z:Rat} (hb:b≠0) (hz:Rat.divInt a b=z):quoO (errZ true a) (errZ true b) (resZ true a) (resZ true b)=binO true (fits a&&fits b) z∧quoE (errZ true a) (errZ true b) (resZ true b)=binE true (fits a&&fits b):=by
 unfold quoO quoE;cases k1:fits a
 ·rw [jbQ k1];exact ZQ79
 ·cases k2:fits b
  ·rw [jbQ k2];exact ZQ79
  ·rw [jbJ k1,jbJ k2,jbL k1,jbL k2,if_pos ⟨rfl,rfl⟩,if_pos ⟨rfl,rfl⟩,jbH hb,jbG hb,hz];exact ⟨(if_pos ⟨rfl,rfl⟩).symm,by unfold binE;simp⟩
theorem jgM (s1 t1 s2 t2:Int) (A1 B1 A2 B2:Option Addr) (n1 c1 m1 d1 n2 c2 m2 d2:Nat) (l1 k1 l2 k2:List Int) (w:World) (r1:RdI w w.heap.size A1 n1 c1 l1) (q1:RdI w w.heap.size B1 m1 d1 k1) (r2:RdI w w.heap.size A2 n2 c2 l2) (q2:RdI w w.heap.size B2 m2 d2 k2) :
 Calls Tryz.prog 53 #[.agg #[.int .i64 s1,.slice A1 n1 c1,.int .i64 t1,.slice B1 m1 d1],.agg #[.int .i64 s2,.slice A2 n2 c2,.int .i64 t2,.slice B2 m2 d2]] w (FrE w (binO (jap s1 l1 t1 k1&&jap s2 l2 t2 k2) (addK (ratF s1 l1 t1 k1) (ratF s2 l2 t2 k2)) (ratF s1 l1 t1 k1+ratF s2 l2 t2 k2)) (binE (jap s1 l1 t1 k1&&jap s2 l2 t2 k2) (addK (ratF s1 l1 t1 k1) (ratF s2 l2 t2 k2)))):=by
 have K:=((((St.start w).oldRd r1).oldRd q1).oldRd r2).oldRd q2;have r:=K.raw;have HR1:=jmT (fun W h g=>ja3 s1 t1 A1 B1 n1 c1 m1 d1 l1 k1 W h g);have HR2:=jmT (fun W h g=>ja3 s2 t2 A2 B2 n2 c2 m2 d2 l2 k2 W h g);have Hno:=jmT (fun W (c:Int) (h:Below w.heap.size w W)=>(⟨0,none,0,0,[],0,none,0,0,[],rfl,⟨Rd.nil,Rd.nil⟩,⟨rfl,rfl,rfl,rfl⟩,⟨FrA.none,FrA.none⟩,h⟩:FrE w none c (.returned (.tuple #[.agg #[.int .i64 0,.slice none 0 0,.int .i64 0,.slice none 0 0],.int .i64 c])) W));cases h1:jap s1 l1 t1 k1
 ·rw [h1] at HR1;rw [Bool.false_and,jby,jbx];clear h1;go_enter Tryz.func53,Tryz.ntmps53
  go_wp2_with (first|(refine ZAL ?_;clear K r;intro W b K r)|(refine ZST ?_;clear K r;intro W K r))
  refine (HR1.out _ ZRD ZRD).mono ?_;exact ZQ69
 cases h2:jap s2 l2 t2 k2
 ·rw [h1] at HR1;rw [h2] at HR2;rw [Bool.true_and,jby,jbx];clear h1 h2;go_enter Tryz.func53,Tryz.ntmps53
  go_wp2_with (first|(refine ZAL ?_;clear K r;intro W b K r)|(refine ZST ?_;clear K r;intro W K r))
  refine (HR1.out _ ZRD ZRD).mono ?_;rintro e W' ⟨rfl,hb⟩;replace K:=K.keep hb;clear r;have r:=K.rawS;clear hb
  go_wp2_with (first|(refine ZAL ?_;clear K r;intro W b K r)|(refine ZST ?_;clear K r;intro W K r))
  refine (HR2.out _ ZRD ZRD).mono ?_;exact ZQ69
 rw [h1] at HR1;rw [h2] at HR2;obtain ⟨⟨S1,T1⟩,F1⟩:=jay h1;obtain ⟨⟨S2,T2⟩,F2⟩:=jay h2;have a1:=jaG F1;have a2:=jaJ F1;have a3:=jaG F2;have a4:=jaJ F2;rw [Bool.true_and];generalize ratF s1 l1 t1 k1=x at *;generalize ratF s2 l2 t2 k2=y at *;obtain ⟨z1,z2⟩:=jmN x y;have HS:=jmT (fun W r1 r2 r3 r4=>vSum x.num y.den y.num x.den s1 t2 s2 t1 A1 B2 A2 B1 n1 m2 n2 m1 c1 d2 c2 d1 l1 k2 l2 k1 W r1 r2 r3 r4 S1 T2 S2 T1 a1 a4 a3 a2);have HM:=jmT (fun W hl hm=>vMul x.den y.den t1 B1 m1 d1 k1 t2 B2 m2 d2 k2 W hl hm T1 T2 a2 a4);have HQ:=jmT (fun s A n cap l t A' n' cap' m W hl hm h1 h2=>jmS (sumE x.num y.den y.num x.den) (errZ true ((x.den:Int)*y.den)) (sumZ x.num y.den y.num x.den) (resZ true ((x.den:Int)*y.den)) s A n cap l t A' n' cap' m W hl hm h1 h2 (jhW _ _ _ _) (jaQ _ _));rw [z1,z2] at HQ;generalize sumE x.num y.den y.num x.den=E1 at *;generalize sumZ x.num y.den y.num x.den=Z1 at *
 generalize errZ true ((x.den:Int)*y.den)=E2 at *;generalize resZ true ((x.den:Int)*y.den)=Z2 at *;generalize binO true (addK x y) (x+y)=O at *;generalize binE true (addK x y)=E at *;clear z1 z2 S1 S2 T1 T2 F1 F2 a1 a2 a3 a4 h1 h2;go_enter Tryz.func53,Tryz.ntmps53
 go_wp2_with (first|(refine ZAL ?_;clear K r;intro W b K r)|(refine ZST ?_;clear K r;intro W K r))
 refine (HR1.out _ ZRD ZRD).mono ?_;rintro e W' ⟨rfl,hb⟩;replace K:=K.keep hb;clear r;have r:=K.rawS;clear hb
 go_wp2_with (first|(refine ZAL ?_;clear K r;intro W b K r)|(refine ZST ?_;clear K r;intro W K r))
 refine (HR2.out _ ZRD ZRD).mono ?_;rintro e W' ⟨rfl,hb⟩;replace K:=K.keep hb;clear r;have r:=K.rawS;clear hb
 go_wp2_with (first|(refine ZAL ?_;clear K r;intro W b K r)|(refine ZST ?_;clear K r;intro W K r))
 refine (HS.out _ ZRD ZRD ZRD ZRD).mono ?_;rintro e W' ⟨s5,A5,n5,c5,l5,rfl,hr,hs5,hf,hb⟩;have hf5:=jmT (hf.mono K.1.size);replace K:=K.ret hb hr hf;clear r;have r:=K.rawS;clear hr hf hb
 go_wp2_with (first|(refine ZAL ?_;clear K r;intro W b K r)|(refine ZST ?_;clear K r;intro W K r))
 refine (HM.out _ ZRD ZRD).mono ?_;rintro e W' ⟨s6,A6,n6,c6,l6,rfl,hr,hs6,hf,hb⟩;have hf6:=jmT (hf.mono K.1.size);replace K:=K.ret hb hr hf;clear r;have r:=K.rawS;clear hr hf hb
 go_wp2_with (first|(refine ZAL ?_;clear K r;intro W b K r)|(refine ZST ?_;clear K r;intro W K r))
 refine (HQ.out _ _ _ _ _ _ _ _ _ _ _ ZRD ZRD hs5 hs6).mono ?_;clear hs5 hs6;rintro e W' ⟨s7,A7,n7,c7,l7,t7,B7,m7,d7,k7,rfl,⟨hra,hrb⟩,ho,⟨hfa,hfb⟩,hb⟩;have hf7:=jmT (hfa.mono K.1.size);have hg7:=jmT (hfb.mono K.1.size);replace K:=K.retF hb hra hrb hfa hfb;clear r;have r:=K.rawS;clear hra hrb hfa hfb hb
 go_wp2_with (first|(refine ZAL ?_;clear K r;intro W b K r)|(refine ZST ?_;clear K r;intro W K r))
 have HE:=jmT (⟨s7,A7,n7,c7,l7,t7,B7,m7,d7,k7,rfl,⟨ZRD,ZRD⟩,ho,⟨hf7.out,hg7.out⟩,K.1⟩:FrE w O E (.returned (.tuple #[.agg #[.int .i64 s7,.slice A7 n7 c7,.int .i64 t7,.slice B7 m7 d7],.int .i64 E])) W);clear ho;exact bodyPost_ret (v:=.tuple #[.agg #[.int .i64 s7,.slice A7 n7 c7,.int .i64 t7,.slice B7 m7 d7],.int .i64 E]) (by simp [results,Tryz.results53,go_sem,r]) rfl HE.out
theorem jkx (s1 t1 s2 t2:Int) (A1 B1 A2 B2:Option Addr) (n1 c1 m1 d1 n2 c2 m2 d2:Nat) (l1 k1 l2 k2:List Int) (w:World) (r1:RdI w w.heap.size A1 n1 c1 l1) (q1:RdI w w.heap.size B1 m1 d1 k1) (r2:RdI w w.heap.size A2 n2 c2 l2) (q2:RdI w w.heap.size B2 m2 d2 k2) :
 Calls Tryz.prog 52 #[.agg #[.int .i64 s1,.slice A1 n1 c1,.int .i64 t1,.slice B1 m1 d1],.agg #[.int .i64 s2,.slice A2 n2 c2,.int .i64 t2,.slice B2 m2 d2]] w (FrE w (binO (jap s1 l1 t1 k1&&jap s2 l2 t2 k2) (mulK (ratF s1 l1 t1 k1) (ratF s2 l2 t2 k2)) (ratF s1 l1 t1 k1*ratF s2 l2 t2 k2)) (binE (jap s1 l1 t1 k1&&jap s2 l2 t2 k2) (mulK (ratF s1 l1 t1 k1) (ratF s2 l2 t2 k2)))):=by
 have K:=((((St.start w).oldRd r1).oldRd q1).oldRd r2).oldRd q2;have r:=K.raw;have HR1:=jmT (fun W h g=>ja3 s1 t1 A1 B1 n1 c1 m1 d1 l1 k1 W h g);have HR2:=jmT (fun W h g=>ja3 s2 t2 A2 B2 n2 c2 m2 d2 l2 k2 W h g);have Hno:=jmT (fun W (c:Int) (h:Below w.heap.size w W)=>(⟨0,none,0,0,[],0,none,0,0,[],rfl,⟨Rd.nil,Rd.nil⟩,⟨rfl,rfl,rfl,rfl⟩,⟨FrA.none,FrA.none⟩,h⟩:FrE w none c (.returned (.tuple #[.agg #[.int .i64 0,.slice none 0 0,.int .i64 0,.slice none 0 0],.int .i64 c])) W));cases h1:jap s1 l1 t1 k1
 ·rw [h1] at HR1;rw [Bool.false_and,jby,jbx];clear h1;go_enter Tryz.func52,Tryz.ntmps52
  go_wp2_with (first|(refine ZAL ?_;clear K r;intro W b K r)|(refine ZST ?_;clear K r;intro W K r))
  refine (HR1.out _ ZRD ZRD).mono ?_;exact ZQ68
 cases h2:jap s2 l2 t2 k2
 ·rw [h1] at HR1;rw [h2] at HR2;rw [Bool.true_and,jby,jbx];clear h1 h2;go_enter Tryz.func52,Tryz.ntmps52
  go_wp2_with (first|(refine ZAL ?_;clear K r;intro W b K r)|(refine ZST ?_;clear K r;intro W K r))
  refine (HR1.out _ ZRD ZRD).mono ?_;rintro e W' ⟨rfl,hb⟩;replace K:=K.keep hb;clear r;have r:=K.rawS;clear hb
  go_wp2_with (first|(refine ZAL ?_;clear K r;intro W b K r)|(refine ZST ?_;clear K r;intro W K r))
  refine (HR2.out _ ZRD ZRD).mono ?_;exact ZQ68
 rw [h1] at HR1;rw [h2] at HR2;obtain ⟨⟨S1,T1⟩,F1⟩:=jay h1;obtain ⟨⟨S2,T2⟩,F2⟩:=jay h2;have a1:=jaG F1;have a2:=jaJ F1;have a3:=jaG F2;have a4:=jaJ F2;rw [Bool.true_and];generalize ratF s1 l1 t1 k1=x at *;generalize ratF s2 l2 t2 k2=y at *;obtain ⟨z1,z2⟩:=jjh (a:=x.num*y.num) (Int.ne_of_gt (jbA x y)) (jgh x y);have HM1:=jmT (fun W hl hm=>vMul x.num y.num s1 A1 n1 c1 l1 s2 A2 n2 c2 l2 W hl hm S1 S2 a1 a3);have HM:=jmT (fun W hl hm=>vMul x.den y.den t1 B1 m1 d1 k1 t2 B2 m2 d2 k2 W hl hm T1 T2 a2 a4);have HQ:=jmT (fun s A n cap l t A' n' cap' m W hl hm h1 h2=>jmS (errZ true (x.num*y.num)) (errZ true ((x.den:Int)*y.den)) (resZ true (x.num*y.num)) (resZ true ((x.den:Int)*y.den)) s A n cap l t A' n' cap' m W hl hm h1 h2 (jaQ _ _) (jaQ _ _));rw [z1,z2] at HQ;have hK:mulK x y=(fits (x.num*y.num)&&fits ((x.den:Int)*y.den)):=rfl;rw [←hK] at HQ;generalize errZ true (x.num*y.num)=E1 at *
 generalize resZ true (x.num*y.num)=Z1 at *;generalize errZ true ((x.den:Int)*y.den)=E2 at *;generalize resZ true ((x.den:Int)*y.den)=Z2 at *;generalize binO true (mulK x y) (x*y)=O at *;generalize binE true (mulK x y)=E at *;clear z1 z2 hK S1 S2 T1 T2 F1 F2 a1 a2 a3 a4 h1 h2;go_enter Tryz.func52,Tryz.ntmps52
 go_wp2_with (first|(refine ZAL ?_;clear K r;intro W b K r)|(refine ZST ?_;clear K r;intro W K r))
 refine (HR1.out _ ZRD ZRD).mono ?_;rintro e W' ⟨rfl,hb⟩;replace K:=K.keep hb;clear r;have r:=K.rawS;clear hb
 go_wp2_with (first|(refine ZAL ?_;clear K r;intro W b K r)|(refine ZST ?_;clear K r;intro W K r))
 refine (HR2.out _ ZRD ZRD).mono ?_;rintro e W' ⟨rfl,hb⟩;replace K:=K.keep hb;clear r;have r:=K.rawS;clear hb
 go_wp2_with (first|(refine ZAL ?_;clear K r;intro W b K r)|(refine ZST ?_;clear K r;intro W K r))
 refine (HM1.out _ ZRD ZRD).mono ?_;rintro e W' ⟨s5,A5,n5,c5,l5,rfl,hr,hs5,hf,hb⟩;have hf5:=jmT (hf.mono K.1.size);replace K:=K.ret hb hr hf;clear r;have r:=K.rawS;clear hr hf hb
 go_wp2_with (first|(refine ZAL ?_;clear K r;intro W b K r)|(refine ZST ?_;clear K r;intro W K r))
 refine (HM.out _ ZRD ZRD).mono ?_;rintro e W' ⟨s6,A6,n6,c6,l6,rfl,hr,hs6,hf,hb⟩;have hf6:=jmT (hf.mono K.1.size);replace K:=K.ret hb hr hf;clear r;have r:=K.rawS;clear hr hf hb
 go_wp2_with (first|(refine ZAL ?_;clear K r;intro W b K r)|(refine ZST ?_;clear K r;intro W K r))
 refine (HQ.out _ _ _ _ _ _ _ _ _ _ _ ZRD ZRD hs5 hs6).mono ?_;clear hs5 hs6;rintro e W' ⟨s7,A7,n7,c7,l7,t7,B7,m7,d7,k7,rfl,⟨hra,hrb⟩,ho,⟨hfa,hfb⟩,hb⟩;have hf7:=jmT (hfa.mono K.1.size);have hg7:=jmT (hfb.mono K.1.size);replace K:=K.retF hb hra hrb hfa hfb;clear r;have r:=K.rawS;clear hra hrb hfa hfb hb
 go_wp2_with (first|(refine ZAL ?_;clear K r;intro W b K r)|(refine ZST ?_;clear K r;intro W K r))
 have HE:=jmT (⟨s7,A7,n7,c7,l7,t7,B7,m7,d7,k7,rfl,⟨ZRD,ZRD⟩,ho,⟨hf7.out,hg7.out⟩,K.1⟩:FrE w O E (.returned (.tuple #[.agg #[.int .i64 s7,.slice A7 n7 c7,.int .i64 t7,.slice B7 m7 d7],.int .i64 E])) W);clear ho;exact bodyPost_ret (v:=.tuple #[.agg #[.int .i64 s7,.slice A7 n7 c7,.int .i64 t7,.slice B7 m7 d7],.int .i64 E]) (by simp [results,Tryz.results52,go_sem,r]) rfl HE.out
def divO (ok:Bool) (x y:Rat):Option Rat:=if y=0 then none else binO ok (divK x y) (x / y)
def divE (ok:Bool) (x y:Rat):Int:=if ok=true∧y=0 then 15 else binE ok (divK x y)
theorem jeZ {x y:Rat}:divO false x y=none:=by unfold divO;rw [jby];split <;> rfl
theorem jeY {x y:Rat}:divE false x y=1:=by unfold divE;rw [if_neg Zb0,jbx]
theorem jg0 {y:Rat}:y=0↔y.num=0:=Rat.num_eq_zero.symm
theorem jkw (s1 t1 s2 t2:Int) (A1 B1 A2 B2:Option Addr) (n1 c1 m1 d1 n2 c2 m2 d2:Nat) (l1 k1 l2 k2:List Int) (w:World) (r1:RdI w w.heap.size A1 n1 c1 l1) (q1:RdI w w.heap.size B1 m1 d1 k1) (r2:RdI w w.heap.size A2 n2 c2 l2) (q2:RdI w w.heap.size B2 m2 d2 k2) :
 Calls Tryz.prog 128 #[.agg #[.int .i64 s1,.slice A1 n1 c1,.int .i64 t1,.slice B1 m1 d1],.agg #[.int .i64 s2,.slice A2 n2 c2,.int .i64 t2,.slice B2 m2 d2]] w (FrE w (divO (jap s1 l1 t1 k1&&jap s2 l2 t2 k2) (ratF s1 l1 t1 k1) (ratF s2 l2 t2 k2)) (divE (jap s1 l1 t1 k1&&jap s2 l2 t2 k2) (ratF s1 l1 t1 k1) (ratF s2 l2 t2 k2))):=by
 have K:=((((St.start w).oldRd r1).oldRd q1).oldRd r2).oldRd q2;have r:=K.raw;have HR1:=jmT (fun W h g=>ja3 s1 t1 A1 B1 n1 c1 m1 d1 l1 k1 W h g);have HR2:=jmT (fun W h g=>ja3 s2 t2 A2 B2 n2 c2 m2 d2 l2 k2 W h g);have Hno:=jmT (fun W (c:Int) (h:Below w.heap.size w W)=>(⟨0,none,0,0,[],0,none,0,0,[],rfl,⟨Rd.nil,Rd.nil⟩,⟨rfl,rfl,rfl,rfl⟩,⟨FrA.none,FrA.none⟩,h⟩:FrE w none c (.returned (.tuple #[.agg #[.int .i64 0,.slice none 0 0,.int .i64 0,.slice none 0 0],.int .i64 c])) W));cases h1:jap s1 l1 t1 k1
 ·rw [h1] at HR1;rw [Bool.false_and,jeZ,jeY];clear h1;go_enter Tryz.func128,Tryz.ntmps128
  go_wp2_with (first|(refine ZAL ?_;clear K r;intro W b K r)|(refine ZST ?_;clear K r;intro W K r))
  refine (HR1.out _ ZRD ZRD).mono ?_;exact ZQ65
 cases h2:jap s2 l2 t2 k2
 ·rw [h1] at HR1;rw [h2] at HR2;rw [Bool.true_and,jeZ,jeY];clear h1 h2;go_enter Tryz.func128,Tryz.ntmps128
  go_wp2_with (first|(refine ZAL ?_;clear K r;intro W b K r)|(refine ZST ?_;clear K r;intro W K r))
  refine (HR1.out _ ZRD ZRD).mono ?_;rintro e W' ⟨rfl,hb⟩;replace K:=K.keep hb;clear r;have r:=K.rawS;clear hb
  go_wp2_with (first|(refine ZAL ?_;clear K r;intro W b K r)|(refine ZST ?_;clear K r;intro W K r))
  refine (HR2.out _ ZRD ZRD).mono ?_;exact ZQ65
 rw [h1] at HR1;rw [h2] at HR2;obtain ⟨⟨S1,T1⟩,F1⟩:=jay h1;obtain ⟨⟨S2,T2⟩,F2⟩:=jay h2;have a1:=jaG F1;have a2:=jaJ F1;have a3:=jaG F2;have a4:=jaJ F2;rw [Bool.true_and];generalize ratF s1 l1 t1 k1=x at *;generalize ratF s2 l2 t2 k2=y at *;by_cases hy:y=0
 ·have hd:(s2==0)=true:=by rw [S2.1,hy];rfl
  have e1:divO true x y=none:=if_pos hy;have e2:divE true x y=15:=if_pos ⟨rfl,hy⟩;rw [e1,e2];clear e1 e2 S1 S2 T1 T2 F1 F2 a1 a2 a3 a4 h1 h2 hy;go_enter Tryz.func128,Tryz.ntmps128
  go_wp2_with (first|(refine ZAL ?_;clear K r;intro W b K r)|(refine ZST ?_;clear K r;intro W K r))
  refine (HR1.out _ ZRD ZRD).mono ?_;rintro e W' ⟨rfl,hb⟩;replace K:=K.keep hb;clear r;have r:=K.rawS;clear hb
  go_wp2_with (first|(refine ZAL ?_;clear K r;intro W b K r)|(refine ZST ?_;clear K r;intro W K r))
  refine (HR2.out _ ZRD ZRD).mono ?_;rintro e W' ⟨rfl,hb⟩;replace K:=K.keep hb;clear r;have r:=K.rawS;clear hb
  go_wp2_with (first|(refine ZAL ?_;clear K r;intro W b K r)|(refine ZST ?_;clear K r;intro W K r))
  exact bodyPost_ret (v:=.tuple #[.agg #[.int .i64 0,.slice none 0 0,.int .i64 0,.slice none 0 0],.int .i64 15]) (by simp [results,Tryz.results128,go_sem,r]) rfl (Hno.out _ _ K.1)
 have hyn:y.num≠0:=fun e=>hy (jg0.2 e)
 have hd:(s2==0)=false:=by
  rcases S2.signs with ⟨-,-,h⟩|⟨-,h,-⟩|⟨-,h,-⟩
  ·exact absurd h hyn
  ·simp [h]
  ·simp [h]
 have e1:divO true x y=binO true (divK x y) (x / y):=if_neg hy;have e2:divE true x y=binE true (divK x y):=if_neg (fun h=>hy h.2);rw [e1,e2];have hb0:(x.den:Int)*y.num≠0:=Int.mul_ne_zero (Int.ne_of_gt (jbY x)) hyn;obtain ⟨z1,z2⟩:=jjh (a:=x.num*y.den) hb0 (jgg x y);have HM1:=jmT (fun W hl hm=>vMul x.num y.den s1 A1 n1 c1 l1 t2 B2 m2 d2 k2 W hl hm S1 T2 a1 a4);have HM:=jmT (fun W hl hm=>vMul x.den y.num t1 B1 m1 d1 k1 s2 A2 n2 c2 l2 W hl hm T1 S2 a2 a3);have HQ:=jmT (fun s A n cap l t A' n' cap' m W hl hm h1 h2=>jmS (errZ true (x.num*y.den)) (errZ true ((x.den:Int)*y.num)) (resZ true (x.num*y.den)) (resZ true ((x.den:Int)*y.num)) s A n cap l t A' n' cap' m W hl hm h1 h2 (jaQ _ _) (jaQ _ _));rw [z1,z2] at HQ;have hK:divK x y=(fits (x.num*y.den)&&fits ((x.den:Int)*y.num)):=rfl;rw [←hK] at HQ;generalize errZ true (x.num*y.den)=E1 at *;generalize resZ true (x.num*y.den)=Z1 at *
 generalize errZ true ((x.den:Int)*y.num)=E2 at *;generalize resZ true ((x.den:Int)*y.num)=Z2 at *;generalize binO true (divK x y) (x / y)=O at *;generalize binE true (divK x y)=E at *;clear z1 z2 e1 e2 hK hb0 S1 S2 T1 T2 F1 F2 a1 a2 a3 a4 h1 h2 hy hyn;go_enter Tryz.func128,Tryz.ntmps128
 go_wp2_with (first|(refine ZAL ?_;clear K r;intro W b K r)|(refine ZST ?_;clear K r;intro W K r))
 refine (HR1.out _ ZRD ZRD).mono ?_;rintro e W' ⟨rfl,hb⟩;replace K:=K.keep hb;clear r;have r:=K.rawS;clear hb
 go_wp2_with (first|(refine ZAL ?_;clear K r;intro W b K r)|(refine ZST ?_;clear K r;intro W K r))
 refine (HR2.out _ ZRD ZRD).mono ?_;rintro e W' ⟨rfl,hb⟩;replace K:=K.keep hb;clear r;have r:=K.rawS;clear hb
 go_wp2_with (first|(refine ZAL ?_;clear K r;intro W b K r)|(refine ZST ?_;clear K r;intro W K r))
 refine (HM1.out _ ZRD ZRD).mono ?_;rintro e W' ⟨s5,A5,n5,c5,l5,rfl,hr,hs5,hf,hb⟩;have hf5:=jmT (hf.mono K.1.size);replace K:=K.ret hb hr hf;clear r;have r:=K.rawS;clear hr hf hb
 go_wp2_with (first|(refine ZAL ?_;clear K r;intro W b K r)|(refine ZST ?_;clear K r;intro W K r))
 refine (HM.out _ ZRD ZRD).mono ?_;rintro e W' ⟨s6,A6,n6,c6,l6,rfl,hr,hs6,hf,hb⟩;have hf6:=jmT (hf.mono K.1.size);replace K:=K.ret hb hr hf;clear r;have r:=K.rawS;clear hr hf hb
 go_wp2_with (first|(refine ZAL ?_;clear K r;intro W b K r)|(refine ZST ?_;clear K r;intro W K r))
 refine (HQ.out _ _ _ _ _ _ _ _ _ _ _ ZRD ZRD hs5 hs6).mono ?_;clear hs5 hs6;rintro e W' ⟨s7,A7,n7,c7,l7,t7,B7,m7,d7,k7,rfl,⟨hra,hrb⟩,ho,⟨hfa,hfb⟩,hb⟩;have hf7:=jmT (hfa.mono K.1.size);have hg7:=jmT (hfb.mono K.1.size);replace K:=K.retF hb hra hrb hfa hfb;clear r;have r:=K.rawS;clear hra hrb hfa hfb hb
 go_wp2_with (first|(refine ZAL ?_;clear K r;intro W b K r)|(refine ZST ?_;clear K r;intro W K r))
 have HE:=jmT (⟨s7,A7,n7,c7,l7,t7,B7,m7,d7,k7,rfl,⟨ZRD,ZRD⟩,ho,⟨hf7.out,hg7.out⟩,K.1⟩:FrE w O E (.returned (.tuple #[.agg #[.int .i64 s7,.slice A7 n7 c7,.int .i64 t7,.slice B7 m7 d7],.int .i64 E])) W);clear ho;exact bodyPost_ret (v:=.tuple #[.agg #[.int .i64 s7,.slice A7 n7 c7,.int .i64 t7,.slice B7 m7 d7],.int .i64 E]) (by simp [results,Tryz.results128,go_sem,r]) rfl HE.out
theorem vAddF (x y:Rat) (s1 t1 s2 t2:Int) (A1 B1 A2 B2:Option Addr) (n1 c1 m1 d1 n2 c2 m2 d2:Nat) (l1 k1 l2 k2:List Int) (w:World) (r1:RdI w w.heap.size A1 n1 c1 l1) (q1:RdI w w.heap.size B1 m1 d1 k1) (r2:RdI w w.heap.size A2 n2 c2 l2) (q2:RdI w w.heap.size B2 m2 d2 k2) (h1:StdF s1 l1 t1 k1 x) (h2:StdF s2 l2 t2 k2 y) (f1:jbc x=true) (f2:jbc y=true) :
 Calls Tryz.prog 53 #[.agg #[.int .i64 s1,.slice A1 n1 c1,.int .i64 t1,.slice B1 m1 d1],.agg #[.int .i64 s2,.slice A2 n2 c2,.int .i64 t2,.slice B2 m2 d2]] w (FrE w (binO true (addK x y) (x+y)) (binE true (addK x y))):=by
 have h:=jgM s1 t1 s2 t2 A1 B1 A2 B2 n1 c1 m1 d1 n2 c2 m2 d2 l1 k1 l2 k2 w r1 q1 r2 q2;rw [h1.right f1,h2.right f2,h1.rat,h2.rat] at h;exact h
theorem StdF.neg {s t s':Int} {l m l':List Int} {q:Rat} (h:StdF s l t m q) (h':Std s' l' (-q.num)):StdF s' l' t m (-q):=by
 unfold StdF;rw [Rat.neg_num,Rat.neg_den];exact ⟨h',h.2⟩
theorem jhV {q:Rat} (h:jbc q=true):jbc (-q)=true:=by
 unfold jbc;rw [Rat.neg_num,Rat.neg_den,jbp (jaG h),jaJ h];rfl
theorem jkz (s1 t1 s2 t2:Int) (A1 B1 A2 B2:Option Addr) (n1 c1 m1 d1 n2 c2 m2 d2:Nat) (l1 k1 l2 k2:List Int) (w:World) (r1:RdI w w.heap.size A1 n1 c1 l1) (q1:RdI w w.heap.size B1 m1 d1 k1) (r2:RdI w w.heap.size A2 n2 c2 l2) (q2:RdI w w.heap.size B2 m2 d2 k2) :
 Calls Tryz.prog 42 #[.agg #[.int .i64 s1,.slice A1 n1 c1,.int .i64 t1,.slice B1 m1 d1],.agg #[.int .i64 s2,.slice A2 n2 c2,.int .i64 t2,.slice B2 m2 d2]] w (FrE w (binO (jap s1 l1 t1 k1&&jap s2 l2 t2 k2) (addK (ratF s1 l1 t1 k1) (-ratF s2 l2 t2 k2)) (ratF s1 l1 t1 k1-ratF s2 l2 t2 k2)) (binE (jap s1 l1 t1 k1&&jap s2 l2 t2 k2) (addK (ratF s1 l1 t1 k1) (-ratF s2 l2 t2 k2)))):=by
 have K:=((((St.start w).oldRd r1).oldRd q1).oldRd r2).oldRd q2;have r:=K.raw;have HR1:=jmT (fun W h g=>ja3 s1 t1 A1 B1 n1 c1 m1 d1 l1 k1 W h g);have HR2:=jmT (fun W h g=>ja3 s2 t2 A2 B2 n2 c2 m2 d2 l2 k2 W h g);have Hno:=jmT (fun W (c:Int) (h:Below w.heap.size w W)=>(⟨0,none,0,0,[],0,none,0,0,[],rfl,⟨Rd.nil,Rd.nil⟩,⟨rfl,rfl,rfl,rfl⟩,⟨FrA.none,FrA.none⟩,h⟩:FrE w none c (.returned (.tuple #[.agg #[.int .i64 0,.slice none 0 0,.int .i64 0,.slice none 0 0],.int .i64 c])) W));cases h1:jap s1 l1 t1 k1
 ·rw [h1] at HR1;rw [Bool.false_and,jby,jbx];clear h1;go_enter Tryz.func42,Tryz.ntmps42
  go_wp2_with (first|(refine ZAL ?_;clear K r;(first|((fail_if_success revert b0);intro W b0 K r)|((fail_if_success revert b1);intro W b1 K r)|((fail_if_success revert b2);intro W b2 K r)|((fail_if_success revert b3);intro W b3 K r)|((fail_if_success revert b4);intro W b4 K r)|((fail_if_success revert b5);intro W b5 K r)|intro W b K r))|(refine ZST ?_;clear K r;intro W K r))
  refine (HR1.out _ ZRD ZRD).mono ?_;exact ZQ43
 cases h2:jap s2 l2 t2 k2
 ·rw [h1] at HR1;rw [h2] at HR2;rw [Bool.true_and,jby,jbx];clear h1 h2;go_enter Tryz.func42,Tryz.ntmps42
  go_wp2_with (first|(refine ZAL ?_;clear K r;(first|((fail_if_success revert b0);intro W b0 K r)|((fail_if_success revert b1);intro W b1 K r)|((fail_if_success revert b2);intro W b2 K r)|((fail_if_success revert b3);intro W b3 K r)|((fail_if_success revert b4);intro W b4 K r)|((fail_if_success revert b5);intro W b5 K r)|intro W b K r))|(refine ZST ?_;clear K r;intro W K r))
  refine (HR1.out _ ZRD ZRD).mono ?_;rintro e W' ⟨rfl,hb⟩;replace K:=K.keep hb;clear r;have r:=K.rawS;clear hb
  go_wp2_with (first|(refine ZAL ?_;clear K r;(first|((fail_if_success revert b0);intro W b0 K r)|((fail_if_success revert b1);intro W b1 K r)|((fail_if_success revert b2);intro W b2 K r)|((fail_if_success revert b3);intro W b3 K r)|((fail_if_success revert b4);intro W b4 K r)|((fail_if_success revert b5);intro W b5 K r)|intro W b K r))|(refine ZST ?_;clear K r;intro W K r))
  refine (HR2.out _ ZRD ZRD).mono ?_;exact ZQ43
 rw [h1] at HR1;rw [h2] at HR2;obtain ⟨S1,F1⟩:=jay h1;obtain ⟨S2,F2⟩:=jay h2;rw [Bool.true_and];generalize ratF s1 l1 t1 k1=x at *;generalize ratF s2 l2 t2 k2=y at *;rw [Rat.sub_eq_add_neg];have HN0:=jmT (fun W hl=>vNeg y.num s2 A2 n2 c2 l2 W hl S2.1 (jaG F2));have HA0:=jmT (fun s A n cap l W r1 q1 hl q2 (h:Std s l (-y.num))=>vAddF x (-y) s1 t1 s t2 A1 B1 A B2 n1 c1 m1 d1 n cap m2 d2 l1 k1 l k2 W r1 q1 hl q2 S1 (S2.neg h) F1 (jhV F2));generalize binO true (addK x (-y)) (x+ -y)=O at *;generalize binE true (addK x (-y))=E at *;generalize -y.num=yn at *;clear S1 S2 F1 F2 h1 h2;go_enter Tryz.func42,Tryz.ntmps42
 go_wp2_with (first|(refine ZAL ?_;clear K r;(first|((fail_if_success revert b0);intro W b0 K r)|((fail_if_success revert b1);intro W b1 K r)|((fail_if_success revert b2);intro W b2 K r)|((fail_if_success revert b3);intro W b3 K r)|((fail_if_success revert b4);intro W b4 K r)|((fail_if_success revert b5);intro W b5 K r)|intro W b K r))|(refine ZST ?_;clear K r;intro W K r))
 refine (HR1.out _ ZRD ZRD).mono ?_;rintro e W' ⟨rfl,hb⟩;replace K:=K.keep hb;clear r;have r:=K.rawS;clear hb
 go_wp2_with (first|(refine ZAL ?_;clear K r;(first|((fail_if_success revert b0);intro W b0 K r)|((fail_if_success revert b1);intro W b1 K r)|((fail_if_success revert b2);intro W b2 K r)|((fail_if_success revert b3);intro W b3 K r)|((fail_if_success revert b4);intro W b4 K r)|((fail_if_success revert b5);intro W b5 K r)|intro W b K r))|(refine ZST ?_;clear K r;intro W K r))
 refine (HR2.out _ ZRD ZRD).mono ?_;rintro e W' ⟨rfl,hb⟩;replace K:=K.keep hb;clear r;have r:=K.rawS;clear hb
 go_wp2_with (first|(refine ZAL ?_;clear K r;(first|((fail_if_success revert b0);intro W b0 K r)|((fail_if_success revert b1);intro W b1 K r)|((fail_if_success revert b2);intro W b2 K r)|((fail_if_success revert b3);intro W b3 K r)|((fail_if_success revert b4);intro W b4 K r)|((fail_if_success revert b5);intro W b5 K r)|intro W b K r))|(refine ZST ?_;clear K r;intro W K r))
 have X0:Sx w b2 50 4 [(b1,#[.int .i64 s2,.slice A2 n2 c2,.int .i64 t2,.slice B2 m2 d2],50),(b0,#[.int .i64 s1,.slice A1 n1 c1,.int .i64 t1,.slice B1 m1 d1],50)] [⟨rdP B2 m2 d2 k2,oldS w⟩,⟨rdP A2 n2 c2 l2,oldS w⟩,⟨rdP B1 m1 d1 k1,oldS w⟩,⟨rdP A1 n1 c1 l1,oldS w⟩] W':=Sx.of K rfl
 have HSx:=jmT (fun W (h:Sx w b2 50 4 [(b1,#[.int .i64 s2,.slice A2 n2 c2,.int .i64 t2,.slice B2 m2 d2],50),(b0,#[.int .i64 s1,.slice A1 n1 c1,.int .i64 t1,.slice B1 m1 d1],50)] [⟨rdP B2 m2 d2 k2,oldS w⟩,⟨rdP A2 n2 c2 l2,oldS w⟩,⟨rdP B1 m1 d1 k1,oldS w⟩,⟨rdP A1 n1 c1 l1,oldS w⟩] W)=>(show (Sx w b2 50 4 [(b1,#[.int .i64 s2,.slice A2 n2 c2,.int .i64 t2,.slice B2 m2 d2],50),(b0,#[.int .i64 s1,.slice A1 n1 c1,.int .i64 t1,.slice B1 m1 d1],50)] [⟨rdP B2 m2 d2 k2,oldS w⟩,⟨rdP A2 n2 c2 l2,oldS w⟩,⟨rdP B1 m1 d1 k1,oldS w⟩,⟨rdP A1 n1 c1 l1,oldS w⟩] W∧((W.cell? ⟨b1,0,none⟩=some (.int .i64 s2)∧W.cell? ⟨b1,1,none⟩=some (.slice A2 n2 c2)∧W.cell? ⟨b1,2,none⟩=some (.int .i64 t2)∧W.cell? ⟨b1,3,none⟩=some (.slice B2 m2 d2))∧W.cell? ⟨b0,0,none⟩=some (.int .i64 s1)∧W.cell? ⟨b0,1,none⟩=some (.slice A1 n1 c1)∧W.cell? ⟨b0,2,none⟩=some (.int .i64 t1)∧W.cell? ⟨b0,3,none⟩=some (.slice B1 m1 d1))∧(W.cell? ⟨b2,0,none⟩=some (jaB W ⟨b2,0,none⟩)∧W.cell? ⟨b2,1,none⟩=some (jaB W ⟨b2,1,none⟩)∧W.cell? ⟨b2,2,none⟩=some (jaB W ⟨b2,2,none⟩)∧W.cell? ⟨b2,3,none⟩=some (jaB W ⟨b2,3,none⟩))∧∀j,W.frozen? ⟨b2,j,none⟩=false) from by
  have r:=h.raw;simp only [Raw,RawC,and_true,Nat.zero_add,Nat.reduceAdd] at r
  exact ⟨h,r,⟨h.cell ZO,h.cell ZO,h.cell ZO,h.cell ZO⟩,h.thaw⟩))
 have HN:=jmT (fun W (h:Sx w b2 50 4 [(b1,#[.int .i64 s2,.slice A2 n2 c2,.int .i64 t2,.slice B2 m2 d2],50),(b0,#[.int .i64 s1,.slice A1 n1 c1,.int .i64 t1,.slice B1 m1 d1],50)] [⟨rdP B2 m2 d2 k2,oldS w⟩,⟨rdP A2 n2 c2 l2,oldS w⟩,⟨rdP B1 m1 d1 k1,oldS w⟩,⟨rdP A1 n1 c1 l1,oldS w⟩] W)=>(HN0.out W (h.rd ZMB)).mono fun e W' ⟨s5,A5,n5,c5,l5,he,hr,hs,hf,hb⟩=>(⟨s5,A5,n5,c5,l5,he,hr,hs,h.keep hb,hb⟩:∃s5 A5 n5 c5 l5,e=Ending.returned (.agg #[.int .i64 s5,.slice A5 n5 c5])∧RdI W' W'.heap.size A5 n5 c5 l5∧Std s5 l5 yn∧Sx w b2 50 4 [(b1,#[.int .i64 s2,.slice A2 n2 c2,.int .i64 t2,.slice B2 m2 d2],50),(b0,#[.int .i64 s1,.slice A1 n1 c1,.int .i64 t1,.slice B1 m1 d1],50)] [⟨rdP B2 m2 d2 k2,oldS w⟩,⟨rdP A2 n2 c2 l2,oldS w⟩,⟨rdP B1 m1 d1 k1,oldS w⟩,⟨rdP A1 n1 c1 l1,oldS w⟩] W'∧Below W.heap.size W W'))
 have HA:=jmT (fun s A n cap l W (hl:RdI W W.heap.size A n cap l) (hs:Std s l yn) (h:Sx w b2 50 4 [(b1,#[.int .i64 s2,.slice A2 n2 c2,.int .i64 t2,.slice B2 m2 d2],50),(b0,#[.int .i64 s1,.slice A1 n1 c1,.int .i64 t1,.slice B1 m1 d1],50)] [⟨rdP B2 m2 d2 k2,oldS w⟩,⟨rdP A2 n2 c2 l2,oldS w⟩,⟨rdP B1 m1 d1 k1,oldS w⟩,⟨rdP A1 n1 c1 l1,oldS w⟩] W)=>(HA0.out s A n cap l W (h.rd ZMB) (h.rd ZMB) hl (h.rd ZMB) hs).mono fun e W' ⟨s7,A7,n7,c7,l7,t7,B7,m7,d7,k7,he,hr,ho,hf,hb⟩=>(⟨s7,A7,n7,c7,l7,t7,B7,m7,d7,k7,he,hr,ho,⟨hf.1.mono h.lt,hf.2.mono h.lt⟩,h.keep hb⟩:∃s7 A7 n7 c7 l7 t7 B7 m7 d7 k7,e=Ending.returned (.tuple #[.agg #[.int .i64 s7,.slice A7 n7 c7,.int .i64 t7,.slice B7 m7 d7],.int .i64 E])∧(RdI W' W'.heap.size A7 n7 c7 l7∧RdI W' W'.heap.size B7 m7 d7 k7)∧OptF s7 l7 t7 k7 O∧(FrA (b2+1) A7∧FrA (b2+1) B7)∧Sx w b2 50 4 [(b1,#[.int .i64 s2,.slice A2 n2 c2,.int .i64 t2,.slice B2 m2 d2],50),(b0,#[.int .i64 s1,.slice A1 n1 c1,.int .i64 t1,.slice B1 m1 d1],50)] [⟨rdP B2 m2 d2 k2,oldS w⟩,⟨rdP A2 n2 c2 l2,oldS w⟩,⟨rdP B1 m1 d1 k1,oldS w⟩,⟨rdP A1 n1 c1 l1,oldS w⟩] W'))
 clear r K HN0 HA0
 go_region_held3 (fun W=>(Sx w b2 50 4 [(b1,#[.int .i64 s2,.slice A2 n2 c2,.int .i64 t2,.slice B2 m2 d2],50),(b0,#[.int .i64 s1,.slice A1 n1 c1,.int .i64 t1,.slice B1 m1 d1],50)] [⟨rdP B2 m2 d2 k2,oldS w⟩,⟨rdP A2 n2 c2 l2,oldS w⟩,⟨rdP B1 m1 d1 k1,oldS w⟩,⟨rdP A1 n1 c1 l1,oldS w⟩] W∧((W.cell? ⟨b1,0,none⟩=some (.int .i64 s2)∧W.cell? ⟨b1,1,none⟩=some (.slice A2 n2 c2)∧W.cell? ⟨b1,2,none⟩=some (.int .i64 t2)∧W.cell? ⟨b1,3,none⟩=some (.slice B2 m2 d2))∧W.cell? ⟨b0,0,none⟩=some (.int .i64 s1)∧W.cell? ⟨b0,1,none⟩=some (.slice A1 n1 c1)∧W.cell? ⟨b0,2,none⟩=some (.int .i64 t1)∧W.cell? ⟨b0,3,none⟩=some (.slice B1 m1 d1))∧(W.cell? ⟨b2,0,none⟩=some (jaB W ⟨b2,0,none⟩)∧W.cell? ⟨b2,1,none⟩=some (jaB W ⟨b2,1,none⟩)∧W.cell? ⟨b2,2,none⟩=some (jaB W ⟨b2,2,none⟩)∧W.cell? ⟨b2,3,none⟩=some (jaB W ⟨b2,3,none⟩))∧∀j,W.frozen? ⟨b2,j,none⟩=false))
  ((refine HSx.out _ ?_;first|assumption|exact X0.drew|exact (Sx.set4 Zb6).1|exact And.left Zb6))
  (first
   | (go_at_call 93;refine (HN.out _ (And.left Zb6)).mono ?_;rintro e w5 ⟨s5,A5,n5,c5,l5,rfl,hr5,hs5,x5,b5⟩)
   | (go_at_call 53;refine (HA.out _ _ _ _ _ _ Zb6 Zb6 (And.left Zb6)).mono ?_;rintro e w7 ⟨s7,A7,n7,c7,l7,t7,B7,m7,d7,k7,rfl,⟨hr7,hq7⟩,ho,⟨hf7,hg7⟩,x7⟩))
 all_goals
  obtain ⟨y1,y2⟩:=x7.set4 (u0:=.int .i64 s7) (u1:=.slice A7 n7 c7) (u2:=.int .i64 t7) (u3:=.slice B7 m7 d7);have HE:=jmT (⟨s7,A7,n7,c7,l7,t7,B7,m7,d7,k7,rfl,⟨(((hr7.setX hf7).setX hf7).setX hf7).setX hf7,(((hq7.setX hg7).setX hg7).setX hg7).setX hg7⟩,ho,⟨hf7.mono (Nat.le_succ_of_le x7.ge),hg7.mono (Nat.le_succ_of_le x7.ge)⟩,y1.below⟩:FrE w O E (.returned (.tuple #[.agg #[.int .i64 s7,.slice A7 n7 c7,.int .i64 t7,.slice B7 m7 d7],.int .i64 E])) ((((w7.setCell ⟨b2,0,none⟩ (.int .i64 s7)).setCell ⟨b2,1,none⟩ (.slice A7 n7 c7)).setCell ⟨b2,2,none⟩ (.int .i64 t7)).setCell ⟨b2,3,none⟩ (.slice B7 m7 d7)));clear hr7 hq7 hf7 hg7 x7 y1 ho hr5 hs5 x5 b5 X0
  go_wp2
  exact bodyPost_ret (v:=.tuple #[.agg #[.int .i64 s7,.slice A7 n7 c7,.int .i64 t7,.slice B7 m7 d7],.int .i64 E]) (by simp [results,Tryz.results42,go_sem,y2]) rfl HE.out
open Go.ChangeShapes Go.WideShapes Go.ChangeAt Go.RowKit Go.Deep
section
variable {H:Type} {enc:TypeId × Value→H} {w:World}
theorem jkQ:jc8 enc Tryz.prog w 38 2 (prE 1 (slE 4 fcE) (slE 5 (prE 1 (slE 4 fcE) fcE))) (fun _:List ((Int × List Int) × (Int × List Int)) × List (List ((Int × List Int) × (Int × List Int)) × ((Int × List Int) × (Int × List Int)))=>True):=by
 have h:=jb9 (enc:=enc) (w:=w) Tryz.underlying38 (sz:=2) Zb9
  (jb8 (s:=1) (s':=1) jd8 rfl Zb9 (jcp jkR rfl Zb9))
 exact ZQ89
variable {r:Reach} {b0:Nat} {v:Value} {d:DataW H} {p:List MemPlace}
theorem jj0 (hv:Value.okWide Tryz.prog w r b0 38 v) (hd:DataW.Trod enc Tryz.prog w 0 (fun _=>true) true 38 v d p) (hw:∀n∈d.weights Tryz.prog 38,n≤reachBytes) :
 ∃A n cap l A' m cap' ls,v=.agg #[.slice A n cap,.slice A' m cap']∧RdF w w.heap.size A n cap l∧RdR w w.heap.size A' m cap' ls:=by
 obtain ⟨cs,x,rfl,hr,_⟩:=jdH jkQ Tryz.underlying38 hv hd hw;obtain ⟨h1,h2⟩:=hr;obtain ⟨A,n,cap,e1,r1⟩:=h1;obtain ⟨A',m,cap',e2,r2⟩:=h2;refine ⟨A,n,cap,_,A',m,cap',_,?_,r1.mapC _ jdK,r2.mapC _ jkW⟩
 have e:cs.toList=[.slice A n cap,.slice A' m cap']:=by
  rw [←List.take_append_drop 1 cs.toList,e1,e2];rfl
 cases cs;simp only at e;subst e;rfl
end
end Go.Proofs.YtdlcglndhhndpaaGreat
