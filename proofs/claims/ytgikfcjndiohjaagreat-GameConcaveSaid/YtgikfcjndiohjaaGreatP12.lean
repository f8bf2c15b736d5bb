/- Laws and walks; conditions stand in each theorem. -/
import Derived.Test.YtgikfcjndiohjaaGreatP08
import Derived.Test.YtgikfcjndiohjaaGreatP11
set_option linter.unusedSimpArgs false
set_option linter.unusedVariables false
set_option maxHeartbeats 2000000
set_option maxRecDepth 100000
namespace Go.Proofs.YtgikfcjndiohjaaGreat
open Go.RowKit
theorem jb5 {z:Int} (h:fits z=true):resZ true z=z:=by unfold resZ;rw [if_pos ⟨rfl,h⟩]
theorem jb1 {z:Int} (h:fits z=true):errZ true z=0:=by unfold errZ;rw [if_neg Zb0,if_pos h]
theorem jkc {z:Int} (h:fits z=false):resZ true z=0:=by unfold resZ;rw [if_neg (by simp [h])]
theorem jch {z:Int} (h:fits z=false):errZ true z=6:=by unfold errZ;rw [if_neg Zb0,if_neg (by simp [h])]
theorem jbM {z:Int} (h:z.natAbs≤9223372036854775808):fits z=true:=jbU.2 (by
 have h1:pw 4=1208925819614629174706176:=by simp [pw]
 have h2:=jbY (show 4≤60 by omega)
 omega)
theorem jfF:fits 0=true:=jbM Zb0
theorem jbb (b:Bool) (z:Int):fits (resZ b z)=true:=by
 unfold resZ
 split
 ·rename_i h;exact h.2
 ·exact jfF
section
variable {w W W':World} {L:List Blk} {D:List Hl}
theorem St.retF (h:St w L D W) (hb:Below W.heap.size W W') {A A':Option Addr} {n cap n' cap':Nat} {l m:List Int} (hl:RdI W' W'.heap.size A n cap l) (hm:RdI W' W'.heap.size A' n' cap' m) (hA:FrA W.heap.size A) (hA':FrA W.heap.size A') :
 St w L (⟨rdP A' n' cap' m,rdS A' n'⟩::⟨rdP A n cap l,rdS A n⟩::D) W':=by
 have h1:=h.ret hb hl hA
 have h2:=h.ret hb hm hA'
 exact h1.add (h2.2.2.2 _ List.mem_cons_self)
end
theorem vNew (x y:Int) (s:Int) (A:Option Addr) (n cap:Nat) (l:List Int) (t:Int) (A':Option Addr) (n' cap':Nat) (m:List Int) (W:World) (hl:RdI W W.heap.size A n cap l) (hm:RdI W W.heap.size A' n' cap' m) (h1:Std s l x) (h2:Std t m y) (f1:fits x=true) (f2:fits y=true) :
 Calls Tryz.prog 95 #[.agg #[.int .i64 s,.slice A n cap],.agg #[.int .i64 t,.slice A' n' cap']] W (FrE W (newO true x y) (newE true y)):=by
 have h:=jmd s t A A' n cap n' cap' l m W hl hm
 rw [h1.right f1,h2.right f2,h1.val,h2.val] at h
 exact h
theorem jjh (p q:Int) (w:World) (hp: -9223372036854775808≤p∧p≤9223372036854775807) (hq: -9223372036854775808≤q∧q≤9223372036854775807) :
 Calls Tryz.prog 67 #[.int .i64 p,.int .i64 q] w (FrE w (newO true p q) (newE true q)):=by
 have K:=St.start w
 have r:=K.raw
 have HO1:=jpk (fun W=>jhS p W hp)
 have HO2:=jpk (fun W=>jhS q W hq)
 have HN:=jpk (fun s A n cap l t A' n' cap' m W hl hm h1 h2=>vNew p q s A n cap l t A' n' cap' m W hl hm h1 h2 (jbM ZO) (jbM ZO))
 generalize newO true p q=O at *
 generalize newE true q=E at *
 clear hp hq
 go_enter Tryz.func67,Tryz.ntmps67
 go_wp2_with (first|(refine ZAL ?_;clear K r;intro W b K r)|(refine ZST ?_;clear K r;intro W K r))
 refine (HO1.out _).mono ?_
 rintro e W' ⟨s1,A1,n1,c1,l1,rfl,hr,hs1,hf,hb⟩
 have hf1:=jpk (hf.mono K.1.size)
 replace K:=K.ret hb hr hf
 clear r
 have r:=K.rawS
 clear hr hf hb
 go_wp2_with (first|(refine ZAL ?_;clear K r;intro W b K r)|(refine ZST ?_;clear K r;intro W K r))
 refine (HO2.out _).mono ?_
 rintro e W' ⟨s2,A2,n2,c2,l2,rfl,hr,hs2,hf,hb⟩
 have hf2:=jpk (hf.mono K.1.size)
 replace K:=K.ret hb hr hf
 clear r
 have r:=K.rawS
 clear hr hf hb
 go_wp2_with (first|(refine ZAL ?_;clear K r;intro W b K r)|(refine ZST ?_;clear K r;intro W K r))
 refine (HN.out _ _ _ _ _ _ _ _ _ _ _ ZRD ZRD hs1 hs2).mono ?_
 rintro e W' ⟨s3,A3,n3,c3,l3,t3,B3,m3,d3,k3,rfl,⟨hra,hrb⟩,ho,⟨hfa,hfb⟩,hb⟩
 have hf3:=jpk (hfa.mono K.1.size)
 have hg3:=jpk (hfb.mono K.1.size)
 replace K:=K.retF hb hra hrb hfa hfb
 clear r
 have r:=K.rawS
 clear hra hrb hfa hfb hb
 go_wp2_with (first|(refine ZAL ?_;clear K r;intro W b K r)|(refine ZST ?_;clear K r;intro W K r))
 have HE:=jpk (⟨s3,A3,n3,c3,l3,t3,B3,m3,d3,k3,rfl,⟨ZRD,ZRD⟩,ho,⟨hf3.out,hg3.out⟩,K.1⟩:FrE w O E (.returned (.tuple #[.agg #[.int .i64 s3,.slice A3 n3 c3,.int .i64 t3,.slice B3 m3 d3],.int .i64 E])) W)
 clear hs1 hs2 ho
 exact bodyPost_ret (v:=.tuple #[.agg #[.int .i64 s3,.slice A3 n3 c3,.int .i64 t3,.slice B3 m3 d3],.int .i64 E]) (by simp [results,Tryz.results67,go_sem,r]) rfl HE.out
def quoO (e f:Int) (x y:Int):Option Rat:=if e=0∧f=0 then newO true x y else none
def quoE (e f:Int) (y:Int):Int:=if e=0∧f=0 then newE true y else 6
theorem jph (e f x y:Int) (s:Int) (A:Option Addr) (n cap:Nat) (l:List Int) (t:Int) (A':Option Addr) (n' cap':Nat) (m:List Int) (w:World) (hl:RdI w w.heap.size A n cap l) (hm:RdI w w.heap.size A' n' cap' m) (h1:Std s l x) (h2:Std t m y) (f1:fits x=true) (f2:fits y=true) :
 Calls Tryz.prog 54 #[.agg #[.int .i64 s,.slice A n cap],.int .i64 e,.agg #[.int .i64 t,.slice A' n' cap'],.int .i64 f] w (FrE w (quoO e f x y) (quoE e f y)):=by
 have K:=((St.start w).oldRd hl).oldRd hm
 have r:=K.raw
 have Hno:=jpk (fun W (c:Int) (h:Below w.heap.size w W)=>(⟨0,none,0,0,[],0,none,0,0,[],rfl,⟨Rd.nil,Rd.nil⟩,⟨rfl,rfl,rfl,rfl⟩,⟨FrA.none,FrA.none⟩,h⟩:FrE w none c (.returned (.tuple #[.agg #[.int .i64 0,.slice none 0 0,.int .i64 0,.slice none 0 0],.int .i64 c])) W))
 by_cases he:e=0
 case neg =>
  have e1:quoO e f x y=none:=if_neg (fun h=>he h.1)
  have e2:quoE e f y=6:=if_neg (fun h=>he h.1)
  have hd:(e !=0)=true:=by simp [he]
  rw [e1,e2]
  clear e1 e2 he h1 h2 f1 f2
  exact ZQ63
 subst he
 by_cases hf:f=0
 case neg =>
  have e1:quoO 0 f x y=none:=if_neg (fun h=>hf h.2)
  have e2:quoE 0 f y=6:=if_neg (fun h=>hf h.2)
  have hd:(f !=0)=true:=by simp [hf]
  rw [e1,e2]
  clear e1 e2 hf h1 h2 f1 f2
  exact ZQ63
 subst hf
 have HN:=jpk (fun W hl hm=>vNew x y s A n cap l t A' n' cap' m W hl hm h1 h2 f1 f2)
 have e1:quoO 0 0 x y=newO true x y:=if_pos ⟨rfl,rfl⟩
 have e2:quoE 0 0 y=newE true y:=if_pos ⟨rfl,rfl⟩
 rw [e1,e2]
 generalize newO true x y=O at *
 generalize newE true y=E at *
 clear e1 e2 h1 h2 f1 f2
 go_enter Tryz.func54,Tryz.ntmps54
 go_wp2_with (first|(refine ZAL ?_;clear K r;intro W b K r)|(refine ZST ?_;clear K r;intro W K r))
 refine (HN.out _ ZRD ZRD).mono ?_
 rintro e W' ⟨s3,A3,n3,c3,l3,t3,B3,m3,d3,k3,rfl,⟨hra,hrb⟩,ho,⟨hfa,hfb⟩,hb⟩
 have hf3:=jpk (hfa.mono K.1.size)
 have hg3:=jpk (hfb.mono K.1.size)
 replace K:=K.retF hb hra hrb hfa hfb
 clear r
 have r:=K.rawS
 clear hra hrb hfa hfb hb
 go_wp2_with (first|(refine ZAL ?_;clear K r;intro W b K r)|(refine ZST ?_;clear K r;intro W K r))
 have HE:=jpk (⟨s3,A3,n3,c3,l3,t3,B3,m3,d3,k3,rfl,⟨ZRD,ZRD⟩,ho,⟨hf3.out,hg3.out⟩,K.1⟩:FrE w O E (.returned (.tuple #[.agg #[.int .i64 s3,.slice A3 n3 c3,.int .i64 t3,.slice B3 m3 d3],.int .i64 E])) W)
 clear ho
 exact bodyPost_ret (v:=.tuple #[.agg #[.int .i64 s3,.slice A3 n3 c3,.int .i64 t3,.slice B3 m3 d3],.int .i64 E]) (by simp [results,Tryz.results54,go_sem,r]) rfl HE.out
def sumK (a b c d:Int):Bool:=fits (a*b)&&(fits (c*d)&&fits (a*b+c*d))
def sumZ (a b c d:Int):Int:=if sumK a b c d=true then a*b+c*d else 0
def sumE (a b c d:Int):Int:=if sumK a b c d=true then 0 else 6
theorem jjw (a b c d:Int):fits (sumZ a b c d)=true:=by
 unfold sumZ sumK
 split
 ·rename_i h
  simp only [Bool.and_eq_true] at h
  exact h.2.2
 ·exact jfF
theorem vSum (a b c d:Int) (s1 s2 s3 s4:Int) (A1 A2 A3 A4:Option Addr) (n1 n2 n3 n4 c1 c2 c3 c4:Nat) (l1 l2 l3 l4:List Int) (w:World) (r1:RdI w w.heap.size A1 n1 c1 l1) (r2:RdI w w.heap.size A2 n2 c2 l2) (r3:RdI w w.heap.size A3 n3 c3 l3) (r4:RdI w w.heap.size A4 n4 c4 l4)
 (h1:Std s1 l1 a) (h2:Std s2 l2 b) (h3:Std s3 l3 c) (h4:Std s4 l4 d) (f1:fits a=true) (f2:fits b=true) (f3:fits c=true) (f4:fits d=true) :
 Calls Tryz.prog 52 #[.agg #[.int .i64 s1,.slice A1 n1 c1],.agg #[.int .i64 s2,.slice A2 n2 c2],.agg #[.int .i64 s3,.slice A3 n3 c3],.agg #[.int .i64 s4,.slice A4 n4 c4]] w (BigE w (sumZ a b c d) (sumE a b c d)):=by
 have K:=((((St.start w).oldRd r1).oldRd r2).oldRd r3).oldRd r4
 have r:=K.raw
 have HM1:=jpk (fun W hl hm=>vMul a b s1 A1 n1 c1 l1 s2 A2 n2 c2 l2 W hl hm h1 h2 f1 f2)
 have HM2:=jpk (fun W hl hm=>vMul c d s3 A3 n3 c3 l3 s4 A4 n4 c4 l4 W hl hm h3 h4 f3 f4)
 have HA:=jpk (fun s A n cap l t A' n' cap' m W hl hm h1 h2 f1 f2=>vAdd (a*b) (c*d) s A n cap l t A' n' cap' m W hl hm h1 h2 f1 f2)
 cases k1:fits (a*b)
 ·have e1:sumZ a b c d=0:=by unfold sumZ sumK;rw [k1];rfl
  have e2:sumE a b c d=6:=by unfold sumE sumK;rw [k1];rfl
  rw [jkc k1,jch k1] at HM1
  rw [e1,e2]
  clear e1 e2 k1 h1 h2 h3 h4 f1 f2 f3 f4
  go_enter Tryz.func52,Tryz.ntmps52
  go_wp2_with (first|(refine ZAL ?_;clear K r;intro W b K r)|(refine ZST ?_;clear K r;intro W K r))
  refine (HM1.out _ ZRD ZRD).mono ?_
  rintro e W' ⟨s5,A5,n5,c5,l5,rfl,hr,hs5,hf,hb⟩
  have hf5:=jpk (hf.mono K.1.size)
  replace K:=K.ret hb hr hf
  clear r
  have r:=K.rawS
  clear hr hf hb
  clear hs5
  exact ZQ69
 cases k2:fits (c*d)
 ·have e1:sumZ a b c d=0:=by unfold sumZ sumK;rw [k2,k1];rfl
  have e2:sumE a b c d=6:=by unfold sumE sumK;rw [k2,k1];rfl
  rw [jb5 k1,jb1 k1] at HM1
  rw [jkc k2,jch k2] at HM2
  rw [e1,e2]
  clear e1 e2 k1 k2 h1 h2 h3 h4 f1 f2 f3 f4
  go_enter Tryz.func52,Tryz.ntmps52
  go_wp2_with (first|(refine ZAL ?_;clear K r;intro W b K r)|(refine ZST ?_;clear K r;intro W K r))
  refine (HM1.out _ ZRD ZRD).mono ?_
  rintro e W' ⟨s5,A5,n5,c5,l5,rfl,hr,hs5,hf,hb⟩
  have hf5:=jpk (hf.mono K.1.size)
  replace K:=K.ret hb hr hf
  clear r
  have r:=K.rawS
  clear hr hf hb
  clear hs5
  go_wp2_with (first|(refine ZAL ?_;clear K r;intro W b K r)|(refine ZST ?_;clear K r;intro W K r))
  refine (HM2.out _ ZRD ZRD).mono ?_
  rintro e W' ⟨s6,A6,n6,c6,l6,rfl,hr,hs6,hf,hb⟩
  have hf6:=jpk (hf.mono K.1.size)
  replace K:=K.ret hb hr hf
  clear r
  have r:=K.rawS
  clear hr hf hb
  clear hs6
  exact ZQ69
 have e1:sumZ a b c d=resZ true (a*b+c*d):=by
  unfold sumZ sumK;rw [k2,k1,Bool.true_and,Bool.true_and]
  cases k3:fits (a*b+c*d)
  ·rw [jkc k3];rfl
  ·rw [jb5 k3];rfl
 have e2:sumE a b c d=errZ true (a*b+c*d):=by
  unfold sumE sumK;rw [k2,k1,Bool.true_and,Bool.true_and]
  cases k3:fits (a*b+c*d)
  ·rw [jch k3];rfl
  ·rw [jb1 k3];rfl
 rw [jb5 k1,jb1 k1] at HM1
 rw [jb5 k2,jb1 k2] at HM2
 have HA:=jpk (fun s A n cap l t A' n' cap' m W hl hm h1 h2=>vAdd (a*b) (c*d) s A n cap l t A' n' cap' m W hl hm h1 h2 k1 k2)
 rw [e1,e2]
 generalize resZ true (a*b+c*d)=RZ at *
 generalize errZ true (a*b+c*d)=EZ at *
 clear e1 e2 k1 k2 h1 h2 h3 h4 f1 f2 f3 f4
 go_enter Tryz.func52,Tryz.ntmps52
 go_wp2_with (first|(refine ZAL ?_;clear K r;intro W b K r)|(refine ZST ?_;clear K r;intro W K r))
 refine (HM1.out _ ZRD ZRD).mono ?_
 rintro e W' ⟨s5,A5,n5,c5,l5,rfl,hr,hs5,hf,hb⟩
 have hf5:=jpk (hf.mono K.1.size)
 replace K:=K.ret hb hr hf
 clear r
 have r:=K.rawS
 clear hr hf hb
 go_wp2_with (first|(refine ZAL ?_;clear K r;intro W b K r)|(refine ZST ?_;clear K r;intro W K r))
 refine (HM2.out _ ZRD ZRD).mono ?_
 rintro e W' ⟨s6,A6,n6,c6,l6,rfl,hr,hs6,hf,hb⟩
 have hf6:=jpk (hf.mono K.1.size)
 replace K:=K.ret hb hr hf
 clear r
 have r:=K.rawS
 clear hr hf hb
 go_wp2_with (first|(refine ZAL ?_;clear K r;intro W b K r)|(refine ZST ?_;clear K r;intro W K r))
 refine (HA.out _ _ _ _ _ _ _ _ _ _ _ ZRD ZRD hs5 hs6).mono ?_
 rintro e W' ⟨s7,A7,n7,c7,l7,rfl,hr,hs7,hf,hb⟩
 have hf7:=jpk (hf.mono K.1.size)
 replace K:=K.ret hb hr hf
 clear r
 have r:=K.rawS
 clear hr hf hb
 go_wp2_with (first|(refine ZAL ?_;clear K r;intro W b K r)|(refine ZST ?_;clear K r;intro W K r))
 have HE:=jpk (⟨s7,A7,n7,c7,l7,rfl,ZRD,hs7,hf7.out,K.1⟩:BigE w RZ EZ (.returned (.tuple #[.agg #[.int .i64 s7,.slice A7 n7 c7],.int .i64 EZ])) W)
 clear hs5 hs6 hs7
 exact bodyPost_ret (v:=.tuple #[.agg #[.int .i64 s7,.slice A7 n7 c7],.int .i64 EZ]) (by simp [results,Tryz.results52,go_sem,r]) rfl HE.out
def binO (ok k:Bool) (z:Rat):Option Rat:=if ok=true∧k=true then some z else none
def binE (ok k:Bool):Int:=if ok=false then 1 else if k=true then 0 else 6
theorem jbH {k:Bool} {z:Rat}:binO false k z=none:=if_neg Zb0
theorem jbG {k:Bool}:binE false k=1:=if_pos rfl
def addK (x y:Rat):Bool:=sumK x.num y.den y.num x.den&&fits ((x.den:Int)*y.den)
def mulK (x y:Rat):Bool:=fits (x.num*y.num)&&fits ((x.den:Int)*y.den)
def divK (x y:Rat):Bool:=fits (x.num*y.den)&&fits ((x.den:Int)*y.num)
theorem jfn (x y:Rat):Rat.divInt (x.num*y.den+y.num*x.den) ((x.den:Int)*y.den)=x+y:=by
 have h1:=jbr x;have h2:=jbr y
 have h:=Rat.divInt_add_divInt x.num y.num (d₁:=x.den) (d₂:=y.den) ZO ZO
 rw [jbR,jbR] at h
 exact h.symm
theorem jfp (x y:Rat):Rat.divInt (x.num*y.num) ((x.den:Int)*y.den)=x*y:=by
 have h:=Rat.divInt_mul_divInt x.num y.num (d₁:=x.den) (d₂:=y.den)
 rw [jbR,jbR] at h
 exact h.symm
theorem jj7 (x y:Rat):Rat.divInt (x.num*y.den) ((x.den:Int)*y.num)=x / y:=by
 have h:=Rat.divInt_mul_divInt x.num y.den (d₁:=x.den) (d₂:=y.num)
 rw [jbR] at h
 rw [←h,Rat.div_def,Rat.inv_def]
theorem jba (x y:Rat):0<(x.den:Int)*y.den:=Int.mul_pos (jbr x) (jbr y)
theorem jaK {x:Rat} (h:jaF x=true):fits x.num=true:=by unfold jaF at h;rw [Bool.and_eq_true] at h;exact h.1
theorem jaQ {x:Rat} (h:jaF x=true):fits x.den=true:=by unfold jaF at h;rw [Bool.and_eq_true] at h;exact h.2
theorem jpa (x y:Rat):quoO (sumE x.num y.den y.num x.den) (errZ true ((x.den:Int)*y.den)) (sumZ x.num y.den y.num x.den) (resZ true ((x.den:Int)*y.den))=binO true (addK x y) (x+y) ∧
 quoE (sumE x.num y.den y.num x.den) (errZ true ((x.den:Int)*y.den)) (resZ true ((x.den:Int)*y.den))=binE true (addK x y):=by
 have hp:=jba x y
 have h1:=jfn x y
 unfold quoO quoE sumE sumZ addK
 cases k1:sumK x.num y.den y.num x.den
 ·rw [Bool.false_and]
  exact ZQ67
 ·cases k2:fits ((x.den:Int)*y.den)
  ·rw [jch k2]
   exact ZQ67
  ·rw [jb1 k2,jb5 k2,if_pos rfl,if_pos rfl,if_pos ⟨rfl,rfl⟩,if_pos ⟨rfl,rfl⟩,jbk ZO,jbj ZO,h1]
   exact ⟨(if_pos ⟨rfl,rfl⟩).symm,by unfold binE;simp⟩
theorem jj5 {a b:Int} {z:Rat} (hb:b≠0) (hz:Rat.divInt a b=z):quoO (errZ true a) (errZ true b) (resZ true a) (resZ true b)=binO true (fits a&&fits b) z∧quoE (errZ true a) (errZ true b) (resZ true b)=binE true (fits a&&fits b):=by
 unfold quoO quoE
 cases k1:fits a
 ·rw [jch k1]
  exact ZQ67
 ·cases k2:fits b
  ·rw [jch k2]
   exact ZQ67
  ·rw [jb1 k1,jb1 k2,jb5 k1,jb5 k2,if_pos ⟨rfl,rfl⟩,if_pos ⟨rfl,rfl⟩,jbk hb,jbj hb,hz]
   exact ⟨(if_pos ⟨rfl,rfl⟩).symm,by unfold binE;simp⟩
theorem je5 (s1 t1 s2 t2:Int) (A1 B1 A2 B2:Option Addr) (n1 c1 m1 d1 n2 c2 m2 d2:Nat) (l1 k1 l2 k2:List Int) (w:World) (r1:RdI w w.heap.size A1 n1 c1 l1) (q1:RdI w w.heap.size B1 m1 d1 k1) (r2:RdI w w.heap.size A2 n2 c2 l2) (q2:RdI w w.heap.size B2 m2 d2 k2) :
 Calls Tryz.prog 21 #[.agg #[.int .i64 s1,.slice A1 n1 c1,.int .i64 t1,.slice B1 m1 d1],.agg #[.int .i64 s2,.slice A2 n2 c2,.int .i64 t2,.slice B2 m2 d2]] w (FrE w (binO (jam s1 l1 t1 k1&&jam s2 l2 t2 k2) (addK (ratF s1 l1 t1 k1) (ratF s2 l2 t2 k2)) (ratF s1 l1 t1 k1+ratF s2 l2 t2 k2)) (binE (jam s1 l1 t1 k1&&jam s2 l2 t2 k2) (addK (ratF s1 l1 t1 k1) (ratF s2 l2 t2 k2)))):=by
 have K:=((((St.start w).oldRd r1).oldRd q1).oldRd r2).oldRd q2
 have r:=K.raw
 have HR1:=jpk (fun W h g=>jaT s1 t1 A1 B1 n1 c1 m1 d1 l1 k1 W h g)
 have HR2:=jpk (fun W h g=>jaT s2 t2 A2 B2 n2 c2 m2 d2 l2 k2 W h g)
 have Hno:=jpk (fun W (c:Int) (h:Below w.heap.size w W)=>(⟨0,none,0,0,[],0,none,0,0,[],rfl,⟨Rd.nil,Rd.nil⟩,⟨rfl,rfl,rfl,rfl⟩,⟨FrA.none,FrA.none⟩,h⟩:FrE w none c (.returned (.tuple #[.agg #[.int .i64 0,.slice none 0 0,.int .i64 0,.slice none 0 0],.int .i64 c])) W))
 cases h1:jam s1 l1 t1 k1
 ·rw [h1] at HR1
  rw [Bool.false_and,jbH,jbG]
  clear h1
  go_enter Tryz.func21,Tryz.ntmps21
  go_wp2_with (first|(refine ZAL ?_;clear K r;intro W b K r)|(refine ZST ?_;clear K r;intro W K r))
  refine (HR1.out _ ZRD ZRD).mono ?_
  exact ZQ58
 cases h2:jam s2 l2 t2 k2
 ·rw [h1] at HR1
  rw [h2] at HR2
  rw [Bool.true_and,jbH,jbG]
  clear h1 h2
  go_enter Tryz.func21,Tryz.ntmps21
  go_wp2_with (first|(refine ZAL ?_;clear K r;intro W b K r)|(refine ZST ?_;clear K r;intro W K r))
  refine (HR1.out _ ZRD ZRD).mono ?_
  rintro e W' ⟨rfl,hb⟩
  replace K:=K.keep hb
  clear r
  have r:=K.rawS
  clear hb
  go_wp2_with (first|(refine ZAL ?_;clear K r;intro W b K r)|(refine ZST ?_;clear K r;intro W K r))
  refine (HR2.out _ ZRD ZRD).mono ?_
  exact ZQ58
 rw [h1] at HR1
 rw [h2] at HR2
 obtain ⟨⟨S1,T1⟩,F1⟩:=jay h1
 obtain ⟨⟨S2,T2⟩,F2⟩:=jay h2
 have a1:=jaK F1
 have a2:=jaQ F1
 have a3:=jaK F2
 have a4:=jaQ F2
 rw [Bool.true_and]
 generalize ratF s1 l1 t1 k1=x at *
 generalize ratF s2 l2 t2 k2=y at *
 obtain ⟨z1,z2⟩:=jpa x y
 have HS:=jpk (fun W r1 r2 r3 r4=>vSum x.num y.den y.num x.den s1 t2 s2 t1 A1 B2 A2 B1 n1 m2 n2 m1 c1 d2 c2 d1 l1 k2 l2 k1 W r1 r2 r3 r4 S1 T2 S2 T1 a1 a4 a3 a2)
 have HM:=jpk (fun W hl hm=>vMul x.den y.den t1 B1 m1 d1 k1 t2 B2 m2 d2 k2 W hl hm T1 T2 a2 a4)
 have HQ:=jpk (fun s A n cap l t A' n' cap' m W hl hm h1 h2=>jph (sumE x.num y.den y.num x.den) (errZ true ((x.den:Int)*y.den)) (sumZ x.num y.den y.num x.den) (resZ true ((x.den:Int)*y.den)) s A n cap l t A' n' cap' m W hl hm h1 h2 (jjw _ _ _ _) (jbb _ _))
 rw [z1,z2] at HQ
 generalize sumE x.num y.den y.num x.den=E1 at *
 generalize sumZ x.num y.den y.num x.den=Z1 at *
 generalize errZ true ((x.den:Int)*y.den)=E2 at *
 generalize resZ true ((x.den:Int)*y.den)=Z2 at *
 generalize binO true (addK x y) (x+y)=O at *
 generalize binE true (addK x y)=E at *
 clear z1 z2 S1 S2 T1 T2 F1 F2 a1 a2 a3 a4 h1 h2
 go_enter Tryz.func21,Tryz.ntmps21
 go_wp2_with (first|(refine ZAL ?_;clear K r;intro W b K r)|(refine ZST ?_;clear K r;intro W K r))
 refine (HR1.out _ ZRD ZRD).mono ?_
 rintro e W' ⟨rfl,hb⟩
 replace K:=K.keep hb
 clear r
 have r:=K.rawS
 clear hb
 go_wp2_with (first|(refine ZAL ?_;clear K r;intro W b K r)|(refine ZST ?_;clear K r;intro W K r))
 refine (HR2.out _ ZRD ZRD).mono ?_
 rintro e W' ⟨rfl,hb⟩
 replace K:=K.keep hb
 clear r
 have r:=K.rawS
 clear hb
 go_wp2_with (first|(refine ZAL ?_;clear K r;intro W b K r)|(refine ZST ?_;clear K r;intro W K r))
 refine (HS.out _ ZRD ZRD ZRD ZRD).mono ?_
 rintro e W' ⟨s5,A5,n5,c5,l5,rfl,hr,hs5,hf,hb⟩
 have hf5:=jpk (hf.mono K.1.size)
 replace K:=K.ret hb hr hf
 clear r
 have r:=K.rawS
 clear hr hf hb
 go_wp2_with (first|(refine ZAL ?_;clear K r;intro W b K r)|(refine ZST ?_;clear K r;intro W K r))
 refine (HM.out _ ZRD ZRD).mono ?_
 rintro e W' ⟨s6,A6,n6,c6,l6,rfl,hr,hs6,hf,hb⟩
 have hf6:=jpk (hf.mono K.1.size)
 replace K:=K.ret hb hr hf
 clear r
 have r:=K.rawS
 clear hr hf hb
 go_wp2_with (first|(refine ZAL ?_;clear K r;intro W b K r)|(refine ZST ?_;clear K r;intro W K r))
 refine (HQ.out _ _ _ _ _ _ _ _ _ _ _ ZRD ZRD hs5 hs6).mono ?_
 clear hs5 hs6
 rintro e W' ⟨s7,A7,n7,c7,l7,t7,B7,m7,d7,k7,rfl,⟨hra,hrb⟩,ho,⟨hfa,hfb⟩,hb⟩
 have hf7:=jpk (hfa.mono K.1.size)
 have hg7:=jpk (hfb.mono K.1.size)
 replace K:=K.retF hb hra hrb hfa hfb
 clear r
 have r:=K.rawS
 clear hra hrb hfa hfb hb
 go_wp2_with (first|(refine ZAL ?_;clear K r;intro W b K r)|(refine ZST ?_;clear K r;intro W K r))
 have HE:=jpk (⟨s7,A7,n7,c7,l7,t7,B7,m7,d7,k7,rfl,⟨ZRD,ZRD⟩,ho,⟨hf7.out,hg7.out⟩,K.1⟩:FrE w O E (.returned (.tuple #[.agg #[.int .i64 s7,.slice A7 n7 c7,.int .i64 t7,.slice B7 m7 d7],.int .i64 E])) W)
 clear ho
 exact bodyPost_ret (v:=.tuple #[.agg #[.int .i64 s7,.slice A7 n7 c7,.int .i64 t7,.slice B7 m7 d7],.int .i64 E]) (by simp [results,Tryz.results21,go_sem,r]) rfl HE.out
theorem jmc (s1 t1 s2 t2:Int) (A1 B1 A2 B2:Option Addr) (n1 c1 m1 d1 n2 c2 m2 d2:Nat) (l1 k1 l2 k2:List Int) (w:World) (r1:RdI w w.heap.size A1 n1 c1 l1) (q1:RdI w w.heap.size B1 m1 d1 k1) (r2:RdI w w.heap.size A2 n2 c2 l2) (q2:RdI w w.heap.size B2 m2 d2 k2) :
 Calls Tryz.prog 123 #[.agg #[.int .i64 s1,.slice A1 n1 c1,.int .i64 t1,.slice B1 m1 d1],.agg #[.int .i64 s2,.slice A2 n2 c2,.int .i64 t2,.slice B2 m2 d2]] w (FrE w (binO (jam s1 l1 t1 k1&&jam s2 l2 t2 k2) (mulK (ratF s1 l1 t1 k1) (ratF s2 l2 t2 k2)) (ratF s1 l1 t1 k1*ratF s2 l2 t2 k2)) (binE (jam s1 l1 t1 k1&&jam s2 l2 t2 k2) (mulK (ratF s1 l1 t1 k1) (ratF s2 l2 t2 k2)))):=by
 have K:=((((St.start w).oldRd r1).oldRd q1).oldRd r2).oldRd q2
 have r:=K.raw
 have HR1:=jpk (fun W h g=>jaT s1 t1 A1 B1 n1 c1 m1 d1 l1 k1 W h g)
 have HR2:=jpk (fun W h g=>jaT s2 t2 A2 B2 n2 c2 m2 d2 l2 k2 W h g)
 have Hno:=jpk (fun W (c:Int) (h:Below w.heap.size w W)=>(⟨0,none,0,0,[],0,none,0,0,[],rfl,⟨Rd.nil,Rd.nil⟩,⟨rfl,rfl,rfl,rfl⟩,⟨FrA.none,FrA.none⟩,h⟩:FrE w none c (.returned (.tuple #[.agg #[.int .i64 0,.slice none 0 0,.int .i64 0,.slice none 0 0],.int .i64 c])) W))
 cases h1:jam s1 l1 t1 k1
 ·rw [h1] at HR1
  rw [Bool.false_and,jbH,jbG]
  clear h1
  go_enter Tryz.func123,Tryz.ntmps123
  go_wp2_with (first|(refine ZAL ?_;clear K r;intro W b K r)|(refine ZST ?_;clear K r;intro W K r))
  refine (HR1.out _ ZRD ZRD).mono ?_
  exact ZQ56
 cases h2:jam s2 l2 t2 k2
 ·rw [h1] at HR1
  rw [h2] at HR2
  rw [Bool.true_and,jbH,jbG]
  clear h1 h2
  go_enter Tryz.func123,Tryz.ntmps123
  go_wp2_with (first|(refine ZAL ?_;clear K r;intro W b K r)|(refine ZST ?_;clear K r;intro W K r))
  refine (HR1.out _ ZRD ZRD).mono ?_
  rintro e W' ⟨rfl,hb⟩
  replace K:=K.keep hb
  clear r
  have r:=K.rawS
  clear hb
  go_wp2_with (first|(refine ZAL ?_;clear K r;intro W b K r)|(refine ZST ?_;clear K r;intro W K r))
  refine (HR2.out _ ZRD ZRD).mono ?_
  exact ZQ56
 rw [h1] at HR1
 rw [h2] at HR2
 obtain ⟨⟨S1,T1⟩,F1⟩:=jay h1
 obtain ⟨⟨S2,T2⟩,F2⟩:=jay h2
 have a1:=jaK F1
 have a2:=jaQ F1
 have a3:=jaK F2
 have a4:=jaQ F2
 rw [Bool.true_and]
 generalize ratF s1 l1 t1 k1=x at *
 generalize ratF s2 l2 t2 k2=y at *
 obtain ⟨z1,z2⟩:=jj5 (a:=x.num*y.num) (Int.ne_of_gt (jba x y)) (jfp x y)
 have HM1:=jpk (fun W hl hm=>vMul x.num y.num s1 A1 n1 c1 l1 s2 A2 n2 c2 l2 W hl hm S1 S2 a1 a3)
 have HM:=jpk (fun W hl hm=>vMul x.den y.den t1 B1 m1 d1 k1 t2 B2 m2 d2 k2 W hl hm T1 T2 a2 a4)
 have HQ:=jpk (fun s A n cap l t A' n' cap' m W hl hm h1 h2=>jph (errZ true (x.num*y.num)) (errZ true ((x.den:Int)*y.den)) (resZ true (x.num*y.num)) (resZ true ((x.den:Int)*y.den)) s A n cap l t A' n' cap' m W hl hm h1 h2 (jbb _ _) (jbb _ _))
 rw [z1,z2] at HQ
 have hK:mulK x y=(fits (x.num*y.num)&&fits ((x.den:Int)*y.den)):=rfl
 rw [←hK] at HQ
 generalize errZ true (x.num*y.num)=E1 at *
 generalize resZ true (x.num*y.num)=Z1 at *
 generalize errZ true ((x.den:Int)*y.den)=E2 at *
 generalize resZ true ((x.den:Int)*y.den)=Z2 at *
 generalize binO true (mulK x y) (x*y)=O at *
 generalize binE true (mulK x y)=E at *
 clear z1 z2 hK S1 S2 T1 T2 F1 F2 a1 a2 a3 a4 h1 h2
 go_enter Tryz.func123,Tryz.ntmps123
 go_wp2_with (first|(refine ZAL ?_;clear K r;intro W b K r)|(refine ZST ?_;clear K r;intro W K r))
 refine (HR1.out _ ZRD ZRD).mono ?_
 rintro e W' ⟨rfl,hb⟩
 replace K:=K.keep hb
 clear r
 have r:=K.rawS
 clear hb
 go_wp2_with (first|(refine ZAL ?_;clear K r;intro W b K r)|(refine ZST ?_;clear K r;intro W K r))
 refine (HR2.out _ ZRD ZRD).mono ?_
 rintro e W' ⟨rfl,hb⟩
 replace K:=K.keep hb
 clear r
 have r:=K.rawS
 clear hb
 go_wp2_with (first|(refine ZAL ?_;clear K r;intro W b K r)|(refine ZST ?_;clear K r;intro W K r))
 refine (HM1.out _ ZRD ZRD).mono ?_
 rintro e W' ⟨s5,A5,n5,c5,l5,rfl,hr,hs5,hf,hb⟩
 have hf5:=jpk (hf.mono K.1.size)
 replace K:=K.ret hb hr hf
 clear r
 have r:=K.rawS
 clear hr hf hb
 go_wp2_with (first|(refine ZAL ?_;clear K r;intro W b K r)|(refine ZST ?_;clear K r;intro W K r))
 refine (HM.out _ ZRD ZRD).mono ?_
 rintro e W' ⟨s6,A6,n6,c6,l6,rfl,hr,hs6,hf,hb⟩
 have hf6:=jpk (hf.mono K.1.size)
 replace K:=K.ret hb hr hf
 clear r
 have r:=K.rawS
 clear hr hf hb
 go_wp2_with (first|(refine ZAL ?_;clear K r;intro W b K r)|(refine ZST ?_;clear K r;intro W K r))
 refine (HQ.out _ _ _ _ _ _ _ _ _ _ _ ZRD ZRD hs5 hs6).mono ?_
 clear hs5 hs6
 rintro e W' ⟨s7,A7,n7,c7,l7,t7,B7,m7,d7,k7,rfl,⟨hra,hrb⟩,ho,⟨hfa,hfb⟩,hb⟩
 have hf7:=jpk (hfa.mono K.1.size)
 have hg7:=jpk (hfb.mono K.1.size)
 replace K:=K.retF hb hra hrb hfa hfb
 clear r
 have r:=K.rawS
 clear hra hrb hfa hfb hb
 go_wp2_with (first|(refine ZAL ?_;clear K r;intro W b K r)|(refine ZST ?_;clear K r;intro W K r))
 have HE:=jpk (⟨s7,A7,n7,c7,l7,t7,B7,m7,d7,k7,rfl,⟨ZRD,ZRD⟩,ho,⟨hf7.out,hg7.out⟩,K.1⟩:FrE w O E (.returned (.tuple #[.agg #[.int .i64 s7,.slice A7 n7 c7,.int .i64 t7,.slice B7 m7 d7],.int .i64 E])) W)
 clear ho
 exact bodyPost_ret (v:=.tuple #[.agg #[.int .i64 s7,.slice A7 n7 c7,.int .i64 t7,.slice B7 m7 d7],.int .i64 E]) (by simp [results,Tryz.results123,go_sem,r]) rfl HE.out
def divO (ok:Bool) (x y:Rat):Option Rat:=if y=0 then none else binO ok (divK x y) (x / y)
def divE (ok:Bool) (x y:Rat):Int:=if ok=true∧y=0 then 15 else binE ok (divK x y)
theorem jh9 {x y:Rat}:divO false x y=none:=by unfold divO;rw [jbH];split <;> rfl
theorem jh7 {x y:Rat}:divE false x y=1:=by unfold divE;rw [if_neg Zb0,jbG]
theorem jmN {y:Rat}:y=0↔y.num=0:=Rat.num_eq_zero.symm
theorem jmb (s1 t1 s2 t2:Int) (A1 B1 A2 B2:Option Addr) (n1 c1 m1 d1 n2 c2 m2 d2:Nat) (l1 k1 l2 k2:List Int) (w:World) (r1:RdI w w.heap.size A1 n1 c1 l1) (q1:RdI w w.heap.size B1 m1 d1 k1) (r2:RdI w w.heap.size A2 n2 c2 l2) (q2:RdI w w.heap.size B2 m2 d2 k2) :
 Calls Tryz.prog 133 #[.agg #[.int .i64 s1,.slice A1 n1 c1,.int .i64 t1,.slice B1 m1 d1],.agg #[.int .i64 s2,.slice A2 n2 c2,.int .i64 t2,.slice B2 m2 d2]] w (FrE w (divO (jam s1 l1 t1 k1&&jam s2 l2 t2 k2) (ratF s1 l1 t1 k1) (ratF s2 l2 t2 k2)) (divE (jam s1 l1 t1 k1&&jam s2 l2 t2 k2) (ratF s1 l1 t1 k1) (ratF s2 l2 t2 k2))):=by
 have K:=((((St.start w).oldRd r1).oldRd q1).oldRd r2).oldRd q2
 have r:=K.raw
 have HR1:=jpk (fun W h g=>jaT s1 t1 A1 B1 n1 c1 m1 d1 l1 k1 W h g)
 have HR2:=jpk (fun W h g=>jaT s2 t2 A2 B2 n2 c2 m2 d2 l2 k2 W h g)
 have Hno:=jpk (fun W (c:Int) (h:Below w.heap.size w W)=>(⟨0,none,0,0,[],0,none,0,0,[],rfl,⟨Rd.nil,Rd.nil⟩,⟨rfl,rfl,rfl,rfl⟩,⟨FrA.none,FrA.none⟩,h⟩:FrE w none c (.returned (.tuple #[.agg #[.int .i64 0,.slice none 0 0,.int .i64 0,.slice none 0 0],.int .i64 c])) W))
 cases h1:jam s1 l1 t1 k1
 ·rw [h1] at HR1
  rw [Bool.false_and,jh9,jh7]
  clear h1
  go_enter Tryz.func133,Tryz.ntmps133
  go_wp2_with (first|(refine ZAL ?_;clear K r;intro W b K r)|(refine ZST ?_;clear K r;intro W K r))
  refine (HR1.out _ ZRD ZRD).mono ?_
  exact ZQ57
 cases h2:jam s2 l2 t2 k2
 ·rw [h1] at HR1
  rw [h2] at HR2
  rw [Bool.true_and,jh9,jh7]
  clear h1 h2
  go_enter Tryz.func133,Tryz.ntmps133
  go_wp2_with (first|(refine ZAL ?_;clear K r;intro W b K r)|(refine ZST ?_;clear K r;intro W K r))
  refine (HR1.out _ ZRD ZRD).mono ?_
  rintro e W' ⟨rfl,hb⟩
  replace K:=K.keep hb
  clear r
  have r:=K.rawS
  clear hb
  go_wp2_with (first|(refine ZAL ?_;clear K r;intro W b K r)|(refine ZST ?_;clear K r;intro W K r))
  refine (HR2.out _ ZRD ZRD).mono ?_
  exact ZQ57
 rw [h1] at HR1
 rw [h2] at HR2
 obtain ⟨⟨S1,T1⟩,F1⟩:=jay h1
 obtain ⟨⟨S2,T2⟩,F2⟩:=jay h2
 have a1:=jaK F1
 have a2:=jaQ F1
 have a3:=jaK F2
 have a4:=jaQ F2
 rw [Bool.true_and]
 generalize ratF s1 l1 t1 k1=x at *
 generalize ratF s2 l2 t2 k2=y at *
 by_cases hy:y=0
 ·have hd:(s2==0)=true:=by rw [S2.1,hy];rfl
  have e1:divO true x y=none:=if_pos hy
  have e2:divE true x y=15:=if_pos ⟨rfl,hy⟩
  rw [e1,e2]
  clear e1 e2 S1 S2 T1 T2 F1 F2 a1 a2 a3 a4 h1 h2 hy
  go_enter Tryz.func133,Tryz.ntmps133
  go_wp2_with (first|(refine ZAL ?_;clear K r;intro W b K r)|(refine ZST ?_;clear K r;intro W K r))
  refine (HR1.out _ ZRD ZRD).mono ?_
  rintro e W' ⟨rfl,hb⟩
  replace K:=K.keep hb
  clear r
  have r:=K.rawS
  clear hb
  go_wp2_with (first|(refine ZAL ?_;clear K r;intro W b K r)|(refine ZST ?_;clear K r;intro W K r))
  refine (HR2.out _ ZRD ZRD).mono ?_
  rintro e W' ⟨rfl,hb⟩
  replace K:=K.keep hb
  clear r
  have r:=K.rawS
  clear hb
  go_wp2_with (first|(refine ZAL ?_;clear K r;intro W b K r)|(refine ZST ?_;clear K r;intro W K r))
  exact bodyPost_ret (v:=.tuple #[.agg #[.int .i64 0,.slice none 0 0,.int .i64 0,.slice none 0 0],.int .i64 15]) (by simp [results,Tryz.results133,go_sem,r]) rfl (Hno.out _ _ K.1)
 have hyn:y.num≠0:=fun e=>hy (jmN.2 e)
 have hd:(s2==0)=false:=by
  rcases S2.signs with ⟨-,-,h⟩|⟨-,h,-⟩|⟨-,h,-⟩
  ·exact absurd h hyn
  ·simp [h]
  ·simp [h]
 have e1:divO true x y=binO true (divK x y) (x / y):=if_neg hy
 have e2:divE true x y=binE true (divK x y):=if_neg (fun h=>hy h.2)
 rw [e1,e2]
 have hb0:(x.den:Int)*y.num≠0:=Int.mul_ne_zero (Int.ne_of_gt (jbr x)) hyn
 obtain ⟨z1,z2⟩:=jj5 (a:=x.num*y.den) hb0 (jj7 x y)
 have HM1:=jpk (fun W hl hm=>vMul x.num y.den s1 A1 n1 c1 l1 t2 B2 m2 d2 k2 W hl hm S1 T2 a1 a4)
 have HM:=jpk (fun W hl hm=>vMul x.den y.num t1 B1 m1 d1 k1 s2 A2 n2 c2 l2 W hl hm T1 S2 a2 a3)
 have HQ:=jpk (fun s A n cap l t A' n' cap' m W hl hm h1 h2=>jph (errZ true (x.num*y.den)) (errZ true ((x.den:Int)*y.num)) (resZ true (x.num*y.den)) (resZ true ((x.den:Int)*y.num)) s A n cap l t A' n' cap' m W hl hm h1 h2 (jbb _ _) (jbb _ _))
 rw [z1,z2] at HQ
 have hK:divK x y=(fits (x.num*y.den)&&fits ((x.den:Int)*y.num)):=rfl
 rw [←hK] at HQ
 generalize errZ true (x.num*y.den)=E1 at *
 generalize resZ true (x.num*y.den)=Z1 at *
 generalize errZ true ((x.den:Int)*y.num)=E2 at *
 generalize resZ true ((x.den:Int)*y.num)=Z2 at *
 generalize binO true (divK x y) (x / y)=O at *
 generalize binE true (divK x y)=E at *
 clear z1 z2 e1 e2 hK hb0 S1 S2 T1 T2 F1 F2 a1 a2 a3 a4 h1 h2 hy hyn
 go_enter Tryz.func133,Tryz.ntmps133
 go_wp2_with (first|(refine ZAL ?_;clear K r;intro W b K r)|(refine ZST ?_;clear K r;intro W K r))
 refine (HR1.out _ ZRD ZRD).mono ?_
 rintro e W' ⟨rfl,hb⟩
 replace K:=K.keep hb
 clear r
 have r:=K.rawS
 clear hb
 go_wp2_with (first|(refine ZAL ?_;clear K r;intro W b K r)|(refine ZST ?_;clear K r;intro W K r))
 refine (HR2.out _ ZRD ZRD).mono ?_
 rintro e W' ⟨rfl,hb⟩
 replace K:=K.keep hb
 clear r
 have r:=K.rawS
 clear hb
 go_wp2_with (first|(refine ZAL ?_;clear K r;intro W b K r)|(refine ZST ?_;clear K r;intro W K r))
 refine (HM1.out _ ZRD ZRD).mono ?_
 rintro e W' ⟨s5,A5,n5,c5,l5,rfl,hr,hs5,hf,hb⟩
 have hf5:=jpk (hf.mono K.1.size)
 replace K:=K.ret hb hr hf
 clear r
 have r:=K.rawS
 clear hr hf hb
 go_wp2_with (first|(refine ZAL ?_;clear K r;intro W b K r)|(refine ZST ?_;clear K r;intro W K r))
 refine (HM.out _ ZRD ZRD).mono ?_
 rintro e W' ⟨s6,A6,n6,c6,l6,rfl,hr,hs6,hf,hb⟩
 have hf6:=jpk (hf.mono K.1.size)
 replace K:=K.ret hb hr hf
 clear r
 have r:=K.rawS
 clear hr hf hb
 go_wp2_with (first|(refine ZAL ?_;clear K r;intro W b K r)|(refine ZST ?_;clear K r;intro W K r))
 refine (HQ.out _ _ _ _ _ _ _ _ _ _ _ ZRD ZRD hs5 hs6).mono ?_
 clear hs5 hs6
 rintro e W' ⟨s7,A7,n7,c7,l7,t7,B7,m7,d7,k7,rfl,⟨hra,hrb⟩,ho,⟨hfa,hfb⟩,hb⟩
 have hf7:=jpk (hfa.mono K.1.size)
 have hg7:=jpk (hfb.mono K.1.size)
 replace K:=K.retF hb hra hrb hfa hfb
 clear r
 have r:=K.rawS
 clear hra hrb hfa hfb hb
 go_wp2_with (first|(refine ZAL ?_;clear K r;intro W b K r)|(refine ZST ?_;clear K r;intro W K r))
 have HE:=jpk (⟨s7,A7,n7,c7,l7,t7,B7,m7,d7,k7,rfl,⟨ZRD,ZRD⟩,ho,⟨hf7.out,hg7.out⟩,K.1⟩:FrE w O E (.returned (.tuple #[.agg #[.int .i64 s7,.slice A7 n7 c7,.int .i64 t7,.slice B7 m7 d7],.int .i64 E])) W)
 clear ho
 exact bodyPost_ret (v:=.tuple #[.agg #[.int .i64 s7,.slice A7 n7 c7,.int .i64 t7,.slice B7 m7 d7],.int .i64 E]) (by simp [results,Tryz.results133,go_sem,r]) rfl HE.out
theorem vAddF (x y:Rat) (s1 t1 s2 t2:Int) (A1 B1 A2 B2:Option Addr) (n1 c1 m1 d1 n2 c2 m2 d2:Nat) (l1 k1 l2 k2:List Int) (w:World) (r1:RdI w w.heap.size A1 n1 c1 l1) (q1:RdI w w.heap.size B1 m1 d1 k1) (r2:RdI w w.heap.size A2 n2 c2 l2) (q2:RdI w w.heap.size B2 m2 d2 k2) (h1:StdF s1 l1 t1 k1 x) (h2:StdF s2 l2 t2 k2 y) (f1:jaF x=true) (f2:jaF y=true) :
 Calls Tryz.prog 21 #[.agg #[.int .i64 s1,.slice A1 n1 c1,.int .i64 t1,.slice B1 m1 d1],.agg #[.int .i64 s2,.slice A2 n2 c2,.int .i64 t2,.slice B2 m2 d2]] w (FrE w (binO true (addK x y) (x+y)) (binE true (addK x y))):=by
 have h:=je5 s1 t1 s2 t2 A1 B1 A2 B2 n1 c1 m1 d1 n2 c2 m2 d2 l1 k1 l2 k2 w r1 q1 r2 q2
 rw [h1.right f1,h2.right f2,h1.rat,h2.rat] at h
 exact h
theorem StdF.neg {s t s':Int} {l m l':List Int} {q:Rat} (h:StdF s l t m q) (h':Std s' l' (-q.num)):StdF s' l' t m (-q):=by
 unfold StdF
 rw [Rat.neg_num,Rat.neg_den]
 exact ⟨h',h.2⟩
theorem jjv {q:Rat} (h:jaF q=true):jaF (-q)=true:=by
 unfold jaF
 rw [Rat.neg_num,Rat.neg_den,jbV (jaK h),jaQ h]
 rfl
theorem jme (s1 t1 s2 t2:Int) (A1 B1 A2 B2:Option Addr) (n1 c1 m1 d1 n2 c2 m2 d2:Nat) (l1 k1 l2 k2:List Int) (w:World) (r1:RdI w w.heap.size A1 n1 c1 l1) (q1:RdI w w.heap.size B1 m1 d1 k1) (r2:RdI w w.heap.size A2 n2 c2 l2) (q2:RdI w w.heap.size B2 m2 d2 k2) :
 Calls Tryz.prog 31 #[.agg #[.int .i64 s1,.slice A1 n1 c1,.int .i64 t1,.slice B1 m1 d1],.agg #[.int .i64 s2,.slice A2 n2 c2,.int .i64 t2,.slice B2 m2 d2]] w (FrE w (binO (jam s1 l1 t1 k1&&jam s2 l2 t2 k2) (addK (ratF s1 l1 t1 k1) (-ratF s2 l2 t2 k2)) (ratF s1 l1 t1 k1-ratF s2 l2 t2 k2)) (binE (jam s1 l1 t1 k1&&jam s2 l2 t2 k2) (addK (ratF s1 l1 t1 k1) (-ratF s2 l2 t2 k2)))):=by
 have K:=((((St.start w).oldRd r1).oldRd q1).oldRd r2).oldRd q2
 have r:=K.raw
 have HR1:=jpk (fun W h g=>jaT s1 t1 A1 B1 n1 c1 m1 d1 l1 k1 W h g)
 have HR2:=jpk (fun W h g=>jaT s2 t2 A2 B2 n2 c2 m2 d2 l2 k2 W h g)
 have Hno:=jpk (fun W (c:Int) (h:Below w.heap.size w W)=>(⟨0,none,0,0,[],0,none,0,0,[],rfl,⟨Rd.nil,Rd.nil⟩,⟨rfl,rfl,rfl,rfl⟩,⟨FrA.none,FrA.none⟩,h⟩:FrE w none c (.returned (.tuple #[.agg #[.int .i64 0,.slice none 0 0,.int .i64 0,.slice none 0 0],.int .i64 c])) W))
 cases h1:jam s1 l1 t1 k1
 ·rw [h1] at HR1
  rw [Bool.false_and,jbH,jbG]
  clear h1
  go_enter Tryz.func31,Tryz.ntmps31
  go_wp2_with (first|(refine ZAL ?_;clear K r;(first|((fail_if_success revert b0);intro W b0 K r)|((fail_if_success revert b1);intro W b1 K r)|((fail_if_success revert b2);intro W b2 K r)|((fail_if_success revert b3);intro W b3 K r)|((fail_if_success revert b4);intro W b4 K r)|((fail_if_success revert b5);intro W b5 K r)|intro W b K r))|(refine ZST ?_;clear K r;intro W K r))
  refine (HR1.out _ ZRD ZRD).mono ?_
  exact ZQ37
 cases h2:jam s2 l2 t2 k2
 ·rw [h1] at HR1
  rw [h2] at HR2
  rw [Bool.true_and,jbH,jbG]
  clear h1 h2
  go_enter Tryz.func31,Tryz.ntmps31
  go_wp2_with (first|(refine ZAL ?_;clear K r;(first|((fail_if_success revert b0);intro W b0 K r)|((fail_if_success revert b1);intro W b1 K r)|((fail_if_success revert b2);intro W b2 K r)|((fail_if_success revert b3);intro W b3 K r)|((fail_if_success revert b4);intro W b4 K r)|((fail_if_success revert b5);intro W b5 K r)|intro W b K r))|(refine ZST ?_;clear K r;intro W K r))
  refine (HR1.out _ ZRD ZRD).mono ?_
  rintro e W' ⟨rfl,hb⟩
  replace K:=K.keep hb
  clear r
  have r:=K.rawS
  clear hb
  go_wp2_with (first|(refine ZAL ?_;clear K r;(first|((fail_if_success revert b0);intro W b0 K r)|((fail_if_success revert b1);intro W b1 K r)|((fail_if_success revert b2);intro W b2 K r)|((fail_if_success revert b3);intro W b3 K r)|((fail_if_success revert b4);intro W b4 K r)|((fail_if_success revert b5);intro W b5 K r)|intro W b K r))|(refine ZST ?_;clear K r;intro W K r))
  refine (HR2.out _ ZRD ZRD).mono ?_
  exact ZQ37
 rw [h1] at HR1
 rw [h2] at HR2
 obtain ⟨S1,F1⟩:=jay h1
 obtain ⟨S2,F2⟩:=jay h2
 rw [Bool.true_and]
 generalize ratF s1 l1 t1 k1=x at *
 generalize ratF s2 l2 t2 k2=y at *
 rw [Rat.sub_eq_add_neg]
 have HN0:=jpk (fun W hl=>vNeg y.num s2 A2 n2 c2 l2 W hl S2.1 (jaK F2))
 have HA0:=jpk (fun s A n cap l W r1 q1 hl q2 (h:Std s l (-y.num))=>vAddF x (-y) s1 t1 s t2 A1 B1 A B2 n1 c1 m1 d1 n cap m2 d2 l1 k1 l k2 W r1 q1 hl q2 S1 (S2.neg h) F1 (jjv F2))
 generalize binO true (addK x (-y)) (x+ -y)=O at *
 generalize binE true (addK x (-y))=E at *
 generalize -y.num=yn at *
 clear S1 S2 F1 F2 h1 h2
 go_enter Tryz.func31,Tryz.ntmps31
 go_wp2_with (first|(refine ZAL ?_;clear K r;(first|((fail_if_success revert b0);intro W b0 K r)|((fail_if_success revert b1);intro W b1 K r)|((fail_if_success revert b2);intro W b2 K r)|((fail_if_success revert b3);intro W b3 K r)|((fail_if_success revert b4);intro W b4 K r)|((fail_if_success revert b5);intro W b5 K r)|intro W b K r))|(refine ZST ?_;clear K r;intro W K r))
 refine (HR1.out _ ZRD ZRD).mono ?_
 rintro e W' ⟨rfl,hb⟩
 replace K:=K.keep hb
 clear r
 have r:=K.rawS
 clear hb
 go_wp2_with (first|(refine ZAL ?_;clear K r;(first|((fail_if_success revert b0);intro W b0 K r)|((fail_if_success revert b1);intro W b1 K r)|((fail_if_success revert b2);intro W b2 K r)|((fail_if_success revert b3);intro W b3 K r)|((fail_if_success revert b4);intro W b4 K r)|((fail_if_success revert b5);intro W b5 K r)|intro W b K r))|(refine ZST ?_;clear K r;intro W K r))
 refine (HR2.out _ ZRD ZRD).mono ?_
 rintro e W' ⟨rfl,hb⟩
 replace K:=K.keep hb
 clear r
 have r:=K.rawS
 clear hb
 go_wp2_with (first|(refine ZAL ?_;clear K r;(first|((fail_if_success revert b0);intro W b0 K r)|((fail_if_success revert b1);intro W b1 K r)|((fail_if_success revert b2);intro W b2 K r)|((fail_if_success revert b3);intro W b3 K r)|((fail_if_success revert b4);intro W b4 K r)|((fail_if_success revert b5);intro W b5 K r)|intro W b K r))|(refine ZST ?_;clear K r;intro W K r))
 have X0:Sx w b2 29 4 [(b1,#[.int .i64 s2,.slice A2 n2 c2,.int .i64 t2,.slice B2 m2 d2],29),(b0,#[.int .i64 s1,.slice A1 n1 c1,.int .i64 t1,.slice B1 m1 d1],29)] [⟨rdP B2 m2 d2 k2,oldS w⟩,⟨rdP A2 n2 c2 l2,oldS w⟩,⟨rdP B1 m1 d1 k1,oldS w⟩,⟨rdP A1 n1 c1 l1,oldS w⟩] W':=Sx.of K rfl
 have HSx:=jpk (fun W (h:Sx w b2 29 4 [(b1,#[.int .i64 s2,.slice A2 n2 c2,.int .i64 t2,.slice B2 m2 d2],29),(b0,#[.int .i64 s1,.slice A1 n1 c1,.int .i64 t1,.slice B1 m1 d1],29)] [⟨rdP B2 m2 d2 k2,oldS w⟩,⟨rdP A2 n2 c2 l2,oldS w⟩,⟨rdP B1 m1 d1 k1,oldS w⟩,⟨rdP A1 n1 c1 l1,oldS w⟩] W)=>(show (Sx w b2 29 4 [(b1,#[.int .i64 s2,.slice A2 n2 c2,.int .i64 t2,.slice B2 m2 d2],29),(b0,#[.int .i64 s1,.slice A1 n1 c1,.int .i64 t1,.slice B1 m1 d1],29)] [⟨rdP B2 m2 d2 k2,oldS w⟩,⟨rdP A2 n2 c2 l2,oldS w⟩,⟨rdP B1 m1 d1 k1,oldS w⟩,⟨rdP A1 n1 c1 l1,oldS w⟩] W∧((W.cell? ⟨b1,0,none⟩=some (.int .i64 s2)∧W.cell? ⟨b1,1,none⟩=some (.slice A2 n2 c2)∧W.cell? ⟨b1,2,none⟩=some (.int .i64 t2)∧W.cell? ⟨b1,3,none⟩=some (.slice B2 m2 d2))∧W.cell? ⟨b0,0,none⟩=some (.int .i64 s1)∧W.cell? ⟨b0,1,none⟩=some (.slice A1 n1 c1)∧W.cell? ⟨b0,2,none⟩=some (.int .i64 t1)∧W.cell? ⟨b0,3,none⟩=some (.slice B1 m1 d1))∧(W.cell? ⟨b2,0,none⟩=some (jaw W ⟨b2,0,none⟩)∧W.cell? ⟨b2,1,none⟩=some (jaw W ⟨b2,1,none⟩)∧W.cell? ⟨b2,2,none⟩=some (jaw W ⟨b2,2,none⟩)∧W.cell? ⟨b2,3,none⟩=some (jaw W ⟨b2,3,none⟩))∧∀j,W.frozen? ⟨b2,j,none⟩=false) from by
  have r:=h.raw
  simp only [Raw,RawC,and_true,Nat.zero_add,Nat.reduceAdd] at r
  exact ⟨h,r,⟨h.cell ZO,h.cell ZO,h.cell ZO,h.cell ZO⟩,h.thaw⟩))
 have HN:=jpk (fun W (h:Sx w b2 29 4 [(b1,#[.int .i64 s2,.slice A2 n2 c2,.int .i64 t2,.slice B2 m2 d2],29),(b0,#[.int .i64 s1,.slice A1 n1 c1,.int .i64 t1,.slice B1 m1 d1],29)] [⟨rdP B2 m2 d2 k2,oldS w⟩,⟨rdP A2 n2 c2 l2,oldS w⟩,⟨rdP B1 m1 d1 k1,oldS w⟩,⟨rdP A1 n1 c1 l1,oldS w⟩] W)=>(HN0.out W (h.rd ZMB)).mono fun e W' ⟨s5,A5,n5,c5,l5,he,hr,hs,hf,hb⟩=>(⟨s5,A5,n5,c5,l5,he,hr,hs,h.keep hb,hb⟩:∃s5 A5 n5 c5 l5,e=Ending.returned (.agg #[.int .i64 s5,.slice A5 n5 c5])∧RdI W' W'.heap.size A5 n5 c5 l5∧Std s5 l5 yn∧Sx w b2 29 4 [(b1,#[.int .i64 s2,.slice A2 n2 c2,.int .i64 t2,.slice B2 m2 d2],29),(b0,#[.int .i64 s1,.slice A1 n1 c1,.int .i64 t1,.slice B1 m1 d1],29)] [⟨rdP B2 m2 d2 k2,oldS w⟩,⟨rdP A2 n2 c2 l2,oldS w⟩,⟨rdP B1 m1 d1 k1,oldS w⟩,⟨rdP A1 n1 c1 l1,oldS w⟩] W'∧Below W.heap.size W W'))
 have HA:=jpk (fun s A n cap l W (hl:RdI W W.heap.size A n cap l) (hs:Std s l yn) (h:Sx w b2 29 4 [(b1,#[.int .i64 s2,.slice A2 n2 c2,.int .i64 t2,.slice B2 m2 d2],29),(b0,#[.int .i64 s1,.slice A1 n1 c1,.int .i64 t1,.slice B1 m1 d1],29)] [⟨rdP B2 m2 d2 k2,oldS w⟩,⟨rdP A2 n2 c2 l2,oldS w⟩,⟨rdP B1 m1 d1 k1,oldS w⟩,⟨rdP A1 n1 c1 l1,oldS w⟩] W)=>(HA0.out s A n cap l W (h.rd ZMB) (h.rd ZMB) hl (h.rd ZMB) hs).mono fun e W' ⟨s7,A7,n7,c7,l7,t7,B7,m7,d7,k7,he,hr,ho,hf,hb⟩=>(⟨s7,A7,n7,c7,l7,t7,B7,m7,d7,k7,he,hr,ho,⟨hf.1.mono h.lt,hf.2.mono h.lt⟩,h.keep hb⟩:∃s7 A7 n7 c7 l7 t7 B7 m7 d7 k7,e=Ending.returned (.tuple #[.agg #[.int .i64 s7,.slice A7 n7 c7,.int .i64 t7,.slice B7 m7 d7],.int .i64 E])∧(RdI W' W'.heap.size A7 n7 c7 l7∧RdI W' W'.heap.size B7 m7 d7 k7)∧OptF s7 l7 t7 k7 O∧(FrA (b2+1) A7∧FrA (b2+1) B7)∧Sx w b2 29 4 [(b1,#[.int .i64 s2,.slice A2 n2 c2,.int .i64 t2,.slice B2 m2 d2],29),(b0,#[.int .i64 s1,.slice A1 n1 c1,.int .i64 t1,.slice B1 m1 d1],29)] [⟨rdP B2 m2 d2 k2,oldS w⟩,⟨rdP A2 n2 c2 l2,oldS w⟩,⟨rdP B1 m1 d1 k1,oldS w⟩,⟨rdP A1 n1 c1 l1,oldS w⟩] W'))
 clear r K HN0 HA0
 go_region_held3 (fun W=>(Sx w b2 29 4 [(b1,#[.int .i64 s2,.slice A2 n2 c2,.int .i64 t2,.slice B2 m2 d2],29),(b0,#[.int .i64 s1,.slice A1 n1 c1,.int .i64 t1,.slice B1 m1 d1],29)] [⟨rdP B2 m2 d2 k2,oldS w⟩,⟨rdP A2 n2 c2 l2,oldS w⟩,⟨rdP B1 m1 d1 k1,oldS w⟩,⟨rdP A1 n1 c1 l1,oldS w⟩] W∧((W.cell? ⟨b1,0,none⟩=some (.int .i64 s2)∧W.cell? ⟨b1,1,none⟩=some (.slice A2 n2 c2)∧W.cell? ⟨b1,2,none⟩=some (.int .i64 t2)∧W.cell? ⟨b1,3,none⟩=some (.slice B2 m2 d2))∧W.cell? ⟨b0,0,none⟩=some (.int .i64 s1)∧W.cell? ⟨b0,1,none⟩=some (.slice A1 n1 c1)∧W.cell? ⟨b0,2,none⟩=some (.int .i64 t1)∧W.cell? ⟨b0,3,none⟩=some (.slice B1 m1 d1))∧(W.cell? ⟨b2,0,none⟩=some (jaw W ⟨b2,0,none⟩)∧W.cell? ⟨b2,1,none⟩=some (jaw W ⟨b2,1,none⟩)∧W.cell? ⟨b2,2,none⟩=some (jaw W ⟨b2,2,none⟩)∧W.cell? ⟨b2,3,none⟩=some (jaw W ⟨b2,3,none⟩))∧∀j,W.frozen? ⟨b2,j,none⟩=false))
  ((refine HSx.out _ ?_;first|assumption|exact X0.drew|exact (Sx.set4 Zb6).1|exact And.left Zb6))
  (first
   | (go_at_call 66;refine (HN.out _ (And.left Zb6)).mono ?_;rintro e w5 ⟨s5,A5,n5,c5,l5,rfl,hr5,hs5,x5,b5⟩)
   | (go_at_call 21;refine (HA.out _ _ _ _ _ _ Zb6 Zb6 (And.left Zb6)).mono ?_;rintro e w7 ⟨s7,A7,n7,c7,l7,t7,B7,m7,d7,k7,rfl,⟨hr7,hq7⟩,ho,⟨hf7,hg7⟩,x7⟩))
 all_goals
  obtain ⟨y1,y2⟩:=x7.set4 (u0:=.int .i64 s7) (u1:=.slice A7 n7 c7) (u2:=.int .i64 t7) (u3:=.slice B7 m7 d7)
  have HE:=jpk (⟨s7,A7,n7,c7,l7,t7,B7,m7,d7,k7,rfl,⟨(((hr7.setX hf7).setX hf7).setX hf7).setX hf7,(((hq7.setX hg7).setX hg7).setX hg7).setX hg7⟩,ho,⟨hf7.mono (Nat.le_succ_of_le x7.ge),hg7.mono (Nat.le_succ_of_le x7.ge)⟩,y1.below⟩:FrE w O E (.returned (.tuple #[.agg #[.int .i64 s7,.slice A7 n7 c7,.int .i64 t7,.slice B7 m7 d7],.int .i64 E])) ((((w7.setCell ⟨b2,0,none⟩ (.int .i64 s7)).setCell ⟨b2,1,none⟩ (.slice A7 n7 c7)).setCell ⟨b2,2,none⟩ (.int .i64 t7)).setCell ⟨b2,3,none⟩ (.slice B7 m7 d7)))
  clear hr7 hq7 hf7 hg7 x7 y1 ho hr5 hs5 x5 b5 X0
  go_wp2
  exact bodyPost_ret (v:=.tuple #[.agg #[.int .i64 s7,.slice A7 n7 c7,.int .i64 t7,.slice B7 m7 d7],.int .i64 E]) (by simp [results,Tryz.results31,go_sem,y2]) rfl HE.out
open Go.ChangeShapes Go.WideShapes Go.ChangeAt Go.RowKit Go.Deep
section
variable {H:Type} {enc:TypeId × Value→H} {w:World}
theorem jmK:jdk enc Tryz.prog w 24 2 (prE 1 (flat fun x=>[.int .i64 x]) (slE 1 (flat fun x=>[.int .i64 x]))) (fun _:Int × List Int=>True):=by
 have h:=jcw (enc:=enc) (w:=w) Tryz.underlying24 (sz:=2) Zb9
  (jcu (s:=1) (s':=1) (jcv Tryz.underlying3) rfl Zb9 (jc1 (jcd (jcv Tryz.underlying3) Tryz.underlying22 Zb9 ZO Zb21) rfl Zb9))
 exact jnt
variable {r:Reach} {b0:Nat} {v:Value} {d:DataW H} {p:List MemPlace}
theorem jgv (hv:Value.okWide Tryz.prog w r b0 24 v) (hd:DataW.Trod enc Tryz.prog w 0 (fun _=>true) true 24 v d p) (hw:∀n∈d.weights Tryz.prog 24,n≤reachBytes) :
 ∃s A n cap l,v=.agg #[.int .i64 s,.slice A n cap]∧RdI w w.heap.size A n cap l:=by
 obtain ⟨cs,x,rfl,hr,_⟩:=jdF jmK Tryz.underlying24 hv hd hw
 obtain ⟨A,n,cap,e,h3⟩:=jdT hr
 refine ⟨x.1,A,n,cap,x.2,?_,h3⟩
 cases cs
 simp only at e
 subst e
 rfl
end
end Go.Proofs.YtgikfcjndiohjaaGreat
