/- Laws and walks; conditions stand in each theorem. -/
import Derived.Test.YtgikfcjndiohjaaGreatP21
set_option linter.unusedSimpArgs false
set_option linter.unusedVariables false
set_option maxHeartbeats 4000000
set_option maxRecDepth 100000
namespace Go.Proofs.YtgikfcjndiohjaaGreat
open Go.RowKit
theorem jms (s t:Int) (A A':Option Addr) (n cap n' cap':Nat) (l m:List Int) (w:World) (hl:RdI w w.heap.size A n cap l) (hm:RdI w w.heap.size A' n' cap' m) :
 Calls Tryz.prog 57 #[.agg #[.int .i64 s,.slice A n cap],.agg #[.int .i64 t,.slice A' n' cap']] w (FrE w (newO (jae s l&&jae t m) (bval s l) (bval t m)) (newE (jae s l&&jae t m) (bval t m))):=by
 have K:=((St.start w).oldRd hl).oldRd hm
 have r:=K.raw
 have HR1:=jpk (fun W h=>jaG s A n cap l W h)
 have HR2:=jpk (fun W h=>jaG t A' n' cap' m W h)
 have Hno:=jpk (fun W (c:Int) (h:Below w.heap.size w W)=>(⟨0,none,0,0,[],0,none,0,0,[],rfl,⟨Rd.nil,Rd.nil⟩,⟨rfl,rfl,rfl,rfl⟩,⟨FrA.none,FrA.none⟩,h⟩:FrE w none c (.returned (.tuple #[.agg #[.int .i64 0,.slice none 0 0,.int .i64 0,.slice none 0 0],.int .i64 c])) W))
 cases h1:jae s l
 ·rw [h1] at HR1
  rw [Bool.false_and,jfh,jfg]
  clear h1
  go_enter Tryz.func57,Tryz.ntmps57
  go_wp2_with (first|(refine ZAL ?_;clear K r;intro W b K r)|(refine ZST ?_;clear K r;intro W K r))
  refine (HR1.out _ ZRD).mono ?_
  exact ZQ60
 cases h2:jae t m
 ·rw [h1] at HR1
  rw [h2] at HR2
  rw [Bool.true_and,jfh,jfg]
  clear h1 h2
  go_enter Tryz.func57,Tryz.ntmps57
  go_wp2_with (first|(refine ZAL ?_;clear K r;intro W b K r)|(refine ZST ?_;clear K r;intro W K r))
  refine (HR1.out _ ZRD).mono ?_
  rintro e W' ⟨rfl,hb⟩
  replace K:=K.keep hb
  clear r
  have r:=K.rawS
  clear hb
  go_wp2_with (first|(refine ZAL ?_;clear K r;intro W b K r)|(refine ZST ?_;clear K r;intro W K r))
  refine (HR2.out _ ZRD).mono ?_
  exact ZQ60
 rw [h1] at HR1
 rw [h2] at HR2
 rw [Bool.true_and]
 obtain ⟨x,hx⟩:∃x,x=bval s l:=⟨_,rfl⟩
 obtain ⟨y,hy⟩:∃y,y=bval t m:=⟨_,rfl⟩
 have S1:Std s l x:=by rw [hx];exact Std.of_right h1
 have S2:Std t m y:=by rw [hy];exact Std.of_right h2
 have F1:fits x=true:=by rw [hx];exact jaU h1
 have F2:fits y=true:=by rw [hy];exact jaU h2
 rw [←hx,←hy]
 clear hx hy h1 h2
 rcases S2.signs with ⟨-,ht,hy0⟩|⟨-,ht,hy0⟩|⟨-,ht,hy0⟩
 ·have hd:(t==0)=true:=by simp [ht]
  rw [hy0,jfT,jfS]
  clear S1 S2 F1 F2 ht hy0
  go_enter Tryz.func57,Tryz.ntmps57
  go_wp2_with (first|(refine ZAL ?_;clear K r;intro W b K r)|(refine ZST ?_;clear K r;intro W K r))
  refine (HR1.out _ ZRD).mono ?_
  rintro e W' ⟨rfl,hb⟩
  replace K:=K.keep hb
  clear r
  have r:=K.rawS
  clear hb
  go_wp2_with (first|(refine ZAL ?_;clear K r;intro W b K r)|(refine ZST ?_;clear K r;intro W K r))
  refine (HR2.out _ ZRD).mono ?_
  rintro e W' ⟨rfl,hb⟩
  replace K:=K.keep hb
  clear r
  have r:=K.rawS
  clear hb
  go_wp2_with (first|(refine ZAL ?_;clear K r;intro W b K r)|(refine ZST ?_;clear K r;intro W K r))
  exact bodyPost_ret (v:=.tuple #[.agg #[.int .i64 0,.slice none 0 0,.int .i64 0,.slice none 0 0],.int .i64 15]) (by simp [results,Tryz.results57,go_sem,r]) rfl (Hno.out _ _ K.1)
 ·have hd:(t==0)=false:=by simp [ht]
  have hd2:decide (t<0)=false:=decide_eq_false ZO
  have hg:(0:Int)<(Int.gcd x y:Int):=by have:=Int.gcd_pos_of_ne_zero_right x (show y≠0 by omega);omega
  have F3:=jcG (x:=x) (show y≠0 by omega) F2
  obtain ⟨g1,g2⟩:=je9 (x:=x) hy0
  have HGc:=jpk (fun s A n cap l t A' n' cap' m W hl hm h1 h2=>uGcd x y s A n cap l t A' n' cap' m W hl hm h1 h2 F1 F2)
  have HD1:=jpk (fun s A n cap l t A' n' cap' m W hl hm h1 h2=>uDiv x (Int.gcd x y:Int) s A n cap l t A' n' cap' m W hl hm h1 h2 F1 F3 ZO)
  have HD2:=jpk (fun s A n cap l t A' n' cap' m W hl hm h1 h2=>uDiv y (Int.gcd x y:Int) s A n cap l t A' n' cap' m W hl hm h1 h2 F2 F3 ZO)
  rw [jbk ZO,jbj ZO]
  have HEnd:=jpk (fun s A n cap l t A' n' cap' m W (r1:RdI W W.heap.size A n cap l) (r2:RdI W W.heap.size A' n' cap' m) (e1:Std s l (fq x (Int.gcd x y:Int))) (e2:Std t m (fq y (Int.gcd x y:Int))) (a1:FrA w.heap.size A) (a2:FrA w.heap.size A') (hb:Below w.heap.size w W)=>(⟨s,A,n,cap,l,t,A',n',cap',m,rfl,⟨r1,r2⟩,⟨by rw [←g1];exact e1,by rw [←g2];exact e2⟩,⟨a1,a2⟩,hb⟩:FrE w (some (Rat.divInt x y)) 0 (.returned (.tuple #[.agg #[.int .i64 s,.slice A n cap,.int .i64 t,.slice A' n' cap'],.int .i64 0])) W))
  have hs1:=S1;have hs2:=S2
  clear S1 S2 F1 F2 F3 ht hy0 hg g1 g2
  go_enter Tryz.func57,Tryz.ntmps57
  go_wp2_with (first|(refine ZAL ?_;clear K r;intro W b K r)|(refine ZST ?_;clear K r;intro W K r))
  refine (HR1.out _ ZRD).mono ?_
  rintro e W' ⟨rfl,hb⟩
  replace K:=K.keep hb
  clear r
  have r:=K.rawS
  clear hb
  go_wp2_with (first|(refine ZAL ?_;clear K r;intro W b K r)|(refine ZST ?_;clear K r;intro W K r))
  refine (HR2.out _ ZRD).mono ?_
  rintro e W' ⟨rfl,hb⟩
  replace K:=K.keep hb
  clear r
  have r:=K.rawS
  clear hb
  exact ZQ23
 ·have hd:(t==0)=false:=by simp [ht]
  have hd2:decide (t<0)=true:=decide_eq_true ZO
  have hy1:0< -y:=by omega
  have hg:(0:Int)<(Int.gcd (-x) (-y):Int):=by have:=Int.gcd_pos_of_ne_zero_right (-x) (show -y≠0 by omega);omega
  have F1':=jbV F1
  have F2':=jbV F2
  have F3:=jcG (x:= -x) (show -y≠0 by omega) F2'
  obtain ⟨g1,g2⟩:=je9 (x:= -x) hy1
  rw [jeu] at g1 g2
  have HN1:=jpk (fun W hl=>uNeg x s A n cap l W hl S1 F1)
  have HN2:=jpk (fun W hl=>uNeg y t A' n' cap' m W hl S2 F2)
  have HGc:=jpk (fun s A n cap l t A' n' cap' m W hl hm h1 h2=>uGcd (-x) (-y) s A n cap l t A' n' cap' m W hl hm h1 h2 F1' F2')
  have HD1:=jpk (fun s A n cap l t A' n' cap' m W hl hm h1 h2=>uDiv (-x) (Int.gcd (-x) (-y):Int) s A n cap l t A' n' cap' m W hl hm h1 h2 F1' F3 ZO)
  have HD2:=jpk (fun s A n cap l t A' n' cap' m W hl hm h1 h2=>uDiv (-y) (Int.gcd (-x) (-y):Int) s A n cap l t A' n' cap' m W hl hm h1 h2 F2' F3 ZO)
  rw [jbk ZO,jbj ZO]
  have HEnd:=jpk (fun s A n cap l t A' n' cap' m W (r1:RdI W W.heap.size A n cap l) (r2:RdI W W.heap.size A' n' cap' m) (e1:Std s l (fq (-x) (Int.gcd (-x) (-y):Int))) (e2:Std t m (fq (-y) (Int.gcd (-x) (-y):Int))) (a1:FrA w.heap.size A) (a2:FrA w.heap.size A') (hb:Below w.heap.size w W)=>(⟨s,A,n,cap,l,t,A',n',cap',m,rfl,⟨r1,r2⟩,⟨by rw [←g1];exact e1,by rw [←g2];exact e2⟩,⟨a1,a2⟩,hb⟩:FrE w (some (Rat.divInt x y)) 0 (.returned (.tuple #[.agg #[.int .i64 s,.slice A n cap,.int .i64 t,.slice A' n' cap'],.int .i64 0])) W))
  clear S1 S2 F1 F2 F3 F1' F2' ht hy0 hy1 hg g1 g2
  go_enter Tryz.func57,Tryz.ntmps57
  go_wp2_with (first|(refine ZAL ?_;clear K r;intro W b K r)|(refine ZST ?_;clear K r;intro W K r))
  refine (HR1.out _ ZRD).mono ?_
  rintro e W' ⟨rfl,hb⟩
  replace K:=K.keep hb
  clear r
  have r:=K.rawS
  clear hb
  go_wp2_with (first|(refine ZAL ?_;clear K r;intro W b K r)|(refine ZST ?_;clear K r;intro W K r))
  refine (HR2.out _ ZRD).mono ?_
  rintro e W' ⟨rfl,hb⟩
  replace K:=K.keep hb
  clear r
  have r:=K.rawS
  clear hb
  go_wp2_with (first|(refine ZAL ?_;clear K r;intro W b K r)|(refine ZST ?_;clear K r;intro W K r))
  refine (HN1.out _ ZRD).mono ?_
  rintro e W' ⟨s1,A1,n1,c1,l1,rfl,hr,hs1,hf,hb⟩
  have hf1:=jpk (hf.mono K.1.size)
  replace K:=K.ret hb hr hf
  clear r
  have r:=K.rawS
  clear hr hf hb
  go_wp2_with (first|(refine ZAL ?_;clear K r;intro W b K r)|(refine ZST ?_;clear K r;intro W K r))
  refine (HN2.out _ ZRD).mono ?_
  rintro e W' ⟨s2,A2,n2,c2,l2,rfl,hr,hs2,hf,hb⟩
  have hf2:=jpk (hf.mono K.1.size)
  replace K:=K.ret hb hr hf
  clear r
  have r:=K.rawS
  clear hr hf hb
  exact ZQ23
theorem uNew (x y:Int) (s:Int) (A:Option Addr) (n cap:Nat) (l:List Int) (t:Int) (A':Option Addr) (n' cap':Nat) (m:List Int) (W:World) (hl:RdI W W.heap.size A n cap l) (hm:RdI W W.heap.size A' n' cap' m) (h1:Std s l x) (h2:Std t m y) (f1:fits x=true) (f2:fits y=true) :
 Calls Tryz.prog 57 #[.agg #[.int .i64 s,.slice A n cap],.agg #[.int .i64 t,.slice A' n' cap']] W (FrE W (newO true x y) (newE true y)):=by
 have h:=jms s t A A' n cap n' cap' l m W hl hm
 rw [h1.right f1,h2.right f2,h1.val,h2.val] at h
 exact h
theorem jgd (p q:Int) (w:World) (hp: -9223372036854775808≤p∧p≤9223372036854775807) (hq: -9223372036854775808≤q∧q≤9223372036854775807) :
 Calls Tryz.prog 27 #[.int .i64 p,.int .i64 q] w (FrE w (newO true p q) (newE true q)):=by
 have K:=St.start w
 have r:=K.raw
 have HO1:=jpk (fun W=>jf9 p W hp)
 have HO2:=jpk (fun W=>jf9 q W hq)
 have HN:=jpk (fun s A n cap l t A' n' cap' m W hl hm h1 h2=>uNew p q s A n cap l t A' n' cap' m W hl hm h1 h2 (jbM ZO) (jbM ZO))
 generalize newO true p q=O at *
 generalize newE true q=E at *
 clear hp hq
 go_enter Tryz.func27,Tryz.ntmps27
 go_wp2_with (first|(refine ZAL ?_;clear K r;intro W b K r)|(refine ZST ?_;clear K r;intro W K r))
 refine (HO1.out _).mono ?_
 rintro e W' ⟨s1,A1,n1,c1,l1,rfl,hr,hs1,hf,hb⟩
 have hf1:=jpk (hf.mono K.1.size)
 replace K:=K.ret hb hr hf
 clear r
 have r:=K.rawS
 clear hr hf hb
 go_wp2_with (first|(refine ZAL ?_;clear K r;intro W b K r)|(refine ZST ?_;clear K r;intro W K r))
 refine (HO2.out _).mono ?_
 rintro e W' ⟨s2,A2,n2,c2,l2,rfl,hr,hs2,hf,hb⟩
 have hf2:=jpk (hf.mono K.1.size)
 replace K:=K.ret hb hr hf
 clear r
 have r:=K.rawS
 clear hr hf hb
 go_wp2_with (first|(refine ZAL ?_;clear K r;intro W b K r)|(refine ZST ?_;clear K r;intro W K r))
 refine (HN.out _ _ _ _ _ _ _ _ _ _ _ ZRD ZRD hs1 hs2).mono ?_
 rintro e W' ⟨s3,A3,n3,c3,l3,t3,B3,m3,d3,k3,rfl,⟨hra,hrb⟩,ho,⟨hfa,hfb⟩,hb⟩
 have hf3:=jpk (hfa.mono K.1.size)
 have hg3:=jpk (hfb.mono K.1.size)
 replace K:=K.retF hb hra hrb hfa hfb
 clear r
 have r:=K.rawS
 clear hra hrb hfa hfb hb
 go_wp2_with (first|(refine ZAL ?_;clear K r;intro W b K r)|(refine ZST ?_;clear K r;intro W K r))
 have HE:=jpk (⟨s3,A3,n3,c3,l3,t3,B3,m3,d3,k3,rfl,⟨ZRD,ZRD⟩,ho,⟨hf3.out,hg3.out⟩,K.1⟩:FrE w O E (.returned (.tuple #[.agg #[.int .i64 s3,.slice A3 n3 c3,.int .i64 t3,.slice B3 m3 d3],.int .i64 E])) W)
 clear hs1 hs2 ho
 exact bodyPost_ret (v:=.tuple #[.agg #[.int .i64 s3,.slice A3 n3 c3,.int .i64 t3,.slice B3 m3 d3],.int .i64 E]) (by simp [results,Tryz.results27,go_sem,r]) rfl HE.out
def madO (bad:Bool) (x y:Int):Option Rat:=if bad=true then none else newO true x y
def madE (bad:Bool) (y:Int):Int:=if bad=true then 6 else newE true y
theorem jbt (bad:Bool) (x y:Int) (s:Int) (A:Option Addr) (n cap:Nat) (l:List Int) (t:Int) (A':Option Addr) (n' cap':Nat) (m:List Int) (w:World) (hl:RdI w w.heap.size A n cap l) (hm:RdI w w.heap.size A' n' cap' m) (h1:Std s l x) (h2:Std t m y) (f1:fits x=true) (f2:fits y=true) :
 Calls Tryz.prog 75 #[.agg #[.int .i64 s,.slice A n cap],.agg #[.int .i64 t,.slice A' n' cap'],.bool bad] w (FrE w (madO bad x y) (madE bad y)):=by
 have K:=((St.start w).oldRd hl).oldRd hm
 have r:=K.raw
 have Hno:=jpk (fun W (c:Int) (h:Below w.heap.size w W)=>(⟨0,none,0,0,[],0,none,0,0,[],rfl,⟨Rd.nil,Rd.nil⟩,⟨rfl,rfl,rfl,rfl⟩,⟨FrA.none,FrA.none⟩,h⟩:FrE w none c (.returned (.tuple #[.agg #[.int .i64 0,.slice none 0 0,.int .i64 0,.slice none 0 0],.int .i64 c])) W))
 cases bad
 case true =>
  have e1:madO true x y=none:=if_pos rfl
  have e2:madE true y=6:=if_pos rfl
  rw [e1,e2]
  clear e1 e2 h1 h2 f1 f2
  go_enter Tryz.func75,Tryz.ntmps75
  go_wp2_with (first|(refine ZAL ?_;clear K r;intro W b K r)|(refine ZST ?_;clear K r;intro W K r))
  exact bodyPost_ret (v:=.tuple #[.agg #[.int .i64 0,.slice none 0 0,.int .i64 0,.slice none 0 0],.int .i64 6]) (by simp [results,Tryz.results75,go_sem,r]) rfl (Hno.out _ _ K.1)
 have HN:=jpk (fun W hl hm=>uNew x y s A n cap l t A' n' cap' m W hl hm h1 h2 f1 f2)
 have e1:madO false x y=newO true x y:=if_neg Zb0
 have e2:madE false y=newE true y:=if_neg Zb0
 rw [e1,e2]
 generalize newO true x y=O at *
 generalize newE true y=E at *
 clear e1 e2 h1 h2 f1 f2
 go_enter Tryz.func75,Tryz.ntmps75
 go_wp2_with (first|(refine ZAL ?_;clear K r;intro W b K r)|(refine ZST ?_;clear K r;intro W K r))
 refine (HN.out _ ZRD ZRD).mono ?_
 rintro e W' ⟨s3,A3,n3,c3,l3,t3,B3,m3,d3,k3,rfl,⟨hra,hrb⟩,ho,⟨hfa,hfb⟩,hb⟩
 have hf3:=jpk (hfa.mono K.1.size)
 have hg3:=jpk (hfb.mono K.1.size)
 replace K:=K.retF hb hra hrb hfa hfb
 clear r
 have r:=K.rawS
 clear hra hrb hfa hfb hb
 go_wp2_with (first|(refine ZAL ?_;clear K r;intro W b K r)|(refine ZST ?_;clear K r;intro W K r))
 have HE:=jpk (show FrE w O E (.returned (.tuple #[.agg #[.int .i64 s3,.slice A3 n3 c3,.int .i64 t3,.slice B3 m3 d3],.int .i64 E])) W from ⟨s3,A3,n3,c3,l3,t3,B3,m3,d3,k3,rfl,⟨ZRD,ZRD⟩,ho,⟨hf3.out,hg3.out⟩,K.1⟩)
 clear ho
 exact bodyPost_ret (v:=.tuple #[.agg #[.int .i64 s3,.slice A3 n3 c3,.int .i64 t3,.slice B3 m3 d3],.int .i64 E]) (by simp [results,Tryz.results75,go_sem,r]) rfl HE.out
theorem jgu (A:Option Addr) (n cap:Nat) (l:List Fv) (w:World) (hl:RdF w w.heap.size A n cap l) :
 Calls Tryz.prog 39 #[.slice A n cap] w fun e w'=>e=.returned (.bool (l.all Fv.ok))∧Below w.heap.size w w':=by
 have hcaps:=hl.caps
 have Hlen:=jpk hl.len
 have HL:=jpk hl
 have K:=St.start w
 have r:=K.raw
 clear hl
 go_enter Tryz.func39,Tryz.ntmps39
 go_wp2_with (first|(refine ZAL ?_;clear K r;intro W b K r)|(refine ZST ?_;clear K r;intro W K r))
 go_loopg [3] n (fun gk s3 wr=>∃k:Nat,k≤n∧gk=n-k∧s3=.int .i64 k∧Hid (∀(j:Nat) x,j<k→l[j]?=some x→x.ok=true)∧St w [] [] wr)
 case atStart=>exact ⟨0,Nat.zero_le _,rfl,rfl,jpk (fun j x h=>absurd h ZO),K⟩
 case round =>
  clear K r
  obtain ⟨k,hk,rfl,rfl,HA,K⟩:=hrel
  have r:=K.rawS
  by_cases hlt:k<n
  ·obtain ⟨eb1,off1,A1,n1,c1,B1,m1,d1,x,hA1,hbB1,hx1,⟨z0,z1,z2,z3⟩,r1,q1⟩:=HL.out.atF hlt
   subst hA1
   have Ex1:=jpk (fun W (h:Below w.heap.size w W)=>(⟨(h.cell (p:=⟨eb1,off1+k*4,none⟩) hbB1).trans z0,(h.cell (p:=⟨eb1,off1+k*4+1,none⟩) hbB1).trans z1,(h.cell (p:=⟨eb1,off1+k*4+2,none⟩) hbB1).trans z2,(h.cell (p:=⟨eb1,off1+k*4+3,none⟩) hbB1).trans z3⟩:W.cell? ⟨eb1,off1+k*4,none⟩=some (.int .i64 (x).s)∧W.cell? ⟨eb1,off1+k*4+1,none⟩=some (.slice A1 n1 c1)∧W.cell? ⟨eb1,off1+k*4+2,none⟩=some (.int .i64 (x).t)∧W.cell? ⟨eb1,off1+k*4+3,none⟩=some (.slice B1 m1 d1)))
   have hki:(k:Int)<(n:Int):=by omega
   have hk0:(0:Int)≤(k:Int):=by omega
   have hcap1:=r1.caps
   have hcbp1:=q1.caps
   replace K:=(K.oldRd r1).oldRd q1
   have Hx1:=jpk hx1
   clear hx1 z0 z1 z2 z3 r1 q1
   have e1:=Ex1.out _ K.1
   have HR:=jpk (fun W a b=>jby x.s x.t A1 B1 n1 c1 m1 d1 x.l x.m W a b)
   have hok:jam x.s x.l x.t x.m=x.ok:=rfl
   rw [hok] at HR
   clear hok
   cases hin:x.ok
   ·rw [hin] at HR
    have Hno:=jpk (show l.all Fv.ok=false by
     rw [List.all_eq_false];exact ⟨x,List.mem_of_getElem? Hx1.out,by simp [hin]⟩)
    clear hin
    go_wp2_with (first|(refine ZAL ?_;clear K r;intro W b K r)|(refine ZST ?_;clear K r;intro W K r))
    refine (HR.out _ ZRD ZRD).mono ?_
    rintro e W' ⟨rfl,hb⟩
    replace K:=K.keep hb
    clear r
    have r:=K.rawS
    clear hb
    go_wp2_with (first|(refine ZAL ?_;clear K r;intro W b K r)|(refine ZST ?_;clear K r;intro W K r))
    go_ret
    exact ⟨by rw [Hno.out];first|done|rfl,K.1⟩
   ·rw [hin] at HR
    have HA2:=jpk (show ∀(j:Nat) x,j<k+1→l[j]?=some x→x.ok=true from fun j y hj hy=>by
     by_cases e:j=k
     ·subst e;rw [Hx1.out] at hy;cases hy;exact hin
     ·exact HA.out j y ZO hy)
    clear hin HA
    go_wp2_with (first|(refine ZAL ?_;clear K r;intro W b K r)|(refine ZST ?_;clear K r;intro W K r))
    refine (HR.out _ ZRD ZRD).mono ?_
    rintro e W' ⟨rfl,hb⟩
    replace K:=K.keep hb
    clear r
    have r:=K.rawS
    clear hb
    exact ZQ80
  ·have e:k=n:=by omega
   subst e
   have Hyes:=jpk (show l.all Fv.ok=true by
    exact ZQ108)
   clear HA
   go_wp2_with (first|(refine ZAL ?_;clear K r;intro W b K r)|(refine ZST ?_;clear K r;intro W K r))
   go_ret
   exact ⟨by rw [Hyes.out];first|done|rfl,K.1⟩
theorem je8 {l:List Fv} (h:l.all fnF=true):l.all Fv.ok=true:=by
 rw [List.all_eq_true] at h ⊢
 intro x hx
 have:=h x hx
 unfold fnF at this
 rw [Bool.and_eq_true] at this
 exact this.1
theorem jhw (A:Option Addr) (n cap N:Nat) (l:List Fv) (w:World) (hl:RdF w w.heap.size A n cap l) :
 Calls Tryz.prog 46 #[.slice A n cap,.int .i64 (N:Int)] w fun e w'=>e=.returned (.bool (decide (l.length=N)&&l.all fnF))∧Below w.heap.size w w':=by
 have hcaps:=hl.caps
 have Hlen:=jpk hl.len
 have HL:=jpk hl
 have K:=St.start w
 have r:=K.raw
 by_cases hN:n=N
 ·have hNi:(n:Int)=(N:Int):=by omega
  have Hd:=jpk (show decide (l.length=N)=true from decide_eq_true (by rw [Hlen.out];exact hN))
  have HA:=jpk (fun W a=>jgu A n cap l W a)
  clear hl hN
  cases hall:l.all Fv.ok
  ·have Hno:=jpk (show l.all fnF=false by
    cases h:l.all fnF
    ·rfl
    ·rw [je8 h] at hall;cases hall)
   rw [hall] at HA
   clear hall
   go_enter Tryz.func46,Tryz.ntmps46
   go_wp2_with (first|(first|(refine ZAL ?_;clear K r;intro W b K r)|(refine ZST ?_;clear K r;intro W K r))|(go_at_call 39;refine (HA.out _ (HL.out.up jan K.1)).mono ?_;rintro e W' ⟨rfl,hb⟩;replace K:=K.keep hb;clear hb r;have r:=K.rawS))
   go_ret
   exact ⟨by rw [Hno.out,Bool.and_false];rfl,K.1⟩
  ·rw [hall] at HA
   have Hall:=jpk hall
   clear hall
   go_enter Tryz.func46,Tryz.ntmps46
   go_wp2_with (first|(first|(refine ZAL ?_;clear K r;intro W b K r)|(refine ZST ?_;clear K r;intro W K r))|(go_at_call 39;refine (HA.out _ (HL.out.up jan K.1)).mono ?_;rintro e W' ⟨rfl,hb⟩;replace K:=K.keep hb;clear hb r;have r:=K.rawS))
   clear HA
   go_loopg [5] n (fun gk s3 wr=>∃k:Nat,k≤n∧gk=n-k∧s3=.int .i64 k∧Hid (∀(j:Nat) x,j<k→l[j]?=some x→fnF x=true)∧St w [] [] wr)
   case atStart=>exact ⟨0,Nat.zero_le _,rfl,rfl,jpk (fun j x h=>absurd h ZO),K.less (fun _ h=>by cases h)⟩
   case round =>
    clear K r
    obtain ⟨k,hk,rfl,rfl,HA,K⟩:=hrel
    have r:=K.rawS
    by_cases hlt:k<n
    ·obtain ⟨eb1,off1,A1,n1,c1,B1,m1,d1,x,hA1,hbB1,hx1,⟨z0,z1,z2,z3⟩,r1,q1⟩:=HL.out.atF hlt
     subst hA1
     have Ex1:=jpk (fun W (h:Below w.heap.size w W)=>(⟨(h.cell (p:=⟨eb1,off1+k*4,none⟩) hbB1).trans z0,(h.cell (p:=⟨eb1,off1+k*4+1,none⟩) hbB1).trans z1,(h.cell (p:=⟨eb1,off1+k*4+2,none⟩) hbB1).trans z2,(h.cell (p:=⟨eb1,off1+k*4+3,none⟩) hbB1).trans z3⟩:W.cell? ⟨eb1,off1+k*4,none⟩=some (.int .i64 (x).s)∧W.cell? ⟨eb1,off1+k*4+1,none⟩=some (.slice A1 n1 c1)∧W.cell? ⟨eb1,off1+k*4+2,none⟩=some (.int .i64 (x).t)∧W.cell? ⟨eb1,off1+k*4+3,none⟩=some (.slice B1 m1 d1)))
     have hki:(k:Int)<(n:Int):=by omega
     have hk0:(0:Int)≤(k:Int):=by omega
     have hcap1:=r1.caps
     have hcbp1:=q1.caps
     replace K:=(K.oldRd r1).oldRd q1
     have Hx1:=jpk hx1
     clear hx1 z0 z1 z2 z3 r1 q1
     have e1:=Ex1.out _ K.1
     have Hxo:=jpk (show x.ok=true from List.all_eq_true.1 Hall.out x (List.mem_of_getElem? Hx1.out))
     by_cases hs:x.s<0
     ·have Hno:=jpk (show l.all fnF=false by
       rw [List.all_eq_false];exact ⟨x,List.mem_of_getElem? Hx1.out,by unfold fnF;rw [decide_eq_true hs];simp⟩)
      go_wp2_with (first|(refine ZAL ?_;clear K r;intro W b K r)|(refine ZST ?_;clear K r;intro W K r))
      go_ret
      exact ⟨by rw [Hno.out,Bool.and_false];rfl,K.1⟩
     ·have HA2:=jpk (show ∀(j:Nat) x,j<k+1→l[j]?=some x→fnF x=true from fun j y hj hy=>by
       by_cases e:j=k
       ·subst e;rw [Hx1.out] at hy;cases hy;unfold fnF;rw [Hxo.out,decide_eq_false hs];rfl
       ·exact HA.out j y ZO hy)
      clear HA
      exact ZQ80
    ·have e:k=n:=by omega
     subst e
     have Hyes:=jpk (show l.all fnF=true by
      exact ZQ108)
     clear HA
     go_wp2_with (first|(refine ZAL ?_;clear K r;intro W b K r)|(refine ZST ?_;clear K r;intro W K r))
     go_ret
     exact ⟨by rw [Hyes.out,Hd.out];rfl,K.1⟩
 ·have hNi:¬(n:Int)=(N:Int):=by omega
  have Hd:=jpk (show decide (l.length=N)=false from decide_eq_false (by rw [Hlen.out];exact hN))
  clear hl
  go_enter Tryz.func46,Tryz.ntmps46
  go_wp2_with (first|(refine ZAL ?_;clear K r;intro W b K r)|(refine ZST ?_;clear K r;intro W K r))
  go_ret
  exact ⟨by rw [Hd.out];rfl,K.1⟩
def rwA2 (ls:List Rv) (i j:Nat):Rat:=((ls[i]?.bind fun r=>r.a[j]?).map Fv.rat).getD 0
def rwB2 (ls:List Rv) (zero:Bool) (i:Nat):Rat:=if zero=true then 0 else ((ls[i]?).map fun r=>r.b.rat).getD 0
theorem Upd.next {b:Nat} {cs cs1:Array Value} {t:TypeId} {L L1:List Blk} (cs2:Array Value) (h:Upd b cs t cs1 L L1):∃L2,Upd b cs1 t cs2 L1 L2∧Upd b cs t cs2 L L2:=by
 induction h with
 | head L=>exact ⟨_,.head L,.head L⟩
 | tail x h ih =>
  obtain ⟨L2,h1,h2⟩:=ih
  exact ⟨_,.tail x h1,.tail x h2⟩
theorem St.rdOld {w W:World} {L:List Blk} {D:List Hl} {A:Option Addr} {n cap:Nat} {l:List Int} (K:St w L D W) (h:RdI w w.heap.size A n cap l):St w L (⟨rdP A n cap l,rdS A n⟩::D) W :=
 K.add ⟨h.up (jab _) K.1,fun b hS=>⟨Nat.lt_of_lt_of_le (Rd.sup h hS) K.1.size,fun p hp e=>by
  have g1:=(K.2.1 p hp).1
  have g2:=Rd.sup h hS
  omega⟩,fun W' h1 h2=>jbg (h.up (jab _) K.1) h1 h2⟩
theorem jhT (w0 W:World) (L:List Blk) (D:List Hl) (mb:Nat) (b:Bool) (R:List Value) (T:TypeId) (A A' B:Option Addr) (n cap m cap' n' capx:Nat) (ls:List Rv) (v:Nat→Rw) (x:Nat→Rat)
 (K:St w0 L D W) (hmb:(mb,(Value.bool b::R).toArray,T)∈L) (hr:RdR w0 w0.heap.size A' m cap' ls) (hrow:∀(k:Nat) (X:Rv),ls[k]?=some X→rowF n X=true) (m2:(⟨fxP B n' capx v,fxS B n' v⟩:Hl)∈D) (hn:n≤n'∧n≤1000000) (hx:∀i,i<n→isQ (v i) (x i)) :
 Calls Tryz.prog 80 #[.pointer (some ⟨mb,0,none⟩),.agg #[.slice A n cap,.slice A' m cap'],.slice B n' capx,.bool false] W (SumP w0 mb R T b L D (belB m n (rwA2 ls) (rwB2 ls false) x)):=by
 have HX:=jpk hx
 have M2:=jpk m2
 have HL:=jpk hr
 have HRow:=jpk hrow
 have hcap':=hr.caps
 have hcap:=K.fxCap m2
 obtain ⟨L9,hU9,rfl⟩:=Upd.same hmb
 have HU0:=jpk hU9
 clear hx hr hrow hmb hU9 m2
 have r:=K.raw
 go_enter Tryz.func80,Tryz.ntmps80
 go_wp2_with (first|(apply K.box;rfl;rfl;rfl;clear K r;intro W b0 K;have r:=K.rawS)|(apply K.alloc;rfl;rfl;exact ja3;clear K r;intro W b1 K;have r:=K.rawS)|(apply K.alloc;rfl;rfl;exact jbh;clear K r;intro W b2 K;have r:=K.rawS)|(apply K.storeA;rfl;rfl;rfl;rfl;rfl;(exact ZUP);(first|exact ja2|exact jar);rfl;rfl;rfl;clear K r;intro W K;have r:=K.rawS))
 go_loopg [15] m (fun gk s15 wr=>∃(k:Nat) (bk:Bool) (Lk:List Blk),k≤m∧gk=m-k∧s15=.int .i64 k∧Hid (Upd mb (Value.bool b::R).toArray T (Value.bool bk::R).toArray L9 Lk)∧Hid ((!bk)=(!b&&jbZ (fun i=>prdK (rwA2 ls i) x n) (fun i=>decide (smQ (fun j=>rwA2 ls i j*x j) n≤rwB2 ls false i)) k))∧St w0 ((b0,#[.slice A n cap,.slice A' m cap'],57)::Lk) D wr)
 case atStart=>exact ⟨0,b,L9,Nat.zero_le _,rfl,rfl,HU0,jpk (by simp [jbZ]),K⟩
 case round =>
  clear K r HU0
  obtain ⟨k,bk,Lk,hk,rfl,rfl,HU,HS,K⟩:=hrel
  by_cases hlt:k<m
  ·obtain ⟨eb,eo,A0,n0,c0,A1,n1,c1,A2,n2,c2,X,hA,hbB,hX,⟨z0,z1,z2,z3,z4⟩,r0,r1,r2⟩:=HL.out.atR hlt
   subst hA
   have hki:(k:Int)<(m:Int):=by omega
   have hk0:(0:Int)≤(k:Int):=by omega
   have y0:=(K.1.cell (p:=⟨eb,eo+k*5,none⟩) hbB).trans z0
   have y1:=(K.1.cell (p:=⟨eb,eo+k*5+1,none⟩) hbB).trans z1
   have y2:=(K.1.cell (p:=⟨eb,eo+k*5+2,none⟩) hbB).trans z2
   have y3:=(K.1.cell (p:=⟨eb,eo+k*5+3,none⟩) hbB).trans z3
   have y4:=(K.1.cell (p:=⟨eb,eo+k*5+4,none⟩) hbB).trans z4
   have hc0:=r0.caps
   have hc1:=r1.caps
   have hc2:=r2.caps
   have hF:=HRow.out k X hX
   unfold rowF at hF
   rw [Bool.and_eq_true,Bool.and_eq_true,decide_eq_true_eq] at hF
   have hn0:n0=n:=by have:=hF.1.1;have:=r0.len;omega
   subst hn0
   obtain ⟨u,hu,K⟩:=K.fxOld r0
   have hQ:=jbW hF.1.2
   have HA:=jpk (show ∀i,i<n0→isQ (u i) (rwA2 ls k i) from fun i hi=>by
    exact ZQ55)
   have HQ:=jpk (show isQ (⟨X.b.s,A1,n1,c1,X.b.l,X.b.t,A2,n2,c2,X.b.m⟩:Rw) (rwB2 ls false k) from by
    unfold rwB2
    rw [if_neg Zb4,hX,Option.map_some,Option.getD_some]
    exact hQ)
   replace K:=(K.rdOld r1).rdOld r2
   clear hX z0 z1 z2 z3 z4 r0 r1 r2 hF hu hQ
   have r:=K.rawS
   go_upto_region 7 with (first|(apply K.box;rfl;rfl;rfl;clear K r;intro W b0 K;have r:=K.rawS)|(apply K.alloc;rfl;rfl;exact ja3;clear K r;intro W b1 K;have r:=K.rawS)|(apply K.alloc;rfl;rfl;exact jbh;clear K r;intro W b2 K;have r:=K.rawS)|(apply K.storeA;rfl;rfl;rfl;rfl;rfl;(exact ZUP);(first|exact ja2|exact jar);rfl;rfl;rfl;clear K r;intro W K;have r:=K.rawS))
   have K0:=K.drew
   have r0:=K0.rawS
   have s0:W.drew.cell? ⟨b1,0,none⟩=some (.slice A0 n0 c0)∧W.drew.cell? ⟨b2,0,none⟩=some (.int .i64 X.b.s)∧W.drew.cell? ⟨b2,1,none⟩=some (.slice A1 n1 c1)∧W.drew.cell? ⟨b2,2,none⟩=some (.int .i64 X.b.t)∧W.drew.cell? ⟨b2,3,none⟩=some (.slice A2 n2 c2):=⟨r0.2.1.1,r0.1⟩
   obtain ⟨bn,hbn⟩:∃bn,bn=(bk|| !prdK (rwA2 ls k) x n0):=⟨_,rfl⟩
   obtain ⟨Ln,hU1,hU2⟩:=HU.out.next (Value.bool bn::R).toArray
   have HU1:=jpk hU1
   have HU2:=jpk hU2
   have HBn:=jpk hbn
   have HPr:=jpk (jbB w0 W.drew _ ((b2,#[.int .i64 ((⟨X.b.s,A1,n1,c1,X.b.l,X.b.t,A2,n2,c2,X.b.m⟩:Rw)).s,.slice ((⟨X.b.s,A1,n1,c1,X.b.l,X.b.t,A2,n2,c2,X.b.m⟩:Rw)).A ((⟨X.b.s,A1,n1,c1,X.b.l,X.b.t,A2,n2,c2,X.b.m⟩:Rw)).n ((⟨X.b.s,A1,n1,c1,X.b.l,X.b.t,A2,n2,c2,X.b.m⟩:Rw)).c,.int .i64 ((⟨X.b.s,A1,n1,c1,X.b.l,X.b.t,A2,n2,c2,X.b.m⟩:Rw)).t,.slice ((⟨X.b.s,A1,n1,c1,X.b.l,X.b.t,A2,n2,c2,X.b.m⟩:Rw)).B ((⟨X.b.s,A1,n1,c1,X.b.l,X.b.t,A2,n2,c2,X.b.m⟩:Rw)).m ((⟨X.b.s,A1,n1,c1,X.b.l,X.b.t,A2,n2,c2,X.b.m⟩:Rw)).d],29)::(b1,#[.slice A0 n0 c0,.int .i64 X.b.s,.slice A1 n1 c1,.int .i64 X.b.t,.slice A2 n2 c2],97)::(b0,#[.slice A n0 cap,.slice (some ⟨eb,eo,none⟩) m cap'],57)::Ln) _ mb bk bn R T A0 B n0 c0 n' capx u v (rwA2 ls k) x K0 ZMB Zb12 hn HA.out HX.out hbn (.tail _ (.tail _ (.tail _ hU1))))
   have HCm:=jpk (fun V (y2:Rw) (z2:Rat) (hz:isQ y2 z2) (h:St w0 ((b2,#[.int .i64 ((⟨X.b.s,A1,n1,c1,X.b.l,X.b.t,A2,n2,c2,X.b.m⟩:Rw)).s,.slice ((⟨X.b.s,A1,n1,c1,X.b.l,X.b.t,A2,n2,c2,X.b.m⟩:Rw)).A ((⟨X.b.s,A1,n1,c1,X.b.l,X.b.t,A2,n2,c2,X.b.m⟩:Rw)).n ((⟨X.b.s,A1,n1,c1,X.b.l,X.b.t,A2,n2,c2,X.b.m⟩:Rw)).c,.int .i64 ((⟨X.b.s,A1,n1,c1,X.b.l,X.b.t,A2,n2,c2,X.b.m⟩:Rw)).t,.slice ((⟨X.b.s,A1,n1,c1,X.b.l,X.b.t,A2,n2,c2,X.b.m⟩:Rw)).B ((⟨X.b.s,A1,n1,c1,X.b.l,X.b.t,A2,n2,c2,X.b.m⟩:Rw)).m ((⟨X.b.s,A1,n1,c1,X.b.l,X.b.t,A2,n2,c2,X.b.m⟩:Rw)).d],29)::(b1,#[.slice A0 n0 c0,.int .i64 X.b.s,.slice A1 n1 c1,.int .i64 X.b.t,.slice A2 n2 c2],97)::(b0,#[.slice A n0 cap,.slice (some ⟨eb,eo,none⟩) m cap'],57)::Ln) (⟨rdP y2.B y2.m y2.d y2.k,rdS y2.B y2.m⟩::⟨rdP y2.A y2.n y2.c y2.l,rdS y2.A y2.n⟩::⟨rdP A2 n2 c2 X.b.m,rdS A2 n2⟩::⟨rdP A1 n1 c1 X.b.l,rdS A1 n1⟩::⟨fxP A0 n0 c0 u,fxS A0 n0 u⟩::D) V)=>jcX h hz HQ.out ZMB ZMB ZMB ZMB)
   have HSA:=jpk (fun V D2 Lx (h:St w0 ((b2,#[.int .i64 ((⟨X.b.s,A1,n1,c1,X.b.l,X.b.t,A2,n2,c2,X.b.m⟩:Rw)).s,.slice ((⟨X.b.s,A1,n1,c1,X.b.l,X.b.t,A2,n2,c2,X.b.m⟩:Rw)).A ((⟨X.b.s,A1,n1,c1,X.b.l,X.b.t,A2,n2,c2,X.b.m⟩:Rw)).n ((⟨X.b.s,A1,n1,c1,X.b.l,X.b.t,A2,n2,c2,X.b.m⟩:Rw)).c,.int .i64 ((⟨X.b.s,A1,n1,c1,X.b.l,X.b.t,A2,n2,c2,X.b.m⟩:Rw)).t,.slice ((⟨X.b.s,A1,n1,c1,X.b.l,X.b.t,A2,n2,c2,X.b.m⟩:Rw)).B ((⟨X.b.s,A1,n1,c1,X.b.l,X.b.t,A2,n2,c2,X.b.m⟩:Rw)).m ((⟨X.b.s,A1,n1,c1,X.b.l,X.b.t,A2,n2,c2,X.b.m⟩:Rw)).d],29)::(b1,#[.slice A0 n0 c0,.int .i64 X.b.s,.slice A1 n1 c1,.int .i64 X.b.t,.slice A2 n2 c2],97)::Lx) D2 V)=>(show V.cell? ⟨b1,0,none⟩=some (.slice A0 n0 c0)∧V.cell? ⟨b2,0,none⟩=some (.int .i64 X.b.s)∧V.cell? ⟨b2,1,none⟩=some (.slice A1 n1 c1)∧V.cell? ⟨b2,2,none⟩=some (.int .i64 X.b.t)∧V.cell? ⟨b2,3,none⟩=some (.slice A2 n2 c2) from by
    have r:=h.rawS
    exact ⟨r.2.1.1,r.1⟩))
   clear hU1 hU2 hbn HU K r r0
   refine jak 100 (fun V=>V.cell? ⟨b1,0,none⟩=some (.slice A0 n0 c0)∧V.cell? ⟨b2,0,none⟩=some (.int .i64 X.b.s)∧V.cell? ⟨b2,1,none⟩=some (.slice A1 n1 c1)∧V.cell? ⟨b2,2,none⟩=some (.int .i64 X.b.t)∧V.cell? ⟨b2,3,none⟩=some (.slice A2 n2 c2)) Zb9 s0 (fun hSh=>?_)
   clear s0
   refine jaa.tkA 0 rfl ?_
   refine jaa.tkA 1 rfl ?_
   refine jaa.tkA 2 rfl ?_
   refine jaa.tkA 3 rfl ?_
   refine jaa.tkA 5 rfl ?_
   refine jaa.on 4 rfl fun KK hKK=>?_
   go_simp
   go_at_call 82;refine HPr.out.mono ?_;rintro e w5 ⟨y2,z2,rfl,g2,k5⟩
   go_wp2_with fail
   refine hKK.out _ _ ?_ (fun hSh=>?_)
   ·exact HSA.out _ _ _ k5
   clear hKK KK
   refine ZPT ?_
   refine jaa.on 6 rfl fun KK hKK=>?_
   go_simp
   go_at_call 23;refine (HCm.out _ _ _ g2.out.1 k5).mono ?_;rintro e w6 ⟨rfl,k6⟩
   go_wp2_with fail
   refine hKK.out _ _ ?_ (fun hSh=>?_)
   ·exact HSA.out _ _ _ k6
   clear hKK KK
   refine ZPT ?_
   have hst:=jdg (q:=decide (z2≤rwB2 ls false k)) HS.out HBn.out (p:=fun i=>decide (smQ (fun j=>rwA2 ls i j*x j) n0≤rwB2 ls false i)) (t:=fun i=>prdK (rwA2 ls i) x n0) (fun h=>by rw [g2.out.2 h])
   have Hst:=jpk hst
   have HK:=jpk (k6.lessS (D':=D) Zb13)
   clear hst k5 K0 HPr HCm HSA g2 HU1 HBn HS HA HQ HX HRow
   by_cases hle:z2≤rwB2 ls false k
   ·have hc:¬cmpQ z2 (rwB2 ls false k)>0:=by have:=jcm.2 hle;omega
    have hcd:decide (cmpQ z2 (rwB2 ls false k)>0)=false:=decide_eq_false hc
    exact ZQ65
   ·have hc:cmpQ z2 (rwB2 ls false k)>0:=by
     have:¬cmpQ z2 (rwB2 ls false k)≤0:=fun h=>hle (jcm.1 h)
     omega
    have hcd:decide (cmpQ z2 (rwB2 ls false k)>0)=true:=decide_eq_true hc
    exact ZQ52
  ·have e:k=m:=by omega
   subst e
   have HE:=jpk (⟨true,bk,Lk,rfl,HU,jpk (by rw [Bool.true_and];exact HS.out),K.part (List.sublist_cons_self _ _)⟩:SumP w0 mb R T b L9 D (belB k n (rwA2 ls) (rwB2 ls false) x) (.returned (.bool true)) wr)
   exact jkD
end Go.Proofs.YtgikfcjndiohjaaGreat
