/- Laws and walks; conditions stand in each theorem. -/
import Derived.Test.YtgikfcjndiohjaaGreatP19
set_option linter.unusedSimpArgs false
set_option linter.unusedVariables false
set_option maxHeartbeats 2000000
set_option maxRecDepth 100000
namespace Go.Proofs.YtgikfcjndiohjaaGreat
open Go.RowKit
theorem BigR.keepB {w W:World} {g:Nat} {L:List (Nat × Nat × Value)} {R:List (Nat × Nat)} {m j:Nat} {z:Int} {e:Ending} {W':World} (h:BxC w g L R W) (hm:(m,j)∈R) (hd:BigR W z e W'):∃s' A' n' c' l',e=Ending.returned (.agg #[.int .i64 s',.slice A' n' c'])∧RdI W' W'.heap.size A' n' c' l'∧Std s' l' z∧FrA (g+m+1) A'∧BxC w g L R W'∧Below W.heap.size W W':=by
 obtain ⟨s',A',n',c',l',he,hr,hs,hf,hb⟩:=hd
 exact ⟨s',A',n',c',l',he,hr,hs,hf.mono (h.lt hm),h.keep hb,hb⟩
theorem jn1 {x y:Int} {D:List Int} (h:x=1∨y= -1∨D=[]):x=1∨y= -1∨val D=0:=by
 rcases h with h|h|h
 ·exact Or.inl h
 ·exact Or.inr (Or.inl h)
 ·exact Or.inr (Or.inr (by rw [h];rfl))
theorem jk7 (s t:Int) (A A2:Option Addr) (n cap n2 cap2:Nat) (a b:List Int) (w:World) (ha:RdI w w.heap.size A n cap a) (hb:RdI w w.heap.size A2 n2 cap2 b) :
 Calls Tryz.prog 73 #[.agg #[.int .i64 s,.slice A n cap],.agg #[.int .i64 t,.slice A2 n2 cap2]] w (BigE w (resZ (jae s a&&jae t b) (bval s a*bval t b)) (errZ (jae s a&&jae t b) (bval s a*bval t b))):=by
 have hcap:=ha.caps
 have hcap2:=hb.caps
 have K0:=box2 w (.int .i64 s) (.slice A n cap) (.int .i64 t) (.slice A2 n2 cap2) (.int .i64 0) (.slice none 0 0) 27 27 27
 have HR1:=jpk (fun W (h:Below w.heap.size w W)=>jaG s A n cap a W (ha.up (jab _) h))
 have HR2:=jpk (fun W (h:Below w.heap.size w W)=>jaG t A2 n2 cap2 b W (hb.up (jab _) h))
 obtain ⟨w0,hw0⟩:∃w0,w0=((w.alloc (.cells #[.int .i64 s,.slice A n cap] 27)).alloc (.cells #[.int .i64 t,.slice A2 n2 cap2] 27)).alloc (.cells #[.int .i64 0,.slice none 0 0] 27):=⟨_,rfl⟩
 rw [←hw0] at K0
 obtain ⟨g,hg⟩:∃g,g=w.heap.size:=⟨_,rfl⟩
 rw [←hg] at K0
 have HW:=jpk hw0;have HG:=jpk hg
 clear hw0 hg
 obtain ⟨hb0,⟨⟨c0,c1⟩,c2,c3⟩,⟨c4,c5⟩,c6,c7⟩:=raw2.1 K0
 cases h1:jae s a
 ·rw [h1] at HR1
  rw [Bool.false_and,jaC,jaz]
  clear h1
  go_enter Tryz.func73,Tryz.ntmps73
  go_wp2_with fail
  rw [←HW.out,←HG.out]
  refine (HR1.out _ hb0).mono ?_
  rintro e w1 ⟨rfl,hb1⟩
  have K1:=K0.keep hb1
  clear K0 c0 c1 c2 c3 c4 c5 c6 c7 hb1 hb0
  obtain ⟨hb0,⟨⟨d0,d1⟩,d2,d3⟩,⟨d4,d5⟩,d6,d7⟩:=raw2.1 K1
  obtain ⟨e1,e2⟩:=jav (u:=.int .i64 0) (v:=.slice none 0 0) d4 d5
  have K4:=jpk (K1.set2 (Nat.le_of_eq HG.out.symm) (b:=g+2) (u:=.int .i64 0) (v:=.slice none 0 0) ZO Zb7).1
  clear K1 hb0
  exact ZQ90
 cases h2:jae t b
 ·rw [h1] at HR1
  rw [h2] at HR2
  rw [Bool.true_and,jaC,jaz]
  clear h1 h2
  go_enter Tryz.func73,Tryz.ntmps73
  go_wp2_with fail
  rw [←HW.out,←HG.out]
  refine (HR1.out _ hb0).mono ?_
  rintro e w1 ⟨rfl,hb1⟩
  have K1:=K0.keep hb1
  clear K0 c0 c1 c2 c3 c4 c5 c6 c7 hb1 hb0
  obtain ⟨hb0,⟨⟨d0,d1⟩,d2,d3⟩,⟨d4,d5⟩,d6,d7⟩:=raw2.1 K1
  go_wp2_with fail
  refine (HR2.out _ hb0).mono ?_
  rintro e w2 ⟨rfl,hb1⟩
  have K2:=K1.keep hb1
  clear K1 d0 d1 d2 d3 d4 d5 d6 d7 hb1 hb0
  obtain ⟨hb0,⟨⟨d0,d1⟩,d2,d3⟩,⟨d4,d5⟩,d6,d7⟩:=raw2.1 K2
  obtain ⟨e1,e2⟩:=jav (u:=.int .i64 0) (v:=.slice none 0 0) d4 d5
  have K4:=jpk (K2.set2 (Nat.le_of_eq HG.out.symm) (b:=g+2) (u:=.int .i64 0) (v:=.slice none 0 0) ZO Zb7).1
  clear K2 hb0
  exact ZQ90
 rw [h1] at HR1
 rw [h2] at HR2
 rw [Bool.true_and]
 obtain ⟨c1',l1,e1'⟩:=jah h1
 obtain ⟨c2',l2,e2'⟩:=jah h2
 obtain ⟨m1,m2,m3⟩:=jfR h1 h2
 have m1:=jn1 m1
 rw [ha.len] at l1
 rw [hb.len] at l2
 have hD1:(digs (val a*val b).toNat).length≤100000:=by
  refine jbw (n:=n+n2) ?_ ZO
  rw [jd7]
  have h1:=ja7 c1'.1;have h2:=ja7 c2'.1
  have h3:=jas c1'.1;have h4:=jas c2'.1
  rw [ha.len] at h1;rw [hb.len] at h2
  calc val a*val b≤val a*pw n2:=Int.mul_le_mul_of_nonneg_left ZO h3
   _<pw n*pw n2:=Int.mul_lt_mul_of_pos_right h1 (jaX _)
 have HM:=jpk (fun W (h:BxC w g [(0,0,.int .i64 s),(0,1,.slice A n cap),(1,0,.int .i64 t),(1,1,.slice A2 n2 cap2)] [(2,0),(2,1)] W)=>(jev A A2 n cap n2 cap2 a b W (ha.up (jab _) h.1) (hb.up (jab _) h.1) c1'.1 c2'.1 ZO ZO).mono fun e W' hd=>hd.keep h (m:=2) (j:=0) Zb0)
 have HS:=jpk (fun A' n' c' W (hr:RdI W W.heap.size A' n' c' (digs (val a*val b).toNat)) (h:BxC w g [(0,0,.int .i64 s),(0,1,.slice A n cap),(1,0,.int .i64 t),(1,1,.slice A2 n2 cap2)] [(2,0),(2,1)] W)=>(ja5 (s*t) A' n' c' _ _ W hr (by rw [←hr.len];exact hD1) (jat _).1 m1 m2).mono fun e W' hd=>hd.keepB h (m:=2) (j:=0) Zb0)
 have HC:=jpk (fun s' A' n' c' l' W (hr:RdI W W.heap.size A' n' c' l') (hz:Std s' l' (bval s a*bval t b)) (h:BxC w g [(0,0,.int .i64 s),(0,1,.slice A n cap),(1,0,.int .i64 t),(1,1,.slice A2 n2 cap2)] [(2,0),(2,1)] W)=>(jm4 s' A' n' c' l' _ W hr hz).mono fun e W' hd=>hd.keep h)
 clear m1 m2 c1' c2' l1 l2 e1' e2' h1 h2 hD1
 generalize digs (val a*val b).toNat=D at *
 generalize bval s a*bval t b=Z at *
 generalize resZ true Z=RS at *
 generalize errZ true Z=ER at *
 go_enter Tryz.func73,Tryz.ntmps73
 go_wp2_with fail
 rw [←HW.out,←HG.out]
 refine (HR1.out _ hb0).mono ?_
 rintro e w1 ⟨rfl,hb1⟩
 have K1:=K0.keep hb1
 clear K0 c0 c1 c2 c3 c4 c5 c6 c7 hb1 hb0
 obtain ⟨hb0,⟨⟨d0,d1⟩,d2,d3⟩,⟨d4,d5⟩,d6,d7⟩:=raw2.1 K1
 go_wp2_with fail
 refine (HR2.out _ hb0).mono ?_
 rintro e w2 ⟨rfl,hb1⟩
 have K2:=K1.keep hb1
 clear K1 d0 d1 d2 d3 d4 d5 d6 d7 hb1 hb0
 obtain ⟨hb0,⟨⟨d0,d1⟩,d2,d3⟩,⟨d4,d5⟩,d6,d7⟩:=raw2.1 K2
 go_wp2_with fail
 clear hb0 d0 d1 d2 d3 d4 d5 d6 d7
 go_region_held3 (fun W=>Below w.heap.size w W∧((W.cell? ⟨g,0,none⟩=some (.int .i64 s)∧W.cell? ⟨g,1,none⟩=some (.slice A n cap))∧W.cell? ⟨g+1,0,none⟩=some (.int .i64 t)∧W.cell? ⟨g+1,1,none⟩=some (.slice A2 n2 cap2))∧(W.cell? ⟨g+2,0,none⟩=some (jaw W ⟨g+2,0,none⟩)∧W.cell? ⟨g+2,1,none⟩=some (jaw W ⟨g+2,1,none⟩))∧W.frozen? ⟨g+2,0,none⟩=false∧W.frozen? ⟨g+2,1,none⟩=false)
  ((refine raw2.1 ?_;first|assumption|exact K2.drew|exact BxC.set2 (Nat.le_of_eq HG.out.symm) Zb6 ZO Zb7|exact raw2.2 Zb6))
  (first
   | (go_at_call 103;refine (HS.out _ _ _ _ Zb6 (raw2.2 Zb6)).mono ?_;rintro e w3 ⟨s6,A6,n6,c6,l6,rfl,hr6,hstd6,hf6,k6,b6⟩)
   | (go_at_call 117;refine (HC.out _ _ _ _ _ _ Zb6 Zb6 (raw2.2 Zb6)).mono ?_;rintro e w3 ⟨s3,A3,n3,c3,l3,rfl,hr3,hstd,hf3,k3,-⟩)
   | (go_at_call 118;refine (HM.out _ (raw2.2 Zb6)).mono ?_;rintro e w2 ⟨A5,n5,c5,rfl,hr2,hf2,k2,b2⟩))
 have hA:=hf3 _ hf6
 clear hf3 hf6 hf2 hr2 k2 hr6 hstd6 k6 K2 b2
 obtain ⟨-,-,⟨x2,x3⟩,-⟩:=raw2.1 k3
 obtain ⟨e1,e2⟩:=jav (u:=.int .i64 s3) (v:=.slice A3 n3 c3) x2 x3
 have K4:=jpk (k3.set2 (Nat.le_of_eq HG.out.symm) (b:=g+2) (u:=.int .i64 s3) (v:=.slice A3 n3 c3) ZO Zb7).1
 have hr4:=jpk (hr3.set2 (b:=g+2) (u:=.int .i64 s3) (v:=.slice A3 n3 c3) (fun a h=>by have:=hA a h;omega))
 have hA4:=jpk (hA.mono (C:=w.heap.size) (by have:=HG.out;omega))
 clear hA k3 hr3 x2 x3
 go_wp2
 exact bodyPost_ret (v:=.tuple #[.agg #[.int .i64 s3,.slice A3 n3 c3],.int .i64 ER]) (by simp [results,Tryz.results73,go_sem,e1,e2]) rfl ⟨s3,A3,n3,c3,l3,rfl,hr4.out,hstd,hA4.out,K4.out⟩
theorem or_tab:bits .or .i64 0 0=0∧bits .or .i64 0 1=1∧bits .or .i64 0 (-1)= -1∧bits .or .i64 1 0=1∧bits .or .i64 1 1=1∧bits .or .i64 (-1) 0= -1∧bits .or .i64 (-1) (-1)= -1:=by decide
theorem jmL {s t:Int} {a b:List Int} (h1:jae s a=true) (h2:jae t b=true) (h:s=0∨t=0∨s=t):(bits .or .i64 s t=1∨bits .or .i64 s t= -1∨val (digs (val a+val b).toNat)=0)∧bits .or .i64 s t*val (digs (val a+val b).toNat)=bval s a+bval t b:=by
 obtain ⟨c1,l1,e1⟩:=jah h1
 obtain ⟨c2,l2,e2⟩:=jah h2
 obtain ⟨o1,o2,o3,o4,o5,o6,o7⟩:=or_tab
 rw [jhN c1.1 c2.1]
 unfold bval
 rcases e1 with ⟨rfl,rfl⟩|⟨-,rfl|rfl⟩ <;> rcases e2 with ⟨rfl,rfl⟩|⟨-,rfl|rfl⟩ <;> first|(exfalso;omega)|(simp only [o1,o2,o3,o4,o5,o6,o7,val];first|omega|exact ⟨by simp,by omega⟩)
theorem jpe {s t:Int} {a b:List Int} (h1:jae s a=true) (h2:jae t b=true) (h:¬(s=0∨t=0∨s=t)):s*t<0:=by
 obtain ⟨c1,l1,e1⟩:=jah h1
 obtain ⟨c2,l2,e2⟩:=jah h2
 rcases e1 with ⟨_,rfl⟩|⟨-,rfl|rfl⟩ <;> rcases e2 with ⟨_,rfl⟩|⟨-,rfl|rfl⟩ <;> omega
theorem jk5 (s t:Int) (A A2:Option Addr) (n cap n2 cap2:Nat) (a b:List Int) (w:World) (ha:RdI w w.heap.size A n cap a) (hb:RdI w w.heap.size A2 n2 cap2 b) :
 Calls Tryz.prog 77 #[.agg #[.int .i64 s,.slice A n cap],.agg #[.int .i64 t,.slice A2 n2 cap2]] w (BigE w (resZ (jae s a&&jae t b) (bval s a+bval t b)) (errZ (jae s a&&jae t b) (bval s a+bval t b))):=by
 have hcap:=ha.caps
 have hcap2:=hb.caps
 have K0:=box2 w (.int .i64 s) (.slice A n cap) (.int .i64 t) (.slice A2 n2 cap2) (.int .i64 0) (.slice none 0 0) 27 27 27
 have HR1:=jpk (fun W (h:Below w.heap.size w W)=>jaG s A n cap a W (ha.up (jab _) h))
 have HR2:=jpk (fun W (h:Below w.heap.size w W)=>jaG t A2 n2 cap2 b W (hb.up (jab _) h))
 obtain ⟨w0,hw0⟩:∃w0,w0=((w.alloc (.cells #[.int .i64 s,.slice A n cap] 27)).alloc (.cells #[.int .i64 t,.slice A2 n2 cap2] 27)).alloc (.cells #[.int .i64 0,.slice none 0 0] 27):=⟨_,rfl⟩
 rw [←hw0] at K0
 obtain ⟨g,hg⟩:∃g,g=w.heap.size:=⟨_,rfl⟩
 rw [←hg] at K0
 have HW:=jpk hw0;have HG:=jpk hg
 clear hw0 hg
 obtain ⟨hb0,⟨⟨c0,c1⟩,c2,c3⟩,⟨c4,c5⟩,c6,c7⟩:=raw2.1 K0
 cases h1:jae s a
 ·rw [h1] at HR1
  rw [Bool.false_and,jaC,jaz]
  clear h1
  go_enter Tryz.func77,Tryz.ntmps77
  go_wp2_with fail
  rw [←HW.out,←HG.out]
  refine (HR1.out _ hb0).mono ?_
  rintro e w1 ⟨rfl,hb1⟩
  have K1:=K0.keep hb1
  clear K0 c0 c1 c2 c3 c4 c5 c6 c7 hb1 hb0
  obtain ⟨hb0,⟨⟨d0,d1⟩,d2,d3⟩,⟨d4,d5⟩,d6,d7⟩:=raw2.1 K1
  obtain ⟨e1,e2⟩:=jav (u:=.int .i64 0) (v:=.slice none 0 0) d4 d5
  have K4:=jpk (K1.set2 (Nat.le_of_eq HG.out.symm) (b:=g+2) (u:=.int .i64 0) (v:=.slice none 0 0) ZO Zb7).1
  clear K1 hb0
  exact ZQ91
 cases h2:jae t b
 ·rw [h1] at HR1
  rw [h2] at HR2
  rw [Bool.true_and,jaC,jaz]
  clear h1 h2
  go_enter Tryz.func77,Tryz.ntmps77
  go_wp2_with fail
  rw [←HW.out,←HG.out]
  refine (HR1.out _ hb0).mono ?_
  rintro e w1 ⟨rfl,hb1⟩
  have K1:=K0.keep hb1
  clear K0 c0 c1 c2 c3 c4 c5 c6 c7 hb1 hb0
  obtain ⟨hb0,⟨⟨d0,d1⟩,d2,d3⟩,⟨d4,d5⟩,d6,d7⟩:=raw2.1 K1
  go_wp2_with fail
  refine (HR2.out _ hb0).mono ?_
  rintro e w2 ⟨rfl,hb1⟩
  have K2:=K1.keep hb1
  clear K1 d0 d1 d2 d3 d4 d5 d6 d7 hb1 hb0
  obtain ⟨hb0,⟨⟨d0,d1⟩,d2,d3⟩,⟨d4,d5⟩,d6,d7⟩:=raw2.1 K2
  obtain ⟨e1,e2⟩:=jav (u:=.int .i64 0) (v:=.slice none 0 0) d4 d5
  have K4:=jpk (K2.set2 (Nat.le_of_eq HG.out.symm) (b:=g+2) (u:=.int .i64 0) (v:=.slice none 0 0) ZO Zb7).1
  clear K2 hb0
  exact ZQ91
 rw [h1] at HR1
 rw [h2] at HR2
 rw [Bool.true_and]
 obtain ⟨c1',l1,e1'⟩:=jah h1
 obtain ⟨c2',l2,e2'⟩:=jah h2
 rw [ha.len] at l1
 rw [hb.len] at l2
 have HC:=jpk (fun s' A' n' c' l' W (hr:RdI W W.heap.size A' n' c' l') (hz:Std s' l' (bval s a+bval t b)) (h:BxC w g [(0,0,.int .i64 s),(0,1,.slice A n cap),(1,0,.int .i64 t),(1,1,.slice A2 n2 cap2)] [(2,0),(2,1)] W)=>(jm4 s' A' n' c' l' _ W hr hz).mono fun e W' hd=>hd.keep h)
 by_cases hs0:s=0∨t=0∨s=t
 ·obtain ⟨m1,m2⟩:=jmL h1 h2 hs0
  have hD1:(digs (val a+val b).toNat).length≤100000:=by
   have h1:=ja7 c1'.1;have h2:=ja7 c2'.1
   rw [ha.len] at h1;rw [hb.len] at h2
   have h3:=jbY l1;have h4:=jbY l2
   refine jbw (n:=61) ?_ ZO
   have h5:pw 61=1048576*pw 60:=by rw [pw]
   have h6:=jaX 60
   omega
  have HM:=jpk (fun W (h:BxC w g [(0,0,.int .i64 s),(0,1,.slice A n cap),(1,0,.int .i64 t),(1,1,.slice A2 n2 cap2)] [(2,0),(2,1)] W)=>(jfA A A2 n cap n2 cap2 a b W (ha.up (jab _) h.1) (hb.up (jab _) h.1) c1'.1 c2'.1 ZO ZO).mono fun e W' hd=>hd.keep h (m:=2) (j:=0) Zb0)
  have HS:=jpk (fun A' n' c' W (hr:RdI W W.heap.size A' n' c' (digs (val a+val b).toNat)) (h:BxC w g [(0,0,.int .i64 s),(0,1,.slice A n cap),(1,0,.int .i64 t),(1,1,.slice A2 n2 cap2)] [(2,0),(2,1)] W)=>(ja5 (bits .or .i64 s t) A' n' c' _ _ W hr (by rw [←hr.len];exact hD1) (jat _).1 m1 m2).mono fun e W' hd=>hd.keepB h (m:=2) (j:=0) Zb0)
  have hcase:((s==0)=true)∨((s==0)=false∧(t==0)=true)∨((s==0)=false∧(t==0)=false∧(s==t)=true):=by
   by_cases g1:s=0
   ·exact Or.inl (by simp [g1])
   ·by_cases g2:t=0
    ·exact Or.inr (Or.inl ⟨by simp [g1],by simp [g2]⟩)
    ·exact Or.inr (Or.inr ⟨by simp [g1],by simp [g2],by simp;omega⟩)
  clear m1 m2 c1' c2' l1 l2 h1 h2 hs0 hD1 e1' e2'
  generalize digs (val a+val b).toNat=D at *
  generalize bval s a+bval t b=Z at *
  generalize resZ true Z=RS at *
  generalize errZ true Z=ER at *
  rcases hcase with hd|⟨hd,hd2⟩|⟨hd,hd2,hd3⟩
  ·exact ZQ6
  ·exact ZQ6
  ·exact ZQ6
 ·have hd:(s==0)=false:=by simp;omega
  have hd2:(t==0)=false:=by simp;omega
  have hd3:(s==t)=false:=by simp;omega
  obtain ⟨m1,m2,m3,m4⟩:=jdd h1 h2 (jpe h1 h2 hs0)
  have HL:=jpk (fun W (h:Below w.heap.size w W)=>jdZ A A2 n cap n2 cap2 a b W (ha.up (jab _) h) (hb.up (jab _) h) c1'.1 c2'.1)
  have h5:=ja7 c1'.1;have h6:=ja7 c2'.1
  have h7:=jas c1'.1;have h8:=jas c2'.1
  rw [ha.len] at h5;rw [hb.len] at h6
  have h9:=jbY l1;have h10:=jbY l2
  by_cases hlt:val a<val b
  ·rw [decide_eq_true hlt] at HL
   have hle:=jh2 c1' c2'.1 (Int.le_of_lt hlt)
   rw [ha.len,hb.len] at hle
   have hv:=jfr c2'.1 c1'.1 (Int.le_of_lt hlt)
   have hD1:(digs (val b-val a).toNat).length≤100000:=jbw (n:=60) ZO ZO
   have hm:t=1∨t= -1∨val (digs (val b-val a).toNat)=0:=by rcases m1 with h|h;exact Or.inl h;exact Or.inr (Or.inl h)
   have HM:=jpk (fun W (h:BxC w g [(0,0,.int .i64 s),(0,1,.slice A n cap),(1,0,.int .i64 t),(1,1,.slice A2 n2 cap2)] [(2,0),(2,1)] W)=>(jcE A2 A n2 cap2 n cap b a W (hb.up (jab _) h.1) (ha.up (jab _) h.1) c2'.1 c1'.1 ZO hle (Int.le_of_lt hlt)).mono fun e W' hd=>hd.keep h (m:=2) (j:=0) Zb0)
   have HS:=jpk (fun A' n' c' W (hr:RdI W W.heap.size A' n' c' (digs (val b-val a).toNat)) (h:BxC w g [(0,0,.int .i64 s),(0,1,.slice A n cap),(1,0,.int .i64 t),(1,1,.slice A2 n2 cap2)] [(2,0),(2,1)] W)=>(ja5 t A' n' c' _ _ W hr (by rw [←hr.len];exact hD1) (jat _).1 hm (show t*val (digs (val b-val a).toNat)=bval s a+bval t b by rw [hv];exact m3)).mono fun e W' hd=>hd.keepB h (m:=2) (j:=0) Zb0)
   clear m1 m2 m3 m4 c1' c2' l1 l2 h1 h2 hs0 hlt hle hv hm hD1 h5 h6 h7 h8 h9 h10 e1' e2'
   generalize digs (val b-val a).toNat=D at *
   generalize bval s a+bval t b=Z at *
   generalize resZ true Z=RS at *
   generalize errZ true Z=ER at *
   go_enter Tryz.func77,Tryz.ntmps77
   go_wp2_with fail
   rw [←HW.out,←HG.out]
   refine (HR1.out _ hb0).mono ?_
   rintro e w1 ⟨rfl,hb1⟩
   have K1:=K0.keep hb1
   clear K0 c0 c1 c2 c3 c4 c5 c6 c7 hb1 hb0
   obtain ⟨hb0,⟨⟨d0,d1⟩,d2,d3⟩,⟨d4,d5⟩,d6,d7⟩:=raw2.1 K1
   go_wp2_with fail
   refine (HR2.out _ hb0).mono ?_
   rintro e w2 ⟨rfl,hb1⟩
   have K2:=K1.keep hb1
   clear K1 d0 d1 d2 d3 d4 d5 d6 d7 hb1 hb0
   obtain ⟨hb0,⟨⟨d0,d1⟩,d2,d3⟩,⟨d4,d5⟩,d6,d7⟩:=raw2.1 K2
   go_wp2_with fail
   refine (HL.out _ hb0).mono ?_
   rintro e _ ⟨rfl,rfl⟩
   clear hb0 d0 d1 d2 d3 d4 d5 d6 d7
   obtain ⟨hb0,⟨⟨d0,d1⟩,d2,d3⟩,⟨d4,d5⟩,d6,d7⟩:=raw2.1 K2
   go_wp2_with fail
   clear hb0 d0 d1 d2 d3 d4 d5 d6 d7
   go_region_held3 (fun W=>Below w.heap.size w W∧((W.cell? ⟨g,0,none⟩=some (.int .i64 s)∧W.cell? ⟨g,1,none⟩=some (.slice A n cap))∧W.cell? ⟨g+1,0,none⟩=some (.int .i64 t)∧W.cell? ⟨g+1,1,none⟩=some (.slice A2 n2 cap2))∧(W.cell? ⟨g+2,0,none⟩=some (jaw W ⟨g+2,0,none⟩)∧W.cell? ⟨g+2,1,none⟩=some (jaw W ⟨g+2,1,none⟩))∧W.frozen? ⟨g+2,0,none⟩=false∧W.frozen? ⟨g+2,1,none⟩=false)
    ((refine raw2.1 ?_;first|assumption|exact K2.drew|exact BxC.set2 (Nat.le_of_eq HG.out.symm) Zb6 ZO Zb7|exact raw2.2 Zb6))
    (first
     | (go_at_call 103;refine (HS.out _ _ _ _ Zb6 (raw2.2 Zb6)).mono ?_;rintro e w3 ⟨s6,A6,n6,c6,l6,rfl,hr6,hstd6,hf6,k6,b6⟩)
     | (go_at_call 117;refine (HC.out _ _ _ _ _ _ Zb6 Zb6 (raw2.2 Zb6)).mono ?_;rintro e w3 ⟨s3,A3,n3,c3,l3,rfl,hr3,hstd,hf3,k3,-⟩)
     | (go_at_call 121;refine (HM.out _ (raw2.2 Zb6)).mono ?_;rintro e w2 ⟨A5,n5,c5,rfl,hr2,hf2,k2,b2⟩))
   exact ZQ10
  ·rw [decide_eq_false hlt] at HL
   have hle:=jh2 c2' c1'.1 (Int.le_of_not_gt hlt)
   rw [ha.len,hb.len] at hle
   have hv:=jfr c1'.1 c2'.1 (Int.le_of_not_gt hlt)
   have hD1:(digs (val a-val b).toNat).length≤100000:=jbw (n:=60) ZO ZO
   have hm:s=1∨s= -1∨val (digs (val a-val b).toNat)=0:=by rcases m2 with h|h;exact Or.inl h;exact Or.inr (Or.inl h)
   have HM:=jpk (fun W (h:BxC w g [(0,0,.int .i64 s),(0,1,.slice A n cap),(1,0,.int .i64 t),(1,1,.slice A2 n2 cap2)] [(2,0),(2,1)] W)=>(jcE A A2 n cap n2 cap2 a b W (ha.up (jab _) h.1) (hb.up (jab _) h.1) c1'.1 c2'.1 ZO hle (Int.le_of_not_gt hlt)).mono fun e W' hd=>hd.keep h (m:=2) (j:=0) Zb0)
   have HS:=jpk (fun A' n' c' W (hr:RdI W W.heap.size A' n' c' (digs (val a-val b).toNat)) (h:BxC w g [(0,0,.int .i64 s),(0,1,.slice A n cap),(1,0,.int .i64 t),(1,1,.slice A2 n2 cap2)] [(2,0),(2,1)] W)=>(ja5 s A' n' c' _ _ W hr (by rw [←hr.len];exact hD1) (jat _).1 hm (show s*val (digs (val a-val b).toNat)=bval s a+bval t b by rw [hv];exact m4)).mono fun e W' hd=>hd.keepB h (m:=2) (j:=0) Zb0)
   clear m1 m2 m3 m4 c1' c2' l1 l2 h1 h2 hs0 hlt hle hv hm hD1 h5 h6 h7 h8 h9 h10 e1' e2'
   generalize digs (val a-val b).toNat=D at *
   generalize bval s a+bval t b=Z at *
   generalize resZ true Z=RS at *
   generalize errZ true Z=ER at *
   go_enter Tryz.func77,Tryz.ntmps77
   go_wp2_with fail
   rw [←HW.out,←HG.out]
   refine (HR1.out _ hb0).mono ?_
   rintro e w1 ⟨rfl,hb1⟩
   have K1:=K0.keep hb1
   clear K0 c0 c1 c2 c3 c4 c5 c6 c7 hb1 hb0
   obtain ⟨hb0,⟨⟨d0,d1⟩,d2,d3⟩,⟨d4,d5⟩,d6,d7⟩:=raw2.1 K1
   go_wp2_with fail
   refine (HR2.out _ hb0).mono ?_
   rintro e w2 ⟨rfl,hb1⟩
   have K2:=K1.keep hb1
   clear K1 d0 d1 d2 d3 d4 d5 d6 d7 hb1 hb0
   obtain ⟨hb0,⟨⟨d0,d1⟩,d2,d3⟩,⟨d4,d5⟩,d6,d7⟩:=raw2.1 K2
   go_wp2_with fail
   refine (HL.out _ hb0).mono ?_
   rintro e _ ⟨rfl,rfl⟩
   clear hb0 d0 d1 d2 d3 d4 d5 d6 d7
   obtain ⟨hb0,⟨⟨d0,d1⟩,d2,d3⟩,⟨d4,d5⟩,d6,d7⟩:=raw2.1 K2
   go_wp2_with fail
   clear hb0 d0 d1 d2 d3 d4 d5 d6 d7
   go_region_held3 (fun W=>Below w.heap.size w W∧((W.cell? ⟨g,0,none⟩=some (.int .i64 s)∧W.cell? ⟨g,1,none⟩=some (.slice A n cap))∧W.cell? ⟨g+1,0,none⟩=some (.int .i64 t)∧W.cell? ⟨g+1,1,none⟩=some (.slice A2 n2 cap2))∧(W.cell? ⟨g+2,0,none⟩=some (jaw W ⟨g+2,0,none⟩)∧W.cell? ⟨g+2,1,none⟩=some (jaw W ⟨g+2,1,none⟩))∧W.frozen? ⟨g+2,0,none⟩=false∧W.frozen? ⟨g+2,1,none⟩=false)
    ((refine raw2.1 ?_;first|assumption|exact K2.drew|exact BxC.set2 (Nat.le_of_eq HG.out.symm) Zb6 ZO Zb7|exact raw2.2 Zb6))
    (first
     | (go_at_call 103;refine (HS.out _ _ _ _ Zb6 (raw2.2 Zb6)).mono ?_;rintro e w3 ⟨s6,A6,n6,c6,l6,rfl,hr6,hstd6,hf6,k6,b6⟩)
     | (go_at_call 117;refine (HC.out _ _ _ _ _ _ Zb6 Zb6 (raw2.2 Zb6)).mono ?_;rintro e w3 ⟨s3,A3,n3,c3,l3,rfl,hr3,hstd,hf3,k3,-⟩)
     | (go_at_call 121;refine (HM.out _ (raw2.2 Zb6)).mono ?_;rintro e w2 ⟨A5,n5,c5,rfl,hr2,hf2,k2,b2⟩))
   exact ZQ10
section
variable (x y:Int) (s:Int) (A:Option Addr) (n cap:Nat) (l:List Int) (t:Int) (A':Option Addr) (n' cap':Nat) (m:List Int) (W:World)
variable (hl:RdI W W.heap.size A n cap l) (hm:RdI W W.heap.size A' n' cap' m) (h1:Std s l x) (h2:Std t m y) (f1:fits x=true) (f2:fits y=true)
include hl hm h1 h2 f1 f2
theorem uMul:Calls Tryz.prog 73 #[.agg #[.int .i64 s,.slice A n cap],.agg #[.int .i64 t,.slice A' n' cap']] W (BigE W (resZ true (x*y)) (errZ true (x*y))):=by
 have h:=jk7 s t A A' n cap n' cap' l m W hl hm
 exact jkC
theorem uAdd:Calls Tryz.prog 77 #[.agg #[.int .i64 s,.slice A n cap],.agg #[.int .i64 t,.slice A' n' cap']] W (BigE W (resZ true (x+y)) (errZ true (x+y))):=by
 have h:=jk5 s t A A' n cap n' cap' l m W hl hm
 exact jkC
end
end Go.Proofs.YtgikfcjndiohjaaGreat
