/- Laws and walks; conditions stand in each theorem. -/
import Derived.Test.YtgikfcjndiohjaaGreatP04
set_option linter.unusedSimpArgs false
set_option linter.unusedVariables false
set_option maxHeartbeats 4000000
set_option maxRecDepth 100000
namespace Go.Proofs.YtgikfcjndiohjaaGreat
open Go.RowKit
def fq (x y:Int):Int:=if 0<y then x / y else (-x) / (-y)
def fr (x y:Int):Int:=x-y*fq x y
theorem jgU (x y:Int):y*fq x y+fr x y=x:=by unfold fr;omega
theorem jfG {x y:Int} (h:0<y):fq x y=x / y∧fr x y=x%y:=by
 unfold fr fq
 rw [if_pos h]
 have:=Int.emod_def x y
 exact ⟨rfl,by omega⟩
theorem jm7 {x y:Int} (h:y<0):fq x y=(-x) / (-y)∧fr x y= -((-x)%(-y)):=by
 unfold fr fq
 rw [if_neg ZO]
 have h1:=Int.emod_def (-x) (-y)
 refine ⟨rfl,?_⟩
 rw [h1,Int.neg_mul]
 omega
theorem jbE {x y q r:Int} (h:y*q+r=x) (hr:(0<y∧0≤r∧r<y)∨(y<0∧y<r∧r≤0)):fq x y=q∧fr x y=r:=by
 rcases hr with ⟨h1,h2,h3⟩|⟨h1,h2,h3⟩
 ·obtain ⟨e1,e2⟩:=jfG (x:=x) h1
  rw [e1,e2]
  exact (Int.ediv_emod_unique h1).2 ⟨by omega,h2,h3⟩
 ·obtain ⟨e1,e2⟩:=jm7 (x:=x) h1
  have:=(Int.ediv_emod_unique (a:= -x) (b:= -y) (r:= -r) (q:=q) ZO).2 ⟨by rw [Int.neg_mul];omega,by omega,by omega⟩
  rw [e1,e2,this.1,this.2]
  exact ⟨rfl,by omega⟩
theorem jcp {x y:Int} (h:y≠0):(0<y∧0≤fr x y∧fr x y<y)∨(y<0∧y<fr x y∧fr x y≤0):=by
 rcases Int.lt_or_gt_of_ne h with h|h
 ·obtain ⟨-,e2⟩:=jm7 (x:=x) h
  have h1:=Int.emod_nonneg (-x) (b:= -y) ZO
  have h2:=Int.emod_lt_of_pos (-x) (show 0< -y by omega)
  right;omega
 ·obtain ⟨-,e2⟩:=jfG (x:=x) h
  have h1:=Int.emod_nonneg x (b:=y) ZO
  have h2:=Int.emod_lt_of_pos x h
  left;omega
theorem jja {s t:Int} {a b:List Int} (h1:jae s a=true) (h2:jae t b=true) (h:s*t<0) (hr:val a%val b≠0):fq (bval s a) (bval t b)= -(val a / val b+1)∧fr (bval s a) (bval t b)=t*(val b-val a%val b):=by
 obtain ⟨c1,l1,e1⟩:=jah h1
 obtain ⟨c2,l2,e2⟩:=jah h2
 have hb:0<val b:=by
  rcases e2 with ⟨rfl,rfl⟩|⟨e2,-⟩
  ·simp at h
  ·exact c2.pos e2
 have hd:=Int.emod_add_mul_ediv (val a) (val b)
 have h3:=Int.emod_nonneg (val a) (b:=val b) ZO
 have h4:=Int.emod_lt_of_pos (val a) hb
 unfold bval
 generalize val a / val b=q at *
 generalize val a%val b=r at *
 generalize val a=x at *
 generalize val b=y at *
 subst hd
 rcases e1 with ⟨rfl,rfl⟩|⟨-,rfl|rfl⟩ <;> rcases e2 with ⟨rfl,rfl⟩|⟨-,rfl|rfl⟩ <;> simp at h
 ·exact jbE (by grind) (by right;omega)
 ·exact jbE (by grind) (by left;omega)
theorem jgH {s t:Int} {a b:List Int} (h1:jae s a=true) (h2:jae t b=true) (ht:t≠0) (h:¬s*t<0∨val a%val b=0):fq (bval s a) (bval t b)=s*t*(val a / val b)∧fr (bval s a) (bval t b)=s*(val a%val b):=by
 obtain ⟨c1,l1,e1⟩:=jah h1
 obtain ⟨c2,l2,e2⟩:=jah h2
 have hb:0<val b:=by
  rcases e2 with ⟨rfl,rfl⟩|⟨e2,-⟩
  ·exact absurd rfl ht
  ·exact c2.pos e2
 have hd:=Int.emod_add_mul_ediv (val a) (val b)
 have h3:=Int.emod_nonneg (val a) (b:=val b) ZO
 have h4:=Int.emod_lt_of_pos (val a) hb
 have hz:a=[]→val a / val b=0∧val a%val b=0:=fun e=>by subst e;simp [val]
 unfold bval
 generalize val a / val b=q at *
 generalize val a%val b=r at *
 generalize val a=x at *
 generalize val b=y at *
 subst hd
 rcases e1 with ⟨rfl,rfl⟩|⟨-,rfl|rfl⟩ <;> rcases e2 with ⟨rfl,rfl⟩|⟨-,rfl|rfl⟩ <;> simp at h ht
 ·obtain ⟨rfl,rfl⟩:=hz rfl
  exact jbE Zb0 (by left;omega)
 ·obtain ⟨rfl,rfl⟩:=hz rfl
  exact jbE Zb0 (by right;omega)
 ·exact jbE (by grind) (by left;omega)
 ·subst h;exact jbE (by grind) (by right;omega)
 ·subst h;exact jbE (by grind) (by left;omega)
 ·exact jbE (by grind) (by right;omega)
theorem raw3 {w W:World} {g:Nat} {u0 u1 u2 u3:Value}:BxC w g [(0,0,u0),(0,1,u1),(1,0,u2),(1,1,u3)] [(2,0),(2,1),(3,0),(3,1)] W↔(Below w.heap.size w W∧((W.cell? ⟨g,0,none⟩=some u0∧W.cell? ⟨g,1,none⟩=some u1)∧W.cell? ⟨g+1,0,none⟩=some u2∧W.cell? ⟨g+1,1,none⟩=some u3)∧((W.cell? ⟨g+2,0,none⟩=some (jaw W ⟨g+2,0,none⟩)∧W.cell? ⟨g+2,1,none⟩=some (jaw W ⟨g+2,1,none⟩))∧W.cell? ⟨g+3,0,none⟩=some (jaw W ⟨g+3,0,none⟩)∧W.cell? ⟨g+3,1,none⟩=some (jaw W ⟨g+3,1,none⟩))∧(W.frozen? ⟨g+2,0,none⟩=false∧W.frozen? ⟨g+2,1,none⟩=false)∧W.frozen? ⟨g+3,0,none⟩=false∧W.frozen? ⟨g+3,1,none⟩=false):=by
 simp [BxC,and_assoc]
theorem box3 (w:World) (u0 u1 u2 u3 z0 z1:Value) (t t' t'' t3:TypeId):BxC w w.heap.size [(0,0,u0),(0,1,u1),(1,0,u2),(1,1,u3)] [(2,0),(2,1),(3,0),(3,1)] ((((w.alloc (.cells #[u0,u1] t)).alloc (.cells #[u2,u3] t')).alloc (.cells #[z0,z1] t'')).alloc (.cells #[z0,z1] t3)):=by
 obtain ⟨h1,⟨⟨h2,h3⟩,h4,h5⟩,⟨h6,h7⟩,h8,h9⟩:=raw2.1 (box2 w u0 u1 u2 u3 z0 z1 t t' t'')
 have hs:(((w.alloc (.cells #[u0,u1] t)).alloc (.cells #[u2,u3] t')).alloc (.cells #[z0,z1] t'')).heap.size=w.heap.size+3:=by simp
 generalize ((w.alloc (.cells #[u0,u1] t)).alloc (.cells #[u2,u3] t')).alloc (.cells #[z0,z1] t'')=W at *
 have k1:=(Below.refl W.heap.size W).alloc (Nat.le_refl _) (.cells #[z0,z1] t3)
 have k6:=jaq.1 h6;have k7:=jaq.1 h7
 rw [raw3]
 refine ⟨h1.alloc h1.size _,⟨⟨jaA k1 h2,jaA k1 h3⟩,jaA k1 h4,jaA k1 h5⟩,⟨⟨jaq.2 (jd3 k1 k6),jaq.2 (jd3 k1 k7)⟩,jaq.2 (by rw [jaY hs rfl];rfl),jaq.2 (by rw [jaY hs rfl];rfl)⟩,⟨jc0 k1 k6 h8,jc0 k1 k7 h9⟩,by rw [←hs];exact jcM _ _ _,by rw [←hs];exact jcM _ _ _⟩
theorem ja8 {W:World} {b c:Nat} {u v u' v':Value} (hbc:b≠c) (h0:W.cell? ⟨b,0,none⟩=some (jaw W ⟨b,0,none⟩)) (h1:W.cell? ⟨b,1,none⟩=some (jaw W ⟨b,1,none⟩)) (h2:W.cell? ⟨c,0,none⟩=some (jaw W ⟨c,0,none⟩)) (h3:W.cell? ⟨c,1,none⟩=some (jaw W ⟨c,1,none⟩)) :
 let W':=(((W.setCell ⟨b,0,none⟩ u).setCell ⟨b,1,none⟩ v).setCell ⟨c,0,none⟩ u').setCell ⟨c,1,none⟩ v'
 (W'.cell? ⟨b,0,none⟩=some u∧W'.cell? ⟨b,1,none⟩=some v)∧W'.cell? ⟨c,0,none⟩=some u'∧W'.cell? ⟨c,1,none⟩=some v':=by
 intro W'
 obtain ⟨a0,a1⟩:=jav (u:=u) (v:=v) h0 h1
 have far:∀j x,((W.setCell ⟨b,0,none⟩ u).setCell ⟨b,1,none⟩ v).cell? ⟨b,j,none⟩=some x→W'.cell? ⟨b,j,none⟩=some x:=fun j x h=>by
  show (((((W.setCell ⟨b,0,none⟩ u).setCell ⟨b,1,none⟩ v)).setCell ⟨c,0,none⟩ u').setCell ⟨c,1,none⟩ v').cell? _=_
  rw [World.cell?_setCell_far _ _ _ _ (fun e=>hbc e.symm),World.cell?_setCell_far _ _ _ _ (fun e=>hbc e.symm)]
  exact h
 refine ⟨⟨far _ _ a0,far _ _ a1⟩,jav (jaq.2 ?_) (jaq.2 ?_)⟩
 ·rw [World.cell?_setCell_far _ _ _ _ hbc,World.cell?_setCell_far _ _ _ _ hbc];exact jaq.1 h2
 ·rw [World.cell?_setCell_far _ _ _ _ hbc,World.cell?_setCell_far _ _ _ _ hbc];exact jaq.1 h3
def jb0 (w:World) (z z' c:Int) (e:Ending) (w':World):Prop:=∃s A n cap l s' A' n' cap' l',e=.returned (.tuple #[.agg #[.int .i64 s,.slice A n cap],.agg #[.int .i64 s',.slice A' n' cap'],.int .i64 c])∧(RdI w' w'.heap.size A n cap l∧Std s l z∧FrA w.heap.size A)∧(RdI w' w'.heap.size A' n' cap' l'∧Std s' l' z'∧FrA w.heap.size A')∧Below w.heap.size w w'
theorem jb0.mk {w W:World} {g:Nat} {L:List (Nat × Nat × Value)} {R:List (Nat × Nat)} {s s' z z' c:Int} {A A':Option Addr} {n cap n' cap':Nat} {l l':List Int} (hg:w.heap.size≤g) (h:BxC w g L R W) (hL:∀p∈L,p.1<2)
 (r1:RdI W W.heap.size A n cap l) (r2:RdI W W.heap.size A' n' cap' l') (s1:Std s l z) (s2:Std s' l' z') (f1:FrA (g+4) A) (f2:FrA (g+4) A') :
 jb0 w z z' c (.returned (.tuple #[.agg #[.int .i64 s,.slice A n cap],.agg #[.int .i64 s',.slice A' n' cap'],.int .i64 c])) ((((W.setCell ⟨g+2,0,none⟩ (.int .i64 s)).setCell ⟨g+2,1,none⟩ (.slice A n cap)).setCell ⟨g+3,0,none⟩ (.int .i64 s')).setCell ⟨g+3,1,none⟩ (.slice A' n' cap')):=by
 have h2:=(h.set2 hg (b:=g+2) (u:=.int .i64 s) (v:=.slice A n cap) ZO (fun p hp e=>by have:=hL p hp;omega)).set2 hg (b:=g+3) (u:=.int .i64 s') (v:=.slice A' n' cap') ZO (fun p hp e=>by have:=hL p hp;omega)
 exact ⟨s,A,n,cap,l,s',A',n',cap',l',rfl,⟨(r1.set2 (fun a h=>by have:=f1 a h;omega)).set2 (fun a h=>by have:=f1 a h;omega),s1,f1.mono ZO⟩,⟨(r2.set2 (fun a h=>by have:=f2 a h;omega)).set2 (fun a h=>by have:=f2 a h;omega),s2,f2.mono ZO⟩,h2.1⟩
def D3 (w:World) (g:Nat) (L:List (Nat × Nat × Value)) (R:List (Nat × Nat)) (A A':Option Addr) (n cap n' cap':Nat) (l l':List Int) (W:World):Prop:=BxC w g L R W∧RdI W W.heap.size A n cap l∧RdI W W.heap.size A' n' cap' l'
section
variable {w W W':World} {g:Nat} {L:List (Nat × Nat × Value)} {R:List (Nat × Nat)} {A A':Option Addr} {n cap n' cap':Nat} {l l':List Int}
theorem D3.keep (h:D3 w g L R A A' n cap n' cap' l l' W) (hb:Below W.heap.size W W'):D3 w g L R A A' n cap n' cap' l l' W':=⟨h.1.keep hb,h.2.1.up (jab _) hb,h.2.2.up (jab _) hb⟩
theorem D3.drew (h:D3 w g L R A A' n cap n' cap' l l' W):D3 w g L R A A' n cap n' cap' l l' W.drew:=⟨h.1.drew,h.2.1,h.2.2⟩
theorem D3.set2 (hg:w.heap.size≤g) (h:D3 w g L R A A' n cap n' cap' l l' W) {b:Nat} {u v:Value} (hb:g≤b) (hL:∀p∈L,g+p.1≠b) (f1:FrA (b+1) A) (f2:FrA (b+1) A'):D3 w g L R A A' n cap n' cap' l l' ((W.setCell ⟨b,0,none⟩ u).setCell ⟨b,1,none⟩ v) :=
 ⟨h.1.set2 hg hb hL,h.2.1.set2 (fun a e=>by have:=f1 a e;omega),h.2.2.set2 (fun a e=>by have:=f2 a e;omega)⟩
end
theorem raw4 {w W:World} {g:Nat} {u0 u1 u2 u3:Value} {A A':Option Addr} {n cap n' cap':Nat} {l l':List Int}:D3 w g [(0,0,u0),(0,1,u1),(1,0,u2),(1,1,u3)] [(2,0),(2,1),(3,0),(3,1)] A A' n cap n' cap' l l' W↔((Below w.heap.size w W∧((W.cell? ⟨g,0,none⟩=some u0∧W.cell? ⟨g,1,none⟩=some u1)∧W.cell? ⟨g+1,0,none⟩=some u2∧W.cell? ⟨g+1,1,none⟩=some u3)∧((W.cell? ⟨g+2,0,none⟩=some (jaw W ⟨g+2,0,none⟩)∧W.cell? ⟨g+2,1,none⟩=some (jaw W ⟨g+2,1,none⟩))∧W.cell? ⟨g+3,0,none⟩=some (jaw W ⟨g+3,0,none⟩)∧W.cell? ⟨g+3,1,none⟩=some (jaw W ⟨g+3,1,none⟩))∧(W.frozen? ⟨g+2,0,none⟩=false∧W.frozen? ⟨g+2,1,none⟩=false)∧W.frozen? ⟨g+3,0,none⟩=false∧W.frozen? ⟨g+3,1,none⟩=false)∧RdI W W.heap.size A n cap l∧RdI W W.heap.size A' n' cap' l'):=by
 unfold D3;rw [raw3]
theorem jkJ (s t:Int) (A A2:Option Addr) (n cap n2 cap2:Nat) (a b:List Int) (w:World) (ha:RdI w w.heap.size A n cap a) (hb:RdI w w.heap.size A2 n2 cap2 b) :
 Calls Tryz.prog 55 #[.agg #[.int .i64 s,.slice A n cap],.agg #[.int .i64 t,.slice A2 n2 cap2]] w (if (jae s a&&jae t b)=false then jb0 w 0 0 1 else if t=0 then jb0 w 0 0 15 else jb0 w (fq (bval s a) (bval t b)) (fr (bval s a) (bval t b)) 0):=by
 have hcap:=ha.caps
 have hcap2:=hb.caps
 have K0:=box3 w (.int .i64 s) (.slice A n cap) (.int .i64 t) (.slice A2 n2 cap2) (.int .i64 0) (.slice none 0 0) 27 27 27 27
 have HR1:=jpk (fun W (h:Below w.heap.size w W)=>jaE s A n cap a W (ha.up (jab _) h))
 have HR2:=jpk (fun W (h:Below w.heap.size w W)=>jaE t A2 n2 cap2 b W (hb.up (jab _) h))
 obtain ⟨w0,hw0⟩:∃w0,w0=(((w.alloc (.cells #[.int .i64 s,.slice A n cap] 27)).alloc (.cells #[.int .i64 t,.slice A2 n2 cap2] 27)).alloc (.cells #[.int .i64 0,.slice none 0 0] 27)).alloc (.cells #[.int .i64 0,.slice none 0 0] 27):=⟨_,rfl⟩
 rw [←hw0] at K0
 obtain ⟨g,hg⟩:∃g,g=w.heap.size:=⟨_,rfl⟩
 rw [←hg] at K0
 have HW:=jpk hw0;have HG:=jpk hg
 clear hw0 hg
 obtain ⟨hb0,⟨⟨c0,c1⟩,c2,c3⟩,⟨⟨c4,c5⟩,c6,c7⟩,⟨c8,c9⟩,c10,c11⟩:=raw3.1 K0
 cases h1:jae s a
 ·rw [h1] at HR1
  rw [Bool.false_and,if_pos rfl]
  clear h1
  go_enter Tryz.func55,Tryz.ntmps55
  go_wp2_with fail
  rw [←HW.out,←HG.out]
  refine (HR1.out _ hb0).mono ?_
  rintro e w1 ⟨rfl,hb1⟩
  have K1:=K0.keep hb1
  clear hb1 hb0 c0 c1 c2 c3 c4 c5 c6 c7 c8 c9 c10 c11 K0
  obtain ⟨hb0,⟨⟨c0,c1⟩,c2,c3⟩,⟨⟨c4,c5⟩,c6,c7⟩,⟨c8,c9⟩,c10,c11⟩:=raw3.1 K1
  obtain ⟨⟨e1,e2⟩,e3,e4⟩:=ja8 (u:=.int .i64 0) (v:=.slice none 0 0) (u':=.int .i64 0) (v':=.slice none 0 0) (show g+2≠g+3 by omega) c4 c5 c6 c7
  have HE:=jpk (jb0.mk (c:=1) (Nat.le_of_eq HG.out.symm) K1 Zb0 Rd.nil Rd.nil Std.zero Std.zero FrA.none FrA.none)
  clear K1
  exact ZQ94
 cases h2:jae t b
 ·rw [h1] at HR1
  rw [h2] at HR2
  rw [Bool.true_and,if_pos rfl]
  clear h1 h2
  go_enter Tryz.func55,Tryz.ntmps55
  go_wp2_with fail
  rw [←HW.out,←HG.out]
  refine (HR1.out _ hb0).mono ?_
  rintro e w1 ⟨rfl,hb1⟩
  have K1:=K0.keep hb1
  clear hb1 hb0 c0 c1 c2 c3 c4 c5 c6 c7 c8 c9 c10 c11 K0
  obtain ⟨hb0,⟨⟨c0,c1⟩,c2,c3⟩,⟨⟨c4,c5⟩,c6,c7⟩,⟨c8,c9⟩,c10,c11⟩:=raw3.1 K1
  go_wp2_with fail
  refine (HR2.out _ hb0).mono ?_
  rintro e w2 ⟨rfl,hb1⟩
  have K2:=K1.keep hb1
  clear hb1 hb0 c0 c1 c2 c3 c4 c5 c6 c7 c8 c9 c10 c11 K1
  obtain ⟨hb0,⟨⟨c0,c1⟩,c2,c3⟩,⟨⟨c4,c5⟩,c6,c7⟩,⟨c8,c9⟩,c10,c11⟩:=raw3.1 K2
  obtain ⟨⟨e1,e2⟩,e3,e4⟩:=ja8 (u:=.int .i64 0) (v:=.slice none 0 0) (u':=.int .i64 0) (v':=.slice none 0 0) (show g+2≠g+3 by omega) c4 c5 c6 c7
  have HE:=jpk (jb0.mk (c:=1) (Nat.le_of_eq HG.out.symm) K2 Zb0 Rd.nil Rd.nil Std.zero Std.zero FrA.none FrA.none)
  clear K2
  exact ZQ94
 rw [h1] at HR1
 rw [h2] at HR2
 rw [Bool.true_and,if_neg Zb0]
 by_cases ht:t=0
 ·have hd:(t==0)=true:=by simp [ht]
  rw [if_pos ht]
  clear h1 h2 ht
  go_enter Tryz.func55,Tryz.ntmps55
  go_wp2_with fail
  rw [←HW.out,←HG.out]
  refine (HR1.out _ hb0).mono ?_
  rintro e w1 ⟨rfl,hb1⟩
  have K1:=K0.keep hb1
  clear hb1 hb0 c0 c1 c2 c3 c4 c5 c6 c7 c8 c9 c10 c11 K0
  obtain ⟨hb0,⟨⟨c0,c1⟩,c2,c3⟩,⟨⟨c4,c5⟩,c6,c7⟩,⟨c8,c9⟩,c10,c11⟩:=raw3.1 K1
  go_wp2_with fail
  refine (HR2.out _ hb0).mono ?_
  rintro e w2 ⟨rfl,hb1⟩
  have K2:=K1.keep hb1
  clear hb1 hb0 c0 c1 c2 c3 c4 c5 c6 c7 c8 c9 c10 c11 K1
  obtain ⟨hb0,⟨⟨c0,c1⟩,c2,c3⟩,⟨⟨c4,c5⟩,c6,c7⟩,⟨c8,c9⟩,c10,c11⟩:=raw3.1 K2
  obtain ⟨⟨e1,e2⟩,e3,e4⟩:=ja8 (u:=.int .i64 0) (v:=.slice none 0 0) (u':=.int .i64 0) (v':=.slice none 0 0) (show g+2≠g+3 by omega) c4 c5 c6 c7
  have HE:=jpk (jb0.mk (c:=15) (Nat.le_of_eq HG.out.symm) K2 Zb0 Rd.nil Rd.nil Std.zero Std.zero FrA.none FrA.none)
  clear K2
  go_wp2
  exact bodyPost_ret (v:=.tuple #[.agg #[.int .i64 0,.slice none 0 0],.agg #[.int .i64 0,.slice none 0 0],.int .i64 15]) (by simp [results,Tryz.results55,go_sem,e1,e2,e3,e4]) rfl HE.out
 have hd:(t==0)=false:=by simp [ht]
 rw [if_neg ht]
 obtain ⟨c1',l1,-⟩:=jah h1
 obtain ⟨c2',l2,e2'⟩:=jah h2
 have hst:=jgp s t (jcf h1) (jcf h2)
 have hbne:b≠[]:=by
  rcases e2' with ⟨-,h⟩|⟨h,-⟩
  ·exact absurd h ht
  ·exact h
 rw [ha.len] at l1
 rw [hb.len] at l2
 have hn21:1≤n2:=by
  have:=List.length_pos_iff.2 hbne
  rw [hb.len] at this
  exact this
 have hb1:=c2'.pos hbne
 have ha1:=jas c1'.1
 obtain ⟨Dq,hDq⟩:∃D,D=digs (val a / val b).toNat:=⟨_,rfl⟩
 obtain ⟨Dr,hDr⟩:∃D,D=digs (val a%val b).toNat:=⟨_,rfl⟩
 have cDq:Cn Dq:=by rw [hDq];exact jat _
 have cDr:Cn Dr:=by rw [hDr];exact jat _
 have vq0:=Int.ediv_nonneg ha1 (Int.le_of_lt hb1)
 have vr0:=Int.emod_nonneg (val a) (b:=val b) ZO
 have vr1:=Int.emod_lt_of_pos (val a) hb1
 have vDq:val Dq=val a / val b:=by rw [hDq,jau];omega
 have vDr:val Dr=val a%val b:=by rw [hDr,jau];omega
 have lq:Dq.length≤60:=by
  exact ZQ127
 have lr:Dr.length≤b.length:=by
  rw [hDr]
  refine jaM ?_
  have h3:=ja7 c2'.1
  omega
 rw [hb.len] at lr
 have HD:=jpk (fun W (h:BxC w g [(0,0,.int .i64 s),(0,1,.slice A n cap),(1,0,.int .i64 t),(1,1,.slice A2 n2 cap2)] [(2,0),(2,1),(3,0),(3,1)] W)=>(jgy A A2 n cap n2 cap2 a b W (ha.up (jab _) h.1) (hb.up (jab _) h.1) c1' c2' ZO ZO hn21).mono fun e W' ⟨Aq,nq,cq,Ar,nr,cr,he,r1,r2,⟨f1,f2⟩,hb⟩=>(⟨Aq,nq,cq,Ar,nr,cr,he,⟨h.keep hb,hDq ▸ r1,hDr ▸ r2⟩,f1.mono (h.lt (m:=3) (j:=0) Zb0),f2.mono (h.lt (m:=3) (j:=0) Zb0)⟩:∃Aq nq cq Ar nr cr,e=Ending.returned (.tuple #[.slice Aq nq cq,.slice Ar nr cr])∧D3 w g [(0,0,.int .i64 s),(0,1,.slice A n cap),(1,0,.int .i64 t),(1,1,.slice A2 n2 cap2)] [(2,0),(2,1),(3,0),(3,1)] Aq Ar nq cq nr cr Dq Dr W'∧FrA (g+4) Aq∧FrA (g+4) Ar))
 have ms:(s*t=1∨s*t= -1∨Dq=[])∧(s=1∨s= -1∨Dr=[]):=by
  exact ZQ47
 by_cases hcs:s*t<0∧val a%val b≠0
 case neg =>
  have hc':¬s*t<0∨val a%val b=0:=by omega
  obtain ⟨q1,q2⟩:=jgH h1 h2 ht hc'
  have z1:s*t*val Dq=fq (bval s a) (bval t b):=by rw [vDq,q1]
  have z2:s*val Dr=fr (bval s a) (bval t b):=by rw [vDr,q2]
  have HS1:=jpk (fun Aq Ar nq cq nr cr W (h:D3 w g [(0,0,.int .i64 s),(0,1,.slice A n cap),(1,0,.int .i64 t),(1,1,.slice A2 n2 cap2)] [(2,0),(2,1),(3,0),(3,1)] Aq Ar nq cq nr cr Dq Dr W)=>(jbJ (s*t) Aq nq cq _ _ W h.2.1 cDq ms.1 z1).mono fun e W' ⟨s',A',n',c',l',he,hr,hs,hf,hb⟩=>(⟨s',A',n',c',l',he,hr,hs,hf,h.keep hb,hb⟩:∃s' A' n' c' l',e=Ending.returned (.agg #[.int .i64 s',.slice A' n' c'])∧RdI W' W'.heap.size A' n' c' l'∧Std s' l' (fq (bval s a) (bval t b))∧(∀B,FrA B Aq→FrA B A')∧D3 w g [(0,0,.int .i64 s),(0,1,.slice A n cap),(1,0,.int .i64 t),(1,1,.slice A2 n2 cap2)] [(2,0),(2,1),(3,0),(3,1)] Aq Ar nq cq nr cr Dq Dr W'∧Below W.heap.size W W'))
  have HS2:=jpk (fun Aq Ar nq cq nr cr W (h:D3 w g [(0,0,.int .i64 s),(0,1,.slice A n cap),(1,0,.int .i64 t),(1,1,.slice A2 n2 cap2)] [(2,0),(2,1),(3,0),(3,1)] Aq Ar nq cq nr cr Dq Dr W)=>(jbJ s Ar nr cr _ _ W h.2.2 cDr ms.2 z2).mono fun e W' ⟨s',A',n',c',l',he,hr,hs,hf,hb⟩=>(⟨s',A',n',c',l',he,hr,hs,hf,h.keep hb,hb⟩:∃s' A' n' c' l',e=Ending.returned (.agg #[.int .i64 s',.slice A' n' c'])∧RdI W' W'.heap.size A' n' c' l'∧Std s' l' (fr (bval s a) (bval t b))∧(∀B,FrA B Ar→FrA B A')∧D3 w g [(0,0,.int .i64 s),(0,1,.slice A n cap),(1,0,.int .i64 t),(1,1,.slice A2 n2 cap2)] [(2,0),(2,1),(3,0),(3,1)] Aq Ar nq cq nr cr Dq Dr W'∧Below W.heap.size W W'))
  have hcond:decide (s*t<0)=false∨(decide (s*t<0)=true∧Dr=[]):=by
   rcases hc' with h|h
   ·exact Or.inl (decide_eq_false h)
   ·by_cases h':s*t<0
    ·exact Or.inr ⟨decide_eq_true h',by rw [hDr,h];exact jax⟩
    ·exact Or.inl (decide_eq_false h')
  clear z1 z2 q1 q2 hc' hcs ms lq lr vDq vDr vq0 vr0 vr1 cDq cDr hDq hDr hb1 ha1 hn21 hbne e2' l1 l2 c1' c2' h1 h2 ht
  generalize fq (bval s a) (bval t b)=Zq at *
  generalize fr (bval s a) (bval t b)=Zr at *
  rcases hcond with hd1|⟨hd1,hd2⟩
  ·go_enter Tryz.func55,Tryz.ntmps55
   go_wp2_with fail
   rw [←HW.out,←HG.out]
   refine (HR1.out _ hb0).mono ?_
   rintro e w1 ⟨rfl,hb1⟩
   have K1:=K0.keep hb1
   clear hb1 hb0 c0 c1 c2 c3 c4 c5 c6 c7 c8 c9 c10 c11 K0
   obtain ⟨hb0,⟨⟨c0,c1⟩,c2,c3⟩,⟨⟨c4,c5⟩,c6,c7⟩,⟨c8,c9⟩,c10,c11⟩:=raw3.1 K1
   go_wp2_with fail
   refine (HR2.out _ hb0).mono ?_
   rintro e w2 ⟨rfl,hb1⟩
   have K2:=K1.keep hb1
   clear hb1 hb0 c0 c1 c2 c3 c4 c5 c6 c7 c8 c9 c10 c11 K1
   obtain ⟨hb0,⟨⟨c0,c1⟩,c2,c3⟩,⟨⟨c4,c5⟩,c6,c7⟩,⟨c8,c9⟩,c10,c11⟩:=raw3.1 K2
   go_wp2_with fail
   refine (HD.out _ K2).mono ?_
   rintro e w5 ⟨Aq,nq,cq,Ar,nr,cr,rfl,K3,fq',fr'⟩
   clear hb0 c0 c1 c2 c3 c4 c5 c6 c7 c8 c9 c10 c11 K2
   exact ZQ14
  ·go_enter Tryz.func55,Tryz.ntmps55
   go_wp2_with fail
   rw [←HW.out,←HG.out]
   refine (HR1.out _ hb0).mono ?_
   rintro e w1 ⟨rfl,hb1⟩
   have K1:=K0.keep hb1
   clear hb1 hb0 c0 c1 c2 c3 c4 c5 c6 c7 c8 c9 c10 c11 K0
   obtain ⟨hb0,⟨⟨c0,c1⟩,c2,c3⟩,⟨⟨c4,c5⟩,c6,c7⟩,⟨c8,c9⟩,c10,c11⟩:=raw3.1 K1
   go_wp2_with fail
   refine (HR2.out _ hb0).mono ?_
   rintro e w2 ⟨rfl,hb1⟩
   have K2:=K1.keep hb1
   clear hb1 hb0 c0 c1 c2 c3 c4 c5 c6 c7 c8 c9 c10 c11 K1
   obtain ⟨hb0,⟨⟨c0,c1⟩,c2,c3⟩,⟨⟨c4,c5⟩,c6,c7⟩,⟨c8,c9⟩,c10,c11⟩:=raw3.1 K2
   go_wp2_with fail
   refine (HD.out _ K2).mono ?_
   rintro e w5 ⟨Aq,nq,cq,Ar,nr,cr,rfl,K3,fq',fr'⟩
   clear hb0 c0 c1 c2 c3 c4 c5 c6 c7 c8 c9 c10 c11 K2
   have hd2:decide (0<nr)=false:=by have hnr:=K3.2.2.len;rw [←hnr,hd2];rfl
   exact ZQ14
 case pos =>
  have hd1:decide (s*t<0)=true:=decide_eq_true hcs.1
  obtain ⟨q1,q2⟩:=jja h1 h2 hcs.1 hcs.2
  obtain ⟨m1,-,-,-⟩:=jdd h1 h2 hcs.1
  obtain ⟨D1,hD1⟩:∃D,D=digs (val Dq+1).toNat:=⟨_,rfl⟩
  obtain ⟨D2,hD2⟩:∃D,D=digs (val b-val Dr).toNat:=⟨_,rfl⟩
  have cD1:Cn D1:=by rw [hD1];exact jat _
  have cD2:Cn D2:=by rw [hD2];exact jat _
  have z1: -1*val D1=fq (bval s a) (bval t b):=by rw [hD1,jau,q1];omega
  have z2:t*val D2=fr (bval s a) (bval t b):=by rw [hD2,q2,vDr,jau];congr 1;omega
  have d1:DgOk [1]:=DgOk.cons.2 ⟨by omega,DgOk.nil⟩
  have v1:val [1]=1:=by simp [val]
  have hr0:0<Dr.length:=List.length_pos_iff.2 (fun e=>by rw [e] at vDr;have:val []=0:=rfl;omega)
  have m1':t=1∨t= -1∨D2=[]:=by rcases m1 with h|h;exact Or.inl h;exact Or.inr (Or.inl h)
  have HA:=jpk (fun Aq Ar nq cq nr cr (W0:World) (H:Nat) (hH:W0.heap.size=H) W (hW:W=(W0.alloc (.cells #[.int .i64 1] 3)).drew) (h:D3 w g [(0,0,.int .i64 s),(0,1,.slice A n cap),(1,0,.int .i64 t),(1,1,.slice A2 n2 cap2)] [(2,0),(2,1),(3,0),(3,1)] Aq Ar nq cq nr cr Dq Dr W)=>(addD Aq (some ⟨H,0,none⟩) nq cq 1 1 Dq [1] W h.2.1 (by rw [hW];exact Rd.litG jap (w:=W0) 3 [1] #[.int .i64 1] 1 H hH rfl rfl ZO) cDq.1 d1 (by rw [←h.2.1.len];omega) ZO).mono fun e W' ⟨A',n',c',he,hr,hf,hb⟩=>(⟨A',n',c',he,by rw [v1] at hr;rw [hD1];exact hr,hf.mono (h.1.lt (m:=3) (j:=0) Zb0),h.keep hb,hb⟩:∃A' n' c',e=Ending.returned (.slice A' n' c')∧RdI W' W'.heap.size A' n' c' D1∧FrA (g+3+1) A'∧D3 w g [(0,0,.int .i64 s),(0,1,.slice A n cap),(1,0,.int .i64 t),(1,1,.slice A2 n2 cap2)] [(2,0),(2,1),(3,0),(3,1)] Aq Ar nq cq nr cr Dq Dr W'∧Below W.heap.size W W'))
  have HM:=jpk (fun Aq Ar nq cq nr cr W (h:D3 w g [(0,0,.int .i64 s),(0,1,.slice A n cap),(1,0,.int .i64 t),(1,1,.slice A2 n2 cap2)] [(2,0),(2,1),(3,0),(3,1)] Aq Ar nq cq nr cr Dq Dr W)=>(subD A2 Ar n2 cap2 nr cr b Dr W (hb.up (jab _) h.1.1) h.2.2 c2'.1 cDr.1 ZO (by rw [←h.2.2.len];omega) (by rw [vDr];omega)).mono fun e W' ⟨A',n',c',he,hr,hf,hb⟩=>(⟨A',n',c',he,hD2 ▸ hr,hf.mono (h.1.lt (m:=3) (j:=0) Zb0),h.keep hb,hb⟩:∃A' n' c',e=Ending.returned (.slice A' n' c')∧RdI W' W'.heap.size A' n' c' D2∧FrA (g+3+1) A'∧D3 w g [(0,0,.int .i64 s),(0,1,.slice A n cap),(1,0,.int .i64 t),(1,1,.slice A2 n2 cap2)] [(2,0),(2,1),(3,0),(3,1)] Aq Ar nq cq nr cr Dq Dr W'∧Below W.heap.size W W'))
  have HS1:=jpk (fun A6 n6 c6 Aq Ar nq cq nr cr W (h6:RdI W W.heap.size A6 n6 c6 D1) (h:D3 w g [(0,0,.int .i64 s),(0,1,.slice A n cap),(1,0,.int .i64 t),(1,1,.slice A2 n2 cap2)] [(2,0),(2,1),(3,0),(3,1)] Aq Ar nq cq nr cr Dq Dr W)=>(jbJ (-1) A6 n6 c6 _ _ W h6 cD1 (Or.inr (Or.inl rfl)) z1).mono fun e W' ⟨s',A',n',c',l',he,hr,hs,hf,hb⟩=>(⟨s',A',n',c',l',he,hr,hs,hf,h.keep hb,hb⟩:∃s' A' n' c' l',e=Ending.returned (.agg #[.int .i64 s',.slice A' n' c'])∧RdI W' W'.heap.size A' n' c' l'∧Std s' l' (fq (bval s a) (bval t b))∧(∀B,FrA B A6→FrA B A')∧D3 w g [(0,0,.int .i64 s),(0,1,.slice A n cap),(1,0,.int .i64 t),(1,1,.slice A2 n2 cap2)] [(2,0),(2,1),(3,0),(3,1)] Aq Ar nq cq nr cr Dq Dr W'∧Below W.heap.size W W'))
  have HS2:=jpk (fun A6 n6 c6 Aq Ar nq cq nr cr W (h6:RdI W W.heap.size A6 n6 c6 D2) (h:D3 w g [(0,0,.int .i64 s),(0,1,.slice A n cap),(1,0,.int .i64 t),(1,1,.slice A2 n2 cap2)] [(2,0),(2,1),(3,0),(3,1)] Aq Ar nq cq nr cr Dq Dr W)=>(jbJ t A6 n6 c6 _ _ W h6 cD2 m1' z2).mono fun e W' ⟨s',A',n',c',l',he,hr,hs,hf,hb⟩=>(⟨s',A',n',c',l',he,hr,hs,hf,h.keep hb,hb⟩:∃s' A' n' c' l',e=Ending.returned (.agg #[.int .i64 s',.slice A' n' c'])∧RdI W' W'.heap.size A' n' c' l'∧Std s' l' (fr (bval s a) (bval t b))∧(∀B,FrA B A6→FrA B A')∧D3 w g [(0,0,.int .i64 s),(0,1,.slice A n cap),(1,0,.int .i64 t),(1,1,.slice A2 n2 cap2)] [(2,0),(2,1),(3,0),(3,1)] Aq Ar nq cq nr cr Dq Dr W'∧Below W.heap.size W W'))
  clear d1 v1 z1 z2 q1 q2 hcs ms m1 m1' cD1 cD2 hD1 hD2 lq lr vDq vDr vq0 vr0 vr1 cDq cDr hDq hDr hb1 ha1 hn21 hbne e2' l1 l2 c1' c2' h1 h2 ht
  generalize fq (bval s a) (bval t b)=Zq at *
  generalize fr (bval s a) (bval t b)=Zr at *
  have Hr0:=jpk hr0
  clear hr0
  go_enter Tryz.func55,Tryz.ntmps55
  go_wp2_with fail
  rw [←HW.out,←HG.out]
  refine (HR1.out _ hb0).mono ?_
  rintro e w1 ⟨rfl,hb1⟩
  have K1:=K0.keep hb1
  clear hb1 hb0 c0 c1 c2 c3 c4 c5 c6 c7 c8 c9 c10 c11 K0
  obtain ⟨hb0,⟨⟨c0,c1⟩,c2,c3⟩,⟨⟨c4,c5⟩,c6,c7⟩,⟨c8,c9⟩,c10,c11⟩:=raw3.1 K1
  go_wp2_with fail
  refine (HR2.out _ hb0).mono ?_
  rintro e w2 ⟨rfl,hb1⟩
  have K2:=K1.keep hb1
  clear hb1 hb0 c0 c1 c2 c3 c4 c5 c6 c7 c8 c9 c10 c11 K1
  obtain ⟨hb0,⟨⟨c0,c1⟩,c2,c3⟩,⟨⟨c4,c5⟩,c6,c7⟩,⟨c8,c9⟩,c10,c11⟩:=raw3.1 K2
  go_wp2_with fail
  refine (HD.out _ K2).mono ?_
  rintro e w5 ⟨Aq,nq,cq,Ar,nr,cr,rfl,K3,fq',fr'⟩
  clear hb0 c0 c1 c2 c3 c4 c5 c6 c7 c8 c9 c10 c11 K2
  have hnr:0<nr:=by rw [←K3.2.2.len];exact Hr0.out
  have hd2:decide (0<nr)=true:=decide_eq_true hnr
  obtain ⟨⟨hb0,⟨⟨c0,c1⟩,c2,c3⟩,⟨⟨c4,c5⟩,c6,c7⟩,⟨c8,c9⟩,c10,c11⟩,-,-⟩:=raw4.1 K3
  go_wp2_with fail
  clear hb0 c0 c1 c2 c3 c4 c5 c6 c7 c8 c9 c10 c11
  have HF2:=jpk (fq'.mono (show g+2+1≤g+4 by omega))
  have HF2':=jpk (fr'.mono (show g+2+1≤g+4 by omega))
  have HF3:=jpk (fq'.mono (show g+3+1≤g+4 by omega))
  have HF3':=jpk (fr'.mono (show g+3+1≤g+4 by omega))
  go_region_held3 (fun W=>(Below w.heap.size w W∧((W.cell? ⟨g,0,none⟩=some (.int .i64 s)∧W.cell? ⟨g,1,none⟩=some (.slice A n cap))∧W.cell? ⟨g+1,0,none⟩=some (.int .i64 t)∧W.cell? ⟨g+1,1,none⟩=some (.slice A2 n2 cap2))∧((W.cell? ⟨g+2,0,none⟩=some (jaw W ⟨g+2,0,none⟩)∧W.cell? ⟨g+2,1,none⟩=some (jaw W ⟨g+2,1,none⟩))∧W.cell? ⟨g+3,0,none⟩=some (jaw W ⟨g+3,0,none⟩)∧W.cell? ⟨g+3,1,none⟩=some (jaw W ⟨g+3,1,none⟩))∧(W.frozen? ⟨g+2,0,none⟩=false∧W.frozen? ⟨g+2,1,none⟩=false)∧W.frozen? ⟨g+3,0,none⟩=false∧W.frozen? ⟨g+3,1,none⟩=false)∧RdI W W.heap.size Aq nq cq Dq∧RdI W W.heap.size Ar nr cr Dr)
   ((refine raw4.1 ?_;first|assumption|exact K3.drew|exact D3.set2 (Nat.le_of_eq HG.out.symm) Zb6 (b:=g+2) ZO Zb7 HF2.out HF2'.out|exact D3.set2 (Nat.le_of_eq HG.out.symm) (raw4.2 Zb6) (b:=g+3) ZO Zb7 HF3.out HF3'.out|exact (raw4.2 Zb6).keep ((Below.refl _ _).alloc (Nat.le_refl _) _)))
   (first
    | (go_at_call 97;refine (HA.out _ _ _ _ _ _ _ _ rfl _ rfl (raw4.2 Zb6)).mono ?_;rintro e w6 ⟨A8,n8,c8,rfl,hr8,hf8,k8,b8⟩)
    | (go_at_call 98;refine (HM.out _ _ _ _ _ _ _ (raw4.2 Zb6)).mono ?_;rintro e w7 ⟨A9,n9,c9,rfl,hr9,hf9,k9,b9⟩)
    | (go_at_call 93;with_reducible refine (HS1.out _ _ _ _ _ _ _ _ _ _ Zb6 (raw4.2 Zb6)).mono ?_;rintro e w3 ⟨s6,A6,n6,c6,l6,rfl,hr6,hstd6,hf6,k6,b6⟩)
    | (go_at_call 93;with_reducible refine (HS2.out _ _ _ _ _ _ _ _ _ _ Zb6 (raw4.2 Zb6)).mono ?_;rintro e w4 ⟨s7,A7,n7,c7,l7,rfl,hr7,hstd7,hf7,k7,b7⟩))
  have h67:=(hr6.up (jab _) b9).up (jab _) b7
  have hA6:=hf6 _ hf8
  have hA7:=hf7 _ hf9
  clear hr6 hf6 hf7 k6 b6 b7 b8 b9 k8 k9 hr8 hr9 hf8 hf9 K3 fq' fr'
  obtain ⟨⟨-,-,⟨⟨x4,x5⟩,x6,x7⟩,-⟩,-,-⟩:=raw4.1 k7
  obtain ⟨⟨e1,e2⟩,e3,e4⟩:=ja8 (u:=.int .i64 s6) (v:=.slice A6 n6 c6) (u':=.int .i64 s7) (v':=.slice A7 n7 c7) (show g+2≠g+3 by omega) x4 x5 x6 x7
  have HE:=jpk (jb0.mk (c:=0) (Nat.le_of_eq HG.out.symm) k7.1 Zb0 h67 hr7 hstd6 hstd7 hA6 hA7)
  clear k7 h67 hr7 hstd6 hstd7 hA6 hA7 x4 x5 x6 x7
  go_wp2
  exact bodyPost_ret (v:=.tuple #[.agg #[.int .i64 s6,.slice A6 n6 c6],.agg #[.int .i64 s7,.slice A7 n7 c7],.int .i64 0]) (by simp [results,Tryz.results55,go_sem,e1,e2,e3,e4]) rfl HE.out
def gcdZ (ok:Bool) (x y:Int):Int:=if ok=true then (Int.gcd x y:Int) else 0
def okE (ok:Bool):Int:=if ok=true then 0 else 1
def GcI (G:Nat) (dx dy:List Int):Prop:=Cn dx∧Cn dy∧dx.length≤60∧dy.length≤60∧Int.gcd (val dx) (val dy)=G
theorem jgz {s:Int} {l:List Int} (h:jae s l=true):(bval s l).natAbs=(val l).natAbs:=by
 rcases (jah h).2.2 with ⟨rfl,rfl⟩|⟨-,rfl|rfl⟩ <;> simp [bval,val]
theorem GcI.start {s t:Int} {a b:List Int} (h1:jae s a=true) (h2:jae t b=true):GcI (Int.gcd (bval s a) (bval t b)) a b:=by
 obtain ⟨c1,l1,-⟩:=jah h1
 obtain ⟨c2,l2,-⟩:=jah h2
 refine ⟨c1,c2,l1,l2,?_⟩
 unfold Int.gcd
 rw [jgz h1,jgz h2]
theorem GcI.step {G:Nat} {dx dy:List Int} (h:GcI G dx dy) (hy:dy≠[]):GcI G dy (digs (val dx%val dy).toNat)∧(val (digs (val dx%val dy).toNat)).toNat<(val dy).toNat:=by
 obtain ⟨c1,c2,l1,l2,hg⟩:=h
 have hp:=c2.pos hy
 have h1:=Int.emod_nonneg (val dx) (b:=val dy) ZO
 have h2:=Int.emod_lt_of_pos (val dx) hp
 have hv:val (digs (val dx%val dy).toNat)=val dx%val dy:=by rw [jau];omega
 refine ⟨⟨c2,jat _,l2,?_,?_⟩,by rw [hv];omega⟩
 ·refine jaM (n:=60) ?_
  have h3:=ja7 c2.1
  have h4:=jbY l2
  omega
 ·rw [hv,←hg]
  obtain ⟨X,hX⟩:=Int.eq_ofNat_of_zero_le (jas c1.1)
  obtain ⟨Y,hY⟩:=Int.eq_ofNat_of_zero_le (jas c2.1)
  rw [hX,hY]
  show Nat.gcd Y (X%Y)=Nat.gcd X Y
  rw [Nat.gcd_comm X Y,Nat.gcd_rec Y X,Nat.gcd_comm]
theorem GcI.fin {G:Nat} {dx:List Int} (h:GcI G dx []):val dx=(G:Int):=by
 obtain ⟨c1,-,-,-,hg⟩:=h
 have h0:=jas c1.1
 have:val []=0:=rfl
 rw [this,Int.gcd_zero_right] at hg
 omega
theorem jgw (s t:Int) (A A2:Option Addr) (n cap n2 cap2:Nat) (a b:List Int) (w:World) (ha:RdI w w.heap.size A n cap a) (hb:RdI w w.heap.size A2 n2 cap2 b) :
 Calls Tryz.prog 89 #[.agg #[.int .i64 s,.slice A n cap],.agg #[.int .i64 t,.slice A2 n2 cap2]] w (BigE w (gcdZ (jae s a&&jae t b) (bval s a) (bval t b)) (okE (jae s a&&jae t b))):=by
 have hcap:=ha.caps
 have hcap2:=hb.caps
 have K0:=box2 w (.int .i64 s) (.slice A n cap) (.int .i64 t) (.slice A2 n2 cap2) (.int .i64 0) (.slice none 0 0) 27 27 27
 have HR1:=jpk (fun W (h:Below w.heap.size w W)=>jaE s A n cap a W (ha.up (jab _) h))
 have HR2:=jpk (fun W (h:Below w.heap.size w W)=>jaE t A2 n2 cap2 b W (hb.up (jab _) h))
 obtain ⟨w0,hw0⟩:∃w0,w0=((w.alloc (.cells #[.int .i64 s,.slice A n cap] 27)).alloc (.cells #[.int .i64 t,.slice A2 n2 cap2] 27)).alloc (.cells #[.int .i64 0,.slice none 0 0] 27):=⟨_,rfl⟩
 rw [←hw0] at K0
 obtain ⟨g,hg⟩:∃g,g=w.heap.size:=⟨_,rfl⟩
 rw [←hg] at K0
 have HW:=jpk hw0;have HG:=jpk hg
 clear hw0 hg
 obtain ⟨hb0,⟨⟨c0,c1⟩,c2,c3⟩,⟨c4,c5⟩,c6,c7⟩:=raw2.1 K0
 have jaC:∀ {x y:Int},gcdZ false x y=0:=fun {x y}=>by unfold gcdZ;simp
 have jaz:okE false=1:=rfl
 cases h1:jae s a
 ·rw [h1] at HR1
  rw [Bool.false_and,jaC,jaz]
  clear h1 jaC jaz
  go_enter Tryz.func89,Tryz.ntmps89
  go_wp2_with fail
  rw [←HW.out,←HG.out]
  refine (HR1.out _ hb0).mono ?_
  rintro e w1 ⟨rfl,hb1⟩
  have K1:=K0.keep hb1
  clear hb1
  exact ZQ26
 cases h2:jae t b
 ·rw [h1] at HR1
  rw [h2] at HR2
  rw [Bool.true_and,jaC,jaz]
  clear h1 h2 jaC jaz
  go_enter Tryz.func89,Tryz.ntmps89
  go_wp2_with fail
  rw [←HW.out,←HG.out]
  refine (HR1.out _ hb0).mono ?_
  rintro e w1 ⟨rfl,hb1⟩
  have K1:=K0.keep hb1
  clear K0 c0 c1 c2 c3 c4 c5 c6 c7 hb1 hb0
  obtain ⟨hb0,⟨⟨d0,d1⟩,d2,d3⟩,⟨d4,d5⟩,d6,d7⟩:=raw2.1 K1
  go_wp2_with fail
  refine (HR2.out _ hb0).mono ?_
  rintro e w2 ⟨rfl,hb1⟩
  have K2:=K1.keep hb1
  clear K1 d0 d1 d2 d3 d4 d5 d6 d7 hb1 hb0
  have K1:=K2
  have K0:=K2
  clear K2
  obtain ⟨hb0,⟨⟨c0,c1⟩,c2,c3⟩,⟨c4,c5⟩,c6,c7⟩:=raw2.1 K1
  exact ZQ26
 have hok:gcdZ (true&&true) (bval s a) (bval t b)=(Int.gcd (bval s a) (bval t b):Int):=by unfold gcdZ;simp
 have hok2:okE (true&&true)=0:=rfl
 rw [h1] at HR1
 rw [h2] at HR2
 rw [hok,hok2]
 have HG0:=jpk (GcI.start h1 h2)
 have l1:=(jah h1).2.1
 rw [ha.len] at l1
 generalize Int.gcd (bval s a) (bval t b)=G at *
 clear hok hok2 h1 h2 jaC jaz
 have HCl:=jpk (fun W (h:BxC w g [(0,0,.int .i64 s),(0,1,.slice A n cap),(1,0,.int .i64 t),(1,1,.slice A2 n2 cap2)] [(2,0),(2,1)] W)=>(jh0 A n cap a W (ha.up (jab _) h.1) ZO).mono fun e W' hd=>hd.keep h (m:=2) (j:=0) Zb0)
 have HHb:=jpk hb
 go_enter Tryz.func89,Tryz.ntmps89
 go_wp2_with fail
 rw [←HW.out,←HG.out]
 refine (HR1.out _ hb0).mono ?_
 rintro e w1 ⟨rfl,hb1⟩
 have K1:=K0.keep hb1
 clear K0 c0 c1 c2 c3 c4 c5 c6 c7 hb1 hb0
 obtain ⟨hb0,⟨⟨d0,d1⟩,d2,d3⟩,⟨d4,d5⟩,d6,d7⟩:=raw2.1 K1
 go_wp2_with fail
 refine (HR2.out _ hb0).mono ?_
 rintro e w2 ⟨rfl,hb1⟩
 have K2:=K1.keep hb1
 clear K1 d0 d1 d2 d3 d4 d5 d6 d7 hb1 hb0
 obtain ⟨hb0,⟨⟨d0,d1⟩,d2,d3⟩,⟨d4,d5⟩,d6,d7⟩:=raw2.1 K2
 go_wp2_with fail
 clear hb0 d0 d1 d2 d3 d4 d5 d6 d7
 go_region_held3 (fun W=>Below w.heap.size w W∧((W.cell? ⟨g,0,none⟩=some (.int .i64 s)∧W.cell? ⟨g,1,none⟩=some (.slice A n cap))∧W.cell? ⟨g+1,0,none⟩=some (.int .i64 t)∧W.cell? ⟨g+1,1,none⟩=some (.slice A2 n2 cap2))∧(W.cell? ⟨g+2,0,none⟩=some (jaw W ⟨g+2,0,none⟩)∧W.cell? ⟨g+2,1,none⟩=some (jaw W ⟨g+2,1,none⟩))∧W.frozen? ⟨g+2,0,none⟩=false∧W.frozen? ⟨g+2,1,none⟩=false)
  ((refine raw2.1 ?_;first|assumption|exact K2.drew|exact raw2.2 Zb6))
  (first
   | (go_at_call 114;refine (HCl.out _ (raw2.2 Zb6)).mono ?_;rintro e w3 ⟨A5,n5,c5,rfl,hr5,-,k5,-⟩))
 have hbw:=jpk (HHb.out.up (jab _) k5.1)
 clear K2
 go_wp2_with fail
 go_loopg [6,7] (val b).toNat (fun gk x y wr=>∃Ax nx cx dx Ay ny cy dy,x=.slice Ax nx cx∧y=.slice Ay ny cy∧RdI wr wr.heap.size Ax nx cx dx∧RdI wr wr.heap.size Ay ny cy dy∧GcI G dx dy∧gk=(val dy).toNat∧BxC w g [(0,0,.int .i64 s),(0,1,.slice A n cap),(1,0,.int .i64 t),(1,1,.slice A2 n2 cap2)] [(2,0),(2,1)] wr)
 case atStart=>exact ⟨A5,n5,c5,a,A2,n2,cap2,b,rfl,rfl,hr5,hbw.out,HG0.out,rfl,k5⟩
 case round =>
  obtain ⟨Ax,nx,cx,dx,Ay,ny,cy,dy,rfl,rfl,rx,ry,hI,rfl,K⟩:=hrel
  have hlx:=rx.len
  have hly:=ry.len
  have HI:=jpk hI
  obtain ⟨cdx,cdy,lx,ly,-⟩:=hI
  rw [hlx] at lx
  rw [hly] at ly
  rcases Nat.eq_zero_or_pos ny with h0|h0
  ·have hdy:dy=[]:=List.eq_nil_of_length_eq_zero ZO
   subst hdy
   have hv:=HI.out.fin
   have hd:decide (0<ny)=false:=decide_eq_false ZO
   have hfit:fits (G:Int)=true:=jbU.2 (by
    have h3:=ja7 cdx.1
    rw [hlx] at h3
    have h4:=jbY lx
    omega)
   have e1:resZ true (G:Int)=G:=by unfold resZ;rw [if_pos ⟨rfl,hfit⟩]
   have e2:errZ true (G:Int)=0:=by unfold errZ;rw [if_neg Zb0,if_pos hfit]
   have HC2:=jpk (fun W (hb:Below wr.heap.size wr W) (h:BxC w g [(0,0,.int .i64 s),(0,1,.slice A n cap),(1,0,.int .i64 t),(1,1,.slice A2 n2 cap2)] [(2,0),(2,1)] W)=>(jh0 Ax nx cx dx W (rx.up (jab _) hb) ZO).mono fun e W' hd=>hd.keep h (m:=2) (j:=0) Zb0)
   have HS:=jpk (fun A' n' c' W (hr:RdI W W.heap.size A' n' c' dx) (h:BxC w g [(0,0,.int .i64 s),(0,1,.slice A n cap),(1,0,.int .i64 t),(1,1,.slice A2 n2 cap2)] [(2,0),(2,1)] W)=>(jbJ 1 A' n' c' _ (G:Int) W hr cdx (Or.inl rfl) (by rw [Int.one_mul];exact hv)).mono fun e W' hd=>hd.keep h)
   have HC:=jpk (fun s' A' n' c' l' W (hr:RdI W W.heap.size A' n' c' l') (hz:Std s' l' (G:Int)) (h:BxC w g [(0,0,.int .i64 s),(0,1,.slice A n cap),(1,0,.int .i64 t),(1,1,.slice A2 n2 cap2)] [(2,0),(2,1)] W)=>(jcC true s' A' n' c' l' _ W hr hz).mono fun e W' hd=>hd.keep h)
   rw [e1,e2] at HC
   clear e1 e2 hfit hv h0 hlx hly lx ly cdx cdy HI rx ry HCl HG0
   go_wp2_with fail
   refine (HC2.out _ (Below.refl _ _) K).mono ?_
   rintro e w4 ⟨A6,n6,c6,rfl,hr6,hf6,k6,-⟩
   go_wp2_with fail
   refine (HS.out _ _ _ _ hr6 k6).mono ?_
   rintro e w5 ⟨s7,A7,n7,c7,l7,rfl,hr7,hstd7,hf7,k7,-⟩
   obtain ⟨hb0,⟨⟨d0,d1⟩,d2,d3⟩,⟨d4,d5⟩,d6,d7⟩:=raw2.1 k7
   go_wp2_with fail
   refine (HC.out _ _ _ _ _ _ hr7 hstd7 k7).mono ?_
   rintro e w6 ⟨s3,A3,n3,c3,l3,rfl,hr3,hstd,hf3,k3,-⟩
   have hA:=hf3 _ (hf7 _ hf6)
   clear hb0 d0 d1 d2 d3 d4 d5 d6 d7 hr6 hf6 k6 hr7 hstd7 hf7 k7 K hf3
   obtain ⟨-,-,⟨x2,x3⟩,y2,y3⟩:=raw2.1 k3
   obtain ⟨e1,e2⟩:=jav (u:=.int .i64 s3) (v:=.slice A3 n3 c3) x2 x3
   have K4:=jpk (k3.set2 (Nat.le_of_eq HG.out.symm) (b:=g+2) (u:=.int .i64 s3) (v:=.slice A3 n3 c3) ZO Zb7).1
   have hr4:=jpk (hr3.set2 (b:=g+2) (u:=.int .i64 s3) (v:=.slice A3 n3 c3) (fun a h=>by have:=hA a h;omega))
   have hA4:=jpk (hA.mono (C:=w.heap.size) (by have:=HG.out;omega))
   clear hA k3 hr3
   go_wp2
   exact bodyPost_ret (v:=.tuple #[.agg #[.int .i64 s3,.slice A3 n3 c3],.int .i64 0]) (by simp [results,Tryz.results89,go_sem,e1,e2]) rfl ⟨s3,A3,n3,c3,l3,rfl,hr4.out,hstd,hA4.out,K4.out⟩
  ·have hd:decide (0<ny)=true:=decide_eq_true h0
   have hne:dy≠[]:=fun e=>by rw [e] at hly;simp at hly;omega
   obtain ⟨g1,g2⟩:=HI.out.step hne
   have HN:=jpk g1;have HN2:=jpk g2
   have HDv:=jpk (jgy Ax Ay nx cx ny cy dx dy wr rx ry cdx cdy ZO ZO h0)
   clear g1 g2
   go_wp2_with fail
   refine HDv.out.mono ?_
   rintro e w4 ⟨Aq,nq,cq,Ar,nr,cr,rfl,rq,rr,-,hb4⟩
   have K4:=K.keep hb4
   have ry4:=ry.up (jab _) hb4
   clear rx ry K rq hb4 HDv
   exact ZQ101
def OfI (N:Nat) (l:List Int) (u:Nat):Prop:=digs N=l++digs u
theorem OfI.step {N:Nat} {l:List Int} {u:Nat} (h:OfI N l u) (hu:0<u):OfI N (l++[((u%1048576:Nat):Int)]) (u / 1048576):=by
 unfold OfI at *
 rw [h,je2 ZO]
 simp
theorem OfI.fin {N:Nat} {l:List Int} (h:OfI N l 0):l=digs N:=by
 unfold OfI at h
 rw [h,jax,List.append_nil]
theorem OfI.len {N:Nat} {l:List Int} {u:Nat} (h:OfI N l u) (hN:N≤18446744073709551616):l.length≤4:=by
 have h1:(digs N).length≤4:=jbs.2 (by simp [pw];omega)
 rw [h,List.length_append] at h1
 omega
theorem jhk (n:Int) (h0:0≤n):bits .and .u64 n 1048575=n%1048576:=by
 have h127:(BitVec.ofInt 64 1048575).toNat=2 ^ 20-1:=by decide
 have key:(BitVec.ofInt 64 n &&& BitVec.ofInt 64 1048575).toNat=(n%((2 ^ 64:Nat):Int)).toNat%2 ^ 20:=by
  exact jnz
 show IntKind.u64.wrap ((BitVec.ofInt 64 n &&& BitVec.ofInt 64 1048575).toNat:Nat)=n%1048576
 rw [key,IntKind.wrap_u64]
 omega
theorem jhS (n:Int) (w:World) (hn: -9223372036854775808≤n∧n≤9223372036854775807) :
 Calls Tryz.prog 115 #[.int .i64 n] w (BigR w n):=by
 obtain ⟨i0,hi0,hz0,hz1,hz2⟩:=jaN jbf
 have hb0:=(Below.refl w.heap.size w).alloc (Nat.le_refl _) (.cells #[.int .i64 0,.slice none 0 0] 27)
 have c0:(w.alloc (.cells #[.int .i64 0,.slice none 0 0] 27)).cell? ⟨w.heap.size,0,none⟩=some (.int .i64 0):=jaY rfl rfl
 have c1:(w.alloc (.cells #[.int .i64 0,.slice none 0 0] 27)).cell? ⟨w.heap.size,1,none⟩=some (.slice none 0 0):=jaY rfl rfl
 have f0:(w.alloc (.cells #[.int .i64 0,.slice none 0 0] 27)).frozen? ⟨w.heap.size,0,none⟩=false:=jcM _ _ _
 have f1:(w.alloc (.cells #[.int .i64 0,.slice none 0 0] 27)).frozen? ⟨w.heap.size,1,none⟩=false:=jcM _ _ _
 have hsz:(w.alloc (.cells #[.int .i64 0,.slice none 0 0] 27)).heap.size=w.heap.size+1:=by simp
 obtain ⟨w0,hw0⟩:∃w0,w0=w.alloc (.cells #[.int .i64 0,.slice none 0 0] 27):=⟨_,rfl⟩
 rw [←hw0] at hb0 c0 c1 f0 f1 hsz
 obtain ⟨g,hg⟩:∃g,g=w.heap.size:=⟨_,rfl⟩
 rw [←hg] at c0 c1 f0 f1 hsz
 have HW:=jpk hw0;have HG:=jpk hg;have HZ:=jpk hsz
 have HI0:OfI n.natAbs [] n.natAbs:=by unfold OfI;simp
 have HI0:=jpk HI0
 have HN:=jpk (show n.natAbs≤9223372036854775808 by omega)
 have HV:=jpk (show (if n<0 then (-1:Int) else 1)*val (digs n.natAbs)=n from by rw [jau];split <;> omega)
 have Hlt:(n<0→IntKind.u64.wrap (IntKind.u64.wrap n)=n+18446744073709551616)∧(¬n<0→IntKind.u64.wrap n=(n.natAbs:Int)):=⟨fun h=>by rw [IntKind.wrap_u64,IntKind.wrap_u64];omega,fun h=>by rw [IntKind.wrap_u64];omega⟩
 clear hw0 hg hsz
 by_cases hneg:n<0
 ·have hd:decide (n<0)=true:=decide_eq_true hneg
  have hw1:IntKind.u64.wrap n=n+18446744073709551616:=by rw [IntKind.wrap_u64];omega
  have hw2:IntKind.u64.wrap (-(n+18446744073709551616))=((n.natAbs:Nat):Int):=by rw [IntKind.wrap_u64];omega
  rw [if_pos hneg] at HV
  clear hneg
  generalize n.natAbs=N at *
  go_enter Tryz.func115,Tryz.ntmps115
  go_wp2_with fail
  rw [←HW.out,←HG.out]
  go_loopg [4,5] N (fun gk uv lv wr=>∃(l:List Int) (u:Nat),uv=.int .u64 u∧Own 1 iEnc wr w0.heap.size 3 lv l∧OfI N l u∧u≤N∧gk=u∧Below w0.heap.size w0 wr)
  case atStart=>exact ⟨[],N,rfl,Own.nil,HI0.out,Nat.le_refl _,rfl,Below.refl _ _⟩
  case round =>
   obtain ⟨l,u,rfl,ho,hI,hu,rfl,hb⟩:=hrel
   have HI:=jpk hI
   have hl4:=hI.len (Nat.le_trans HN.out ZO)
   clear hI
   rcases Nat.eq_zero_or_pos gk with h0|h0
   ·subst h0
    have hd2:decide ((0:Int)<((0:Nat):Int))=false:=by simp
    have hl:=HI.out.fin
    subst hl
    obtain ⟨A,cap,rfl,hr⟩:=ho.rd jap ZO
    have hA:=ho.fr rfl
    have HS:=jpk (jbJ (-1) A _ cap _ n wr hr (jat N) Zb8 HV.out)
    exact ZQ24
   ·exact ZQ35
 ·have hd:decide (n<0)=false:=decide_eq_false hneg
  have hw1:IntKind.u64.wrap n=((n.natAbs:Nat):Int):=by rw [IntKind.wrap_u64];omega
  rw [if_neg hneg] at HV
  clear hneg Hlt
  generalize n.natAbs=N at *
  go_enter Tryz.func115,Tryz.ntmps115
  go_wp2_with fail
  rw [←HW.out,←HG.out]
  go_loopg [4,5] N (fun gk uv lv wr=>∃(l:List Int) (u:Nat),uv=.int .u64 u∧Own 1 iEnc wr w0.heap.size 3 lv l∧OfI N l u∧u≤N∧gk=u∧Below w0.heap.size w0 wr)
  case atStart=>exact ⟨[],N,rfl,Own.nil,HI0.out,Nat.le_refl _,rfl,Below.refl _ _⟩
  case round =>
   obtain ⟨l,u,rfl,ho,hI,hu,rfl,hb⟩:=hrel
   have HI:=jpk hI
   have hl4:=hI.len (Nat.le_trans HN.out ZO)
   clear hI
   rcases Nat.eq_zero_or_pos gk with h0|h0
   ·subst h0
    have hd2:decide ((0:Int)<((0:Nat):Int))=false:=by simp
    have hl:=HI.out.fin
    subst hl
    obtain ⟨A,cap,rfl,hr⟩:=ho.rd jap ZO
    have hA:=ho.fr rfl
    have HS:=jpk (jbJ 1 A _ cap _ n wr hr (jat N) Zb8 HV.out)
    exact ZQ24
   ·exact ZQ35
def intC (s:Int) (l:List Int):Bool:=jae s l&&decide (-9223372036854775808≤bval s l∧bval s l≤9223372036854775807)
def intV (s:Int) (l:List Int):Int:=if intC s l=true then bval s l else 0
theorem jdt {s:Int} {l:List Int} (h:intC s l=false):intV s l=0:=by unfold intV;rw [h];rfl
theorem jej (n:Int) (h₀:0≤n) (h₁:n<2 ^ 64):IntKind.u64.wrap n=n:=by rw [IntKind.wrap_u64];omega
theorem jjX (x y:Int):bits .or .u64 x y=bits .or .u64 y x:=by
 show IntKind.u64.wrap ((BitVec.ofInt 64 x ||| BitVec.ofInt 64 y).toNat:Nat)=IntKind.u64.wrap ((BitVec.ofInt 64 y ||| BitVec.ofInt 64 x).toNat:Nat)
 rw [BitVec.or_comm]
theorem jjY (u a:Int) (k:Nat) (hk:k≤60) (h1:0≤u) (h2:u<2 ^ k) (h3:0≤a) (h4:a*2 ^ k<2 ^ 64):bits .or .u64 u (a*2 ^ k)=u+a*2 ^ k:=by
 have hp:(2:Int) ^ k≤2 ^ 60:=by
  have:=Nat.pow_le_pow_right (show 0<2 by omega) hk
  exact_mod_cast this
 rw [jjX,bits_join .u64 64 Zb4 jej k (a*2 ^ k) u (Int.mul_nonneg h3 (Int.le_of_lt (Int.pow_pos (show (0:Int)<2 by omega)))) (Int.mul_emod_left _ _) h4 h1 h2 ZO]
 omega
theorem jnh (k:Nat):pw k=2 ^ (20*k):=by
 induction k with
 | zero=>rfl
 | succ k ih=>rw [pw,ih,show 20*(k+1)=20*k+20 by omega,Int.pow_add];omega
theorem jmA {f:Nat→Int} {n k:Nat} {x:Int} (hd:Dg f n) (hk:k<n) (hn:n≤4) (hx:f k=x) (h8:k=3→x≤8):bits .or .u64 (vF f k) (IntKind.u64.wrap (x*2 ^ (20*k)))=vF f (k+1):=by
 have h1:=hd k hk
 rw [hx] at h1
 have h2:=jaV (n:=k) (fun i hi=>hd i ZO)
 have h3:=jcz (n:=k) (fun i hi=>hd i ZO)
 have h4:x*2 ^ (20*k)<2 ^ 64:=by
  have hk4:k=0∨k=1∨k=2∨k=3:=by omega
  rcases hk4 with rfl|rfl|rfl|rfl
  ·simp;omega
  ·simp;omega
  ·simp;omega
  ·have:=h8 rfl
   simp;omega
 have h5:0≤x*2 ^ (20*k):=Int.mul_nonneg h1.1 (Int.le_of_lt (Int.pow_pos ZO))
 rw [jej _ h5 h4,jjY _ _ _ ZO h2 (by rw [←jnh];exact h3) h1.1 h4,vF,hx,jnh,Int.mul_comm]
theorem jkK (s:Int) (A:Option Addr) (n cap:Nat) (l:List Int) (w:World) (hl:RdI w w.heap.size A n cap l) :
 Calls Tryz.prog 126 #[.agg #[.int .i64 s,.slice A n cap]] w fun e w'=>e=.returned (.tuple #[.int .i64 (intV s l),.bool (intC s l)])∧Below w.heap.size w w':=by
 have hln:=hl.len
 have hcap:=hl.caps
 have hb0:=(Below.refl w.heap.size w).alloc (Nat.le_refl _) (.cells #[.int .i64 s,.slice A n cap] 27)
 have c0:(w.alloc (.cells #[.int .i64 s,.slice A n cap] 27)).cell? ⟨w.heap.size,0,none⟩=some (.int .i64 s):=jaY rfl rfl
 have c1:(w.alloc (.cells #[.int .i64 s,.slice A n cap] 27)).cell? ⟨w.heap.size,1,none⟩=some (.slice A n cap):=jaY rfl rfl
 have HR:=jpk (fun W (h:Below w.heap.size w W)=>jaE s A n cap l W (hl.up (jab _) h))
 obtain ⟨w0,hw0⟩:∃w0,w0=w.alloc (.cells #[.int .i64 s,.slice A n cap] 27):=⟨_,rfl⟩
 rw [←hw0] at hb0 c0 c1
 obtain ⟨g,hg⟩:∃g,g=w.heap.size:=⟨_,rfl⟩
 rw [←hg] at c0 c1
 have HW:=jpk hw0;have HG:=jpk hg
 clear hw0 hg
 cases h1:jae s l
 ·have hI:intC s l=false:=by unfold intC;rw [h1,Bool.false_and]
  rw [jdt hI,hI]
  rw [h1] at HR
  clear hI h1
  go_enter Tryz.func126,Tryz.ntmps126
  go_wp2_with fail
  rw [←HW.out,←HG.out]
  refine (HR.out _ hb0).mono ?_
  rintro e w1 ⟨rfl,hb1⟩
  have hb2:=hb0.trans (hb1.mono hb0.size)
  clear hb1
  go_wp2
  go_returns
  exact ⟨rfl,hb2⟩
 obtain ⟨hcn,hl60,hsg⟩:=jah h1
 rw [h1] at HR
 by_cases hn4:4<n
 ·have hI:intC s l=false:=by
   unfold intC
   rw [h1,Bool.true_and,decide_eq_false]
   have hne:l≠[]:=fun e=>by rw [e] at hln;simp at hln;omega
   have h2:=hcn.ge hne
   have h3:=jbY (show 4≤l.length-1 by omega)
   have h4:pw 4=1208925819614629174706176:=by simp [pw]
   rcases hsg with ⟨h,-⟩|⟨-,rfl|rfl⟩
   ·exact absurd h hne
   ·unfold bval;omega
   ·unfold bval;omega
  have hd:decide (4<n)=true:=decide_eq_true hn4
  rw [jdt hI,hI]
  clear hI h1 hcn hl60 hsg hln
  go_enter Tryz.func126,Tryz.ntmps126
  go_wp2_with fail
  rw [←HW.out,←HG.out]
  refine (HR.out _ hb0).mono ?_
  rintro e w1 ⟨rfl,hb1⟩
  have hb2:=hb0.trans (hb1.mono hb0.size)
  have d0:=jaA hb1 c0
  have d1:=jaA hb1 c1
  clear hb1
  go_wp2
  go_returns
  exact ⟨rfl,hb2⟩
 have hd:decide (4<n)=false:=decide_eq_false hn4
 have hdg:=hcn.1.at hln
 have HV:=jpk (ja0 hln)
 clear hl60
 go_enter Tryz.func126,Tryz.ntmps126
 go_wp2_with fail
 rw [←HW.out,←HG.out]
 refine (HR.out _ hb0).mono ?_
 rintro e w1 ⟨rfl,hb1⟩
 have hb2:=hb0.trans (hb1.mono hb0.size)
 have d0:=jaA hb1 c0
 have d1:=jaA hb1 c1
 have hl1:=hl.up (jab _) hb2
 clear hb1 c0 c1
 go_wp2_with fail
 go_loopg [4,19] n (fun gk uv iv wr=>∃(k:Nat) (u:Int),iv=.int .i64 k∧uv=.int .u64 u∧u=vF (gi l) k∧k≤n∧gk=n-k∧(∀j,j<k→j=3→gi l j≤8)∧w1=wr)
 case atStart=>exact ⟨0,0,rfl,rfl,rfl,Nat.zero_le _,rfl,(fun j h=>absurd h ZO),rfl⟩
 case round =>
  obtain ⟨k,u,rfl,rfl,hu,hk,rfl,h8,rfl⟩:=hrel
  have Hu:=jpk hu;have H8:=jpk h8
  clear hu h8
  by_cases hlt:k<n
  ·obtain ⟨b,off,x,rfl,hb,hx,d2⟩:=hl1.atI hlt
   have hki:(k:Int)<(n:Int):=by omega
   have hk0:(0:Int)≤(k:Int):=by omega
   have hxd:=hdg k hlt
   rw [jaS hx] at hxd
   have Hx:=jpk (jaS hx)
   clear hx
   have hwk:IntKind.i64.wrap (20*(k:Int))=20*(k:Int):=IntWalk.i64_in _ ZO
   have hk0':(0:Int)≤20*(k:Int):=by omega
   have hwx:IntKind.u64.wrap x=x:=jej _ ZO ZO
   by_cases h8:k=3∧8<x
   ·have hd3:((k:Int)==3)=true:=by rw [h8.1];rfl
    have hd4:decide (8<x)=true:=decide_eq_true h8.2
    have hI:intC s l=false:=by
     unfold intC
     rw [h1,Bool.true_and,decide_eq_false]
     have hn4':n=4:=by omega
     have h5:=Hx.out
     rw [h8.1] at h5
     have h2:=HV.out
     rw [hn4',vF,h5] at h2
     have h3:=jaV (f:=gi l) (n:=3) (fun i hi=>hdg i ZO)
     have h4:pw 3=1152921504606846976:=by simp [pw]
     have h6:pw 3*9≤pw 3*x:=Int.mul_le_mul_of_nonneg_left ZO ZO
     have hne:l≠[]:=fun e=>by rw [e] at hln;simp at hln;omega
     rcases hsg with ⟨h,-⟩|⟨-,rfl|rfl⟩
     ·exact absurd h hne
     ·unfold bval;omega
     ·unfold bval;omega
    have HIc:=jpk hI;have HIv:=jpk (jdt hI)
    have HB:=jpk hb2
    clear h8 hI hsg hcn hb2 hln hdg h1
    exact ZQ81
   ·have hst:=jmA hdg hlt ZO Hx.out (fun e=>by omega)
    rw [←Hu.out] at hst
    have Hst:=jpk hst
    have H8':=jpk (show ∀j,j<k+1→j=3→gi l j≤8 from fun j hj e=>by
     by_cases e2:j=k
     ·subst e2;rw [Hx.out];omega
     ·exact H8.out j ZO e)
    clear hst
    have hbr:((k:Int)==3)=false∨(((k:Int)==3)=true∧decide (8<x)=false):=by
     by_cases e:k=3
     ·exact Or.inr ⟨by rw [e];rfl,decide_eq_false ZO⟩
     ·exact Or.inl (by simp;omega)
    clear h8
    rcases hbr with hd3|⟨hd3,hd4⟩
    ·exact ZQ122
    ·exact ZQ122
  ·have ee:k=n:=by omega
   subst ee
   have hv:=Hu.out.trans HV.out.symm
   have h0:=jas hcn.1
   have hbd:u<18446744073709551616:=by
    have h3:=jcz hdg
    by_cases e:k=4
    ·have h4:=HV.out
     have h8:=H8.out 3 ZO rfl
     rw [e,vF] at h4
     have h5:=jcz (f:=gi l) (n:=3) (fun i hi=>hdg i ZO)
     have h6:pw 3=1152921504606846976:=by simp [pw]
     have h7:pw 3*gi l 3≤pw 3*8:=Int.mul_le_mul_of_nonneg_left h8 ZO
     omega
    ·have h4:=jbY (show k≤3 by omega)
     have h6:pw 3=1152921504606846976:=by simp [pw]
     have:=HV.out
     omega
   rw [←hv] at h0
   have hbv:bval s l=s*u:=by unfold bval;rw [hv]
   have hI:intC s l=decide (-9223372036854775808≤s*u∧s*u≤9223372036854775807):=by unfold intC;rw [h1,Bool.true_and,hbv]
   have hV:intV s l=if intC s l=true then s*u else 0:=by unfold intV;rw [hbv]
   have HB:=jpk hb2
   have hs3:s=0∨s=1∨s= -1:=jcf h1
   have hu0:s=0→u=0:=fun e=>by
    rcases hsg with ⟨h,-⟩|⟨-,h⟩
    ·rw [hv,h];rfl
    ·omega
   clear hbv hv hb2 hsg hcn hln hdg h1 HV H8 Hu
   by_cases hneg:s<0
   ·have hs:s= -1:=by omega
    subst hs
    have hd5:decide ((-1:Int)<0)=true:=rfl
    by_cases hle:u≤9223372036854775808
    ·have hd6:decide (u≤9223372036854775808)=true:=decide_eq_true hle
     have hw6:IntKind.i64.wrap (IntKind.u64.wrap (-u))= -u:=by rw [IntKind.wrap_u64,IntKind.wrap_i64];omega
     rw [decide_eq_true ZO] at hI
     rw [hI,if_pos rfl,show (-1:Int)*u= -u by omega] at hV
     have HIc:=jpk hI;have HIv:=jpk hV
     clear hV hI hle hneg hu0 hs3
     exact ZQ81
    ·have hd6:decide (u≤9223372036854775808)=false:=decide_eq_false hle
     rw [decide_eq_false ZO] at hI
     rw [hI,if_neg Zb0] at hV
     have HIc:=jpk hI;have HIv:=jpk hV
     clear hV hI hle hneg hu0 hs3
     exact ZQ81
   ·have hd5:decide (s<0)=false:=decide_eq_false hneg
    have hd7:decide (0≤s)=true:=decide_eq_true ZO
    by_cases hle:u<9223372036854775808
    ·have hd6:decide (u<9223372036854775808)=true:=decide_eq_true hle
     have hw6:IntKind.i64.wrap u=u:=IntWalk.i64_in _ ZO
     have hsu:s*u=u:=by rcases hs3 with h|h|h;(rw [h,hu0 h];rfl);(rw [h];omega);omega
     rw [hsu,decide_eq_true ZO] at hI
     rw [hI,if_pos rfl,hsu] at hV
     have HIc:=jpk hI;have HIv:=jpk hV
     clear hV hsu hI hle hneg hu0 hs3
     exact ZQ81
    ·have hd6:decide (u<9223372036854775808)=false:=decide_eq_false hle
     have hsu:s*u=u:=by rcases hs3 with h|h|h;(have:=hu0 h;omega);(rw [h];omega);omega
     rw [hsu,decide_eq_false ZO] at hI
     rw [hI,if_neg Zb0] at hV
     have HIc:=jpk hI;have HIv:=jpk hV
     clear hV hsu hI hle hneg hu0 hs3
     exact ZQ81
theorem jbT {x y:Int} (hy:0<y):(Rat.divInt x y).num=x / (Int.gcd x y:Int)∧((Rat.divInt x y).den:Int)=y / (Int.gcd x y:Int):=by
 obtain ⟨d,rfl⟩:=Int.eq_ofNat_of_zero_le (Int.le_of_lt hy)
 have hd:d≠0:=by omega
 rw [Rat.divInt_ofNat,Rat.mkRat_def,dif_neg hd,Rat.normalize_eq]
 exact ⟨rfl,by show ((d / x.natAbs.gcd d:Nat):Int)=(d:Int) / ((x.natAbs.gcd d:Nat):Int);omega⟩
theorem jen {x y:Int} (hy:0<y) (hg:Int.gcd x y=1):(Rat.divInt x y).num=x∧((Rat.divInt x y).den:Int)=y:=by
 obtain ⟨h1,h2⟩:=jbT (x:=x) hy
 rw [h1,h2,hg]
 simp
theorem jbr (q:Rat):(0:Int)<q.den:=by have:=q.den_nz;omega
theorem jjz (q:Rat):Int.gcd q.num q.den=1:=q.reduced
theorem jbR (q:Rat):Rat.divInt q.num q.den=q:=Rat.num_divInt_den q
def jaF (q:Rat):Bool:=fits q.num&&fits q.den
def StdF (s:Int) (l:List Int) (t:Int) (m:List Int) (q:Rat):Prop:=Std s l q.num∧Std t m q.den
def jam (s:Int) (l:List Int) (t:Int) (m:List Int):Bool:=jae s l&&jae t m&&(decide (t=1)&&decide (Int.gcd (bval s l) (bval t m)=1))
def ratF (s:Int) (l:List Int) (t:Int) (m:List Int):Rat:=Rat.divInt (bval s l) (bval t m)
theorem jcQ {s t:Int} {l m:List Int}:jam s l t m=true↔jae s l=true∧jae t m=true∧t=1∧Int.gcd (bval s l) (bval t m)=1:=by
 unfold jam
 simp [and_assoc]
theorem jdy {t:Int} {m:List Int} (h:jae t m=true) (h1:t=1):0<bval t m:=by
 obtain ⟨hc,-,hs⟩:=jah h
 rcases hs with ⟨-,h2⟩|⟨h2,-⟩
 ·omega
 ·have:=hc.pos h2
  unfold bval;rw [h1];omega
theorem jay {s t:Int} {l m:List Int} (h:jam s l t m=true):StdF s l t m (ratF s l t m)∧jaF (ratF s l t m)=true:=by
 obtain ⟨h1,h2,h3,h4⟩:=jcQ.1 h
 obtain ⟨e1,e2⟩:=jen (jdy h2 h3) h4
 unfold StdF jaF ratF
 rw [e1,e2]
 exact ⟨⟨Std.of_right h1,Std.of_right h2⟩,by rw [jaU h1,jaU h2];rfl⟩
theorem StdF.rat {s t:Int} {l m:List Int} {q:Rat} (h:StdF s l t m q):ratF s l t m=q:=by
 unfold ratF
 rw [h.1.val,h.2.val,jbR]
theorem StdF.right {s t:Int} {l m:List Int} {q:Rat} (h:StdF s l t m q) (hf:jaF q=true):jam s l t m=true:=by
 unfold jaF at hf
 rw [Bool.and_eq_true] at hf
 refine jcQ.2 ⟨h.1.right hf.1,h.2.right hf.2,?_,?_⟩
 ·rw [h.2.1]
  have:=jbr q
  unfold sgI
  rw [if_neg ZO,if_neg ZO]
 ·rw [h.1.val,h.2.val,jjz]
def OptF (s:Int) (l:List Int) (t:Int) (m:List Int):Option Rat→Prop
 | some q=>StdF s l t m q
 | none=>s=0∧l=[]∧t=0∧m=[]
def FrE (w:World) (o:Option Rat) (c:Int) (e:Ending) (w':World):Prop :=
 ∃s A n cap l t A' n' cap' m,e=.returned (.tuple #[.agg #[.int .i64 s,.slice A n cap,.int .i64 t,.slice A' n' cap'],.int .i64 c])∧(RdI w' w'.heap.size A n cap l∧RdI w' w'.heap.size A' n' cap' m)∧OptF s l t m o∧(FrA w.heap.size A∧FrA w.heap.size A')∧Below w.heap.size w w'
def newO (ok:Bool) (x y:Int):Option Rat:=if ok=true∧y≠0 then some (Rat.divInt x y) else none
def newE (ok:Bool) (y:Int):Int:=if ok=false then 1 else if y=0 then 15 else 0
theorem jfh {x y:Int}:newO false x y=none:=by unfold newO;rw [if_neg Zb0]
theorem jfg {y:Int}:newE false y=1:=by unfold newE;rw [if_pos rfl]
theorem jfT {b:Bool} {x:Int}:newO b x 0=none:=by unfold newO;rw [if_neg Zb0]
theorem jfS:newE true 0=15:=by unfold newE;rw [if_neg Zb0,if_pos rfl]
theorem jbk {x y:Int} (h:y≠0):newO true x y=some (Rat.divInt x y):=by unfold newO;rw [if_pos ⟨rfl,h⟩]
theorem jbj {y:Int} (h:y≠0):newE true y=0:=by unfold newE;rw [if_neg Zb0,if_neg h]
theorem jdq {x y:Int} (h:fits x=true) (hy:y.natAbs≤x.natAbs):fits y=true:=by
 have:=jbU.1 h
 exact jbU.2 ZO
theorem jbV {x:Int} (h:fits x=true):fits (-x)=true:=jdq h ZO
theorem je9 {x y:Int} (hy:0<y):fq x (Int.gcd x y:Int)=(Rat.divInt x y).num∧fq y (Int.gcd x y:Int)=((Rat.divInt x y).den:Int):=by
 have hg:(0:Int)<(Int.gcd x y:Int):=by
  have:=Int.gcd_pos_of_ne_zero_right x (show y≠0 by omega)
  omega
 obtain ⟨h1,h2⟩:=jbT (x:=x) hy
 rw [h1,h2,(jfG hg).1,(jfG hg).1]
 exact ⟨rfl,rfl⟩
theorem jcb {x y:Int} (hy:0<y) (h1:fits x=true) (h2:fits y=true):jaF (Rat.divInt x y)=true:=by
 obtain ⟨e1,e2⟩:=jbT (x:=x) hy
 unfold jaF
 rw [e1,e2,Bool.and_eq_true]
 have hg:0<Int.gcd x y:=Int.gcd_pos_of_ne_zero_right x (show y≠0 by omega)
 exact ⟨jdq h1 (by rw [Int.natAbs_ediv_of_dvd (Int.gcd_dvd_left ..)];exact Nat.div_le_self _ _),jdq h2 (by rw [Int.natAbs_ediv_of_dvd (Int.gcd_dvd_right ..)];exact Nat.div_le_self _ _)⟩
theorem jcn {z:Int} {k:Nat} (h:(z.natAbs:Int)<pw k) (hk:k≤60):fits z=true:=jbU.2 (by have:=jbY hk;omega)
theorem jbQ {x y:Int} {j k:Nat} (hx:(x.natAbs:Int)<pw j) (hy:(y.natAbs:Int)<pw k):((x*y).natAbs:Int)<pw (j+k):=by
 rw [Int.natAbs_mul,jd7]
 have h1:(0:Int)≤x.natAbs:=by omega
 have h2:(0:Int)≤y.natAbs:=by omega
 have h3:=Int.mul_le_mul_of_nonneg_left (show (y.natAbs:Int)≤pw k by omega) h1
 have h4:=Int.mul_lt_mul_of_pos_right hx (jaX k)
 rw [Int.natCast_mul]
 omega
end Go.Proofs.YtgikfcjndiohjaaGreat
