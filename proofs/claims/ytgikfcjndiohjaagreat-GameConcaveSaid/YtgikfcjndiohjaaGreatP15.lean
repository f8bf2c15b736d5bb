/- Laws and walks; conditions stand in each theorem. -/
import Derived.BigRegion
import Derived.Maps.RangeWalk
import Derived.Test.YtgikfcjndiohjaaGreatP14
set_option linter.unusedSimpArgs false
set_option linter.unusedVariables false
set_option maxHeartbeats 1000000
set_option maxRecDepth 100000
namespace Go.Proofs.YtgikfcjndiohjaaGreat
open Go.RowKit
theorem jjP {x y:Rat} (h:mulK x y=true):jaF (x*y)=true:=by
 unfold mulK at h
 rw [Bool.and_eq_true] at h
 rw [←jfp]
 exact jcb (jba x y) h.1 h.2
theorem jh8 {x y:Rat} (h:divK x y=true) (hy:y≠0):jaF (x / y)=true:=by
 unfold divK at h
 rw [Bool.and_eq_true] at h
 rw [←jj7]
 have h0:y.num≠0:=fun e=>hy (Rat.num_eq_zero.1 e)
 by_cases hp:0<y.num
 ·exact jcb (Int.mul_pos (jbr x) hp) h.1 h.2
 ·rw [←Rat.neg_divInt_neg]
  exact jcb (by have:=Int.mul_pos (jbr x) (show 0< -y.num by omega);rw [Int.mul_neg] at this;exact this) (by rw [jbV];exact h.1) (by rw [jbV];exact h.2)
def jhs (x y:Rat):Option Rat:=if divK x y=true then some (x / y) else none
def jhr (x y:Rat):Int:=if divK x y=true then 0 else 6
def jfQ (x y:Rat):Option Rat:=if mulK x y=true then some (x*y) else none
def jfP (x y:Rat):Int:=if mulK x y=true then 0 else 6
def jhF (x:Rat):Option Rat→Option Rat
 | none=>none
 | some y=>if addK x (-y)=true then some (x-y) else none
def jhD (x:Rat):Option Rat→Int
 | none=>1
 | some y=>if addK x (-y)=true then 0 else 6
theorem OptF.zero {s:Int} {l:List Int} {t:Int} {m:List Int} (h:OptF s l t m none):jam s l t m=false:=by
 obtain ⟨rfl,rfl,rfl,rfl⟩:=h
 decide +kernel
section
variable (x y:Rat) (s1 t1 s2 t2:Int) (A1 B1 A2 B2:Option Addr) (n1 c1 m1 d1 n2 c2 m2 d2:Nat) (l1 k1 l2 k2:List Int) (w:World) (r1:RdI w w.heap.size A1 n1 c1 l1) (q1:RdI w w.heap.size B1 m1 d1 k1) (r2:RdI w w.heap.size A2 n2 c2 l2) (q2:RdI w w.heap.size B2 m2 d2 k2)
variable (h1:StdF s1 l1 t1 k1 x) (f1:jaF x=true)
include r1 q1 r2 q2 h1 f1
theorem qDiv (h2:StdF s2 l2 t2 k2 y) (f2:jaF y=true) (hy:y≠0):Calls Tryz.prog 133 #[.agg #[.int .i64 s1,.slice A1 n1 c1,.int .i64 t1,.slice B1 m1 d1],.agg #[.int .i64 s2,.slice A2 n2 c2,.int .i64 t2,.slice B2 m2 d2]] w (FrE w (jhs x y) (jhr x y)):=by
 have h:=jmb s1 t1 s2 t2 A1 B1 A2 B2 n1 c1 m1 d1 n2 c2 m2 d2 l1 k1 l2 k2 w r1 q1 r2 q2
 rw [h1.right f1,h2.right f2,h1.rat,h2.rat] at h
 have e1:divO (true&&true) x y=jhs x y:=by
  unfold divO jhs binO
  rw [if_neg hy]
  simp
 have e2:divE (true&&true) x y=jhr x y:=by
  unfold divE jhr binE
  rw [if_neg (fun h=>hy h.2)]
  simp
 rw [e1,e2] at h
 exact h
theorem qMul (h2:StdF s2 l2 t2 k2 y) (f2:jaF y=true):Calls Tryz.prog 123 #[.agg #[.int .i64 s1,.slice A1 n1 c1,.int .i64 t1,.slice B1 m1 d1],.agg #[.int .i64 s2,.slice A2 n2 c2,.int .i64 t2,.slice B2 m2 d2]] w (FrE w (jfQ x y) (jfP x y)):=by
 have h:=jmc s1 t1 s2 t2 A1 B1 A2 B2 n1 c1 m1 d1 n2 c2 m2 d2 l1 k1 l2 k2 w r1 q1 r2 q2
 rw [h1.right f1,h2.right f2,h1.rat,h2.rat] at h
 have e1:binO (true&&true) (mulK x y) (x*y)=jfQ x y:=by
  unfold jfQ binO
  simp
 have e2:binE (true&&true) (mulK x y)=jfP x y:=by
  unfold jfP binE
  simp
 rw [e1,e2] at h
 exact h
theorem qSub (o:Option Rat) (h2:OptF s2 l2 t2 k2 o) (f2:∀z,o=some z→jaF z=true):Calls Tryz.prog 31 #[.agg #[.int .i64 s1,.slice A1 n1 c1,.int .i64 t1,.slice B1 m1 d1],.agg #[.int .i64 s2,.slice A2 n2 c2,.int .i64 t2,.slice B2 m2 d2]] w (FrE w (jhF x o) (jhD x o)):=by
 have h:=jme s1 t1 s2 t2 A1 B1 A2 B2 n1 c1 m1 d1 n2 c2 m2 d2 l1 k1 l2 k2 w r1 q1 r2 q2
 cases o with
 | none =>
  rw [h1.right f1,h2.zero,Bool.and_false,jbH,jbG] at h
  exact h
 | some z =>
  have h2:StdF s2 l2 t2 k2 z:=h2
  rw [h1.right f1,h2.right (f2 z rfl),h1.rat,h2.rat] at h
  have e1:binO (true&&true) (addK x (-z)) (x-z)=jhF x (some z):=by
   unfold jhF binO
   simp
  have e2:binE (true&&true) (addK x (-z))=jhD x (some z):=by
   unfold jhD binE
   simp
  rw [e1,e2] at h
  exact h
end
theorem jhE (x y:Rat):jhD x (some y)=if addK x (-y)=true then 0 else 6:=rfl
theorem jhG (x y:Rat):jhF x (some y)=if addK x (-y)=true then some (x-y) else none:=rfl
def jaP (a f q:Rat):Bool:=mulK f q&&addK a (-(f*q))
theorem St.thaw {w W:World} {L:List Blk} {D:List Hl} {g:Nat} {cs:Array Value} {t:TypeId} (K:St w L D W) (hb:((g,cs,t):Blk)∈L):∀j,W.frozen? ⟨g,j,none⟩=false:=fun j=>(K.blk hb).thaw
theorem St.setR {w W:World} {L L':List Blk} {D:List Hl} {n i g:Nat} {v:Nat→Rw} {t:TypeId} {J:List Value} (h:St w L D W) (x:Rw) (hi:i<n) (hU:Upd g (rwA n v J) t (rwA n (putF v i x) J) L L') :
 St w L' D ((((W.setCell ⟨g,i*4,none⟩ (.int .i64 x.s)).setCell ⟨g,i*4+1,none⟩ (.slice x.A x.n x.c)).setCell ⟨g,i*4+2,none⟩ (.int .i64 x.t)).setCell ⟨g,i*4+3,none⟩ (.slice x.B x.m x.d)):=by
 refine h.upd hU ((((jbv.set W g _ _).trans (jbv.set _ g _ _)).trans (jbv.set _ g _ _)).trans (jbv.set _ g _ _)) ?_
 rw [←jkg hi x]
 exact ((((h.blk hU.mem).set (j:=i*4) (.int .i64 x.s)).set (j:=i*4+1) (.slice x.A x.n x.c)).set (j:=i*4+2) (.int .i64 x.t)).set (j:=i*4+3) (.slice x.B x.m x.d)
def Mm.wV (M:Mm) (V:Nat→Nat→Rw):Mm:={ M with V:=V }
def put2 (V:Nat→Nat→Rw) (r k:Nat) (x:Rw):Nat→Nat→Rw:=putF V r (putF (V r) k x)
theorem jfm (V:Nat→Nat→Rw) (r k:Nat) (x:Rw):put2 V r k x r k=x:=by unfold put2;rw [jaf,jaf]
theorem jc2 (V:Nat→Nat→Rw) {r k i j:Nat} (x:Rw) (h:¬(i=r∧j=k)):put2 V r k x i j=V i j:=by
 unfold put2
 by_cases e:i=r
 ·subst e
  rw [jaf,jad (fun e=>h ⟨rfl,e⟩)]
 ·rw [jad e]
section
variable {w W W':World} {L L' L0:List Blk} {D:List Hl} {M:Mm} {n r k:Nat} {V:Nat→Nat→Rw}
theorem Mm.memV (hr:r<n):((M.rb r,rwA M.N (V r) (M.J r),29):Blk)∈(M.wV V).rows n++L0:=Mm.mem (M:=M.wV V) hr
theorem Mm.updV (hr:r<n) (x:Rw):Upd (M.rb r) (rwA M.N (V r) (M.J r)) 29 (rwA M.N (putF (V r) k x) (M.J r)) ((M.wV V).rows n++L0) ((M.wV (put2 V r k x)).rows n++L0):=Mm.upd (M:=M.wV V) hr x
theorem St.cellV (h:St w L D W) (hk:k<M.N) (hb:((M.rb r,rwA M.N (V r) (M.J r),29):Blk)∈L):W.cell? ⟨M.rb r,k*4,none⟩=some (.int .i64 (V r k).s)∧W.cell? ⟨M.rb r,k*4+1,none⟩=some (.slice (V r k).A (V r k).n (V r k).c)∧W.cell? ⟨M.rb r,k*4+2,none⟩=some (.int .i64 (V r k).t)∧W.cell? ⟨M.rb r,k*4+3,none⟩=some (.slice (V r k).B (V r k).m (V r k).d):=by
 have hB:=h.blk hb
 exact ⟨hB.cell (jaW (j:=0) hk ZO),hB.cell (jaW (j:=1) hk ZO),hB.cell (jaW (j:=2) hk ZO),hB.cell (jaW (j:=3) hk ZO)⟩
theorem St.famRdV (K:St w L D W) (hm:(M.wV V).fam n∈D) {i j:Nat} (hi:i<n) (hj:j<M.N):St w L (⟨rdP (V i j).B (V i j).m (V i j).d (V i j).k,rdS (V i j).B (V i j).m⟩::⟨rdP (V i j).A (V i j).n (V i j).c (V i j).l,rdS (V i j).A (V i j).n⟩::D) W:=St.famRd (M:=M.wV V) K hm hi hj
theorem St.famPutV (K:St w L D W) (hm:(M.wV V).fam n∈D) (x:Rw) (m2:(⟨rdP x.A x.n x.c x.l,rdS x.A x.n⟩:Hl)∈D) (m3:(⟨rdP x.B x.m x.d x.k,rdS x.B x.m⟩:Hl)∈D) (r k:Nat):St w L ((M.wV (put2 V r k x)).fam n::D) W:=St.famPut (M:=M.wV V) K hm x m2 m3 r k
end
theorem jka {w:World} {B:Nat} {A:Option Addr} {n cap:Nat} {l:List Fv} (h:RdF w B A n cap l):∃v:Nat→Rw,Rd 4 (flat Rw.cs) w B A n cap (ofF n v)∧(∀i,i<n→RdI w B (v i).A (v i).n (v i).c (v i).l∧RdI w B (v i).B (v i).m (v i).d (v i).k)∧∀i,i<n→l[i]?=some (v i).fv:=by
 by_cases hn:n=0
 ·subst hn
  exact ⟨fun _=>Rw.zero,⟨rfl,h.2.1,h.2.2.1,fun h=>absurd h ZO⟩,fun i hi=>absurd hi ZO,fun i hi=>absurd hi ZO⟩
 ·obtain ⟨b,off,rfl,hb,hc⟩:=h.2.2.2 ZO
  have hl:=h.1
  have ex:∀k,k<n→∃x:Rw,l[k]?=some x.fv∧(∀(j:Nat) u,x.cs[j]?=some u→w.cell? ⟨b,off+k*4+j,none⟩=some u)∧RdI w B x.A x.n x.c x.l∧RdI w B x.B x.m x.d x.k:=fun k hk=>by
   obtain ⟨cs,⟨A1,n1,c1,A2,n2,c2,rfl,h1,h2⟩,_,hj⟩:=hc k ZO
   exact ⟨⟨l[k].s,A1,n1,c1,l[k].l,l[k].t,A2,n2,c2,l[k].m⟩,by rw [List.getElem?_eq_getElem ZO];rfl,hj,h1,h2⟩
  obtain ⟨v,hv⟩:∃v:Nat→Rw,∀k,(hk:k<n)→v k=Classical.choose (ex k hk):=⟨fun k=>if hk:k<n then Classical.choose (ex k hk) else Rw.zero,fun k hk=>dif_pos hk⟩
  have hs:∀k,k<n→l[k]?=some (v k).fv∧(∀(j:Nat) u,(v k).cs[j]?=some u→w.cell? ⟨b,off+k*4+j,none⟩=some u)∧RdI w B (v k).A (v k).n (v k).c (v k).l∧RdI w B (v k).B (v k).m (v k).d (v k).k:=fun k hk=>by
   rw [hv k hk]
   exact Classical.choose_spec (ex k hk)
  refine ⟨v,⟨jag,h.2.1,h.2.2.1,fun _=>⟨b,off,rfl,hb,fun k hk=>?_⟩⟩,fun i hi=>(hs i hi).2.2,fun i hi=>(hs i hi).1⟩
  rw [jag] at hk
  refine ⟨(v k).cs,?_,rfl,(hs k hk).2.1⟩
  have e:(ofF n v)[k]'(by rw [jag];exact hk)=v k:=by
   have:=jaJ (f:=v) hk
   exact ZQ41
  rw [e]
  rfl
theorem jht:∃i z,Tryz.prog.info? 29=some i∧i.zero=some z∧i.size=4∧i.bytes=64∧z.cells.size=4:=by
 obtain ⟨i,h1,h2⟩:=Option.map_eq_some_iff.1 jbF
 simp only [Prod.mk.injEq] at h2
 obtain ⟨h2,h3,h4⟩:=h2
 obtain ⟨z,h5,h6⟩:=Option.map_eq_some_iff.1 h2
 exact ⟨i,z,h1,h5,h3,h4,by rw [h6];rfl⟩
theorem jez (A:Option Addr) (n cap:Nat) (v:Nat→Rw) (w0 w:World) (L:List Blk) (D:List Hl) (K:St w0 L D w) (hl:Rd 4 (flat Rw.cs) w w.heap.size A n cap (ofF n v)) (hn2:n≤1000) :
 Calls Tryz.prog 106 #[.slice A n cap] w fun e w'=>∃val X,e=.returned val∧OwL 4 Rw.cs 29 val (ofF n v) X∧St w0 (X++L) D w':=by
 obtain ⟨i0,z0,hi0,hz0,hz1,hz2,hz3⟩:=jht
 have ho0:Own 4 Rw.cs (w.alloc (.cells #[] 29)) w.heap.size 29 (.slice (some ⟨w.heap.size,0,none⟩) 0 0) ([]:List Rw):=Own.lit ja4 (Nat.le_refl _) [] #[] rfl rfl ZO
 have hb0:=(Below.refl w.heap.size w).alloc (Nat.le_refl _) (.cells #[] 29)
 have HK:=jpk K
 cases A with
 | none =>
  have hn0:n=0:=by
   rcases Nat.eq_zero_or_pos n with h|h
   ·exact h
   ·obtain ⟨b,off,h,_⟩:=hl.2.2.2 h;cases h
  subst hn0
  have hnil:=fun w=>run_eql_slice_nil (P:=Tryz.prog) w 25 29 none 0 cap Tryz.underlying25
  clear ho0 hb0 hl K
  go_enter Tryz.func106,Tryz.ntmps106
  go_wp2
  go_ret
  exact ⟨_,[],rfl,OwL.nil,HK.out⟩
 | some a =>
  have hnil:=fun w=>run_eql_slice_nil (P:=Tryz.prog) w 25 29 (some a) n cap Tryz.underlying25
  have hk0:=(Kept.refl (fun b=>(Value.slice none 0 0).ownBlock=some b) w).alloc (.cells #[] 29)
  clear K
  go_enter Tryz.func106,Tryz.ntmps106
  go_wp2_with (at_builtin
               refine jbN _ ja4 rfl _ _ 25 rfl w.heap.size 29 i0 _ 64 Tryz.underlying25 hi0 hz0 hz1 hz2 hz3 _ [] rfl ho0 _ _ n cap (ofF n v) rfl (hl.up (jab _) hb0) (by simp only [maxLen,List.length_nil];omega) (by simp only [List.length_nil];omega) Zb0 ?_
               intro v4 w4 ho4 hg4 hx4
               have hb4:Below w.heap.size w w4:=Own.grow ho0 (Nat.le_refl _) hb0 Zb0 hg4)
  go_ret
  rw [List.nil_append] at ho4
  have hk4:Kept (fun b=>(Value.slice none 0 0).ownBlock=some b) w w4:=⟨hb4.os,hb4.tape,hb4.output,hb4.size,fun i hi _=>hb4.block i hi⟩
  obtain ⟨X',hX,hK'⟩:=OwL.of (X:=[]) ja4 OwL.nil HK.out (ho4.mono HK.out.1.size) hk4 (fun g hg=>Or.inr (by
   rcases ho4.2 with ⟨rfl,-⟩|⟨g',cap',cur,rfl,hg',-⟩
   ·cases hg
   ·have e:some g'=some g:=hg
    injection e with e
    rw [←e];exact hg'))
  exact ⟨_,X',rfl,hX,hK'⟩
theorem ja3:(Tryz.prog.info? 97).map (fun i=>i.zero.map (·.cells))=some (some #[.slice none 0 0,.int .i64 0,.slice none 0 0,.int .i64 0,.slice none 0 0]):=by kernel_rfl
theorem ja2:(Tryz.prog.info? 97).map (·.size)=some 5:=by kernel_rfl
theorem jha (s t:Int) (A B:Option Addr) (n c m d:Nat) (W:World):(Instr.buildSlice 25 1 #[(0,.agg #[.int .i64 s,.slice A n c,.int .i64 t,.slice B m d])]).run Tryz.prog W=.ok (.slice (some ⟨W.heap.size,0,none⟩) 1 1) (W.alloc (.cells #[.int .i64 s,.slice A n c,.int .i64 t,.slice B m d] 29)):=by kernel_rfl
section
variable {w W W':World} {L L' A B X:List Blk} {D:List Hl}
theorem St.mid {x:Blk} (K:St w (x::(A++B)) D W):St w (A++(x::B)) D W:=K.perm List.perm_middle
theorem St.cutm {x:Blk} (K:St w (A++(x::B)) D W):St w (A++B) D W:=K.part (List.Sublist.append_left (List.sublist_cons_self _ _) _)
end
theorem OwL.shapeL {α:Type} {sz:Nat} {enc:α→List Value} {e:TypeId} {v:Value} {l:List α} {X:List Blk} (h:OwL sz enc e v l X):∃A c,v=.slice A l.length c:=by
 rcases h with ⟨rfl,rfl,_⟩|⟨g,cap,J,rfl,_⟩
 ·exact ⟨_,_,rfl⟩
 ·exact ⟨_,_,rfl⟩
structure Dc where
 v:Nat→Rat
 a:Nat→Nat→Rat
 c:Nat→Rat
 own:Nat→Nat
 free:Nat→Nat
def Dc.xch (D:Dc) (r s:Nat):Dc :=
 ⟨fun i=>if i=r then D.v r / D.a r s else D.v i-D.a i s*(D.v r / D.a r s),
  fun i j=>if i=r then (if j=s then 1 / D.a r s else D.a r j / D.a r s) else (if j=s then 0-D.a i s*(1 / D.a r s) else D.a i j-D.a i s*(D.a r j / D.a r s)),
  fun j=>if j=s then 0-D.c s*(1 / D.a r s) else D.c j-D.c s*(D.a r j / D.a r s),
  fun i=>if i=r then D.free s else D.own i,
  fun j=>if j=s then D.own r else D.free j⟩
structure Dc.Ok (m n:Nat) (D:Dc):Prop where
 lo:∀i,i<m→D.own i<n+m
 lf:∀j,j<n→D.free j<n+m
 io:∀i k,i<m→k<m→D.own i=D.own k→i=k
 jf:∀j k,j<n→k<n→D.free j=D.free k→j=k
 ne:∀i j,i<m→j<n→D.own i≠D.free j
 all:∀u,u<n+m→(∃i,i<m∧D.own i=u)∨(∃j,j<n∧D.free j=u)
theorem Dc.Ok.xch {m n r s:Nat} {D:Dc} (h:D.Ok m n) (hr:r<m) (hs:s<n):(D.xch r s).Ok m n:=by
 refine ⟨fun i hi=>?_,fun j hj=>?_,fun i k hi hk e=>?_,fun j k hj hk e=>?_,fun i j hi hj e=>?_,fun u hu=>?_⟩
 ·show (if i=r then D.free s else D.own i)<n+m
  split
  ·exact h.lf s hs
  ·exact h.lo i hi
 ·show (if j=s then D.own r else D.free j)<n+m
  split
  ·exact h.lo r hr
  ·exact h.lf j hj
 ·change (if i=r then D.free s else D.own i)=(if k=r then D.free s else D.own k) at e
  by_cases e1:i=r
  ·by_cases e2:k=r
   ·omega
   ·rw [if_pos e1,if_neg e2] at e
    exact absurd e.symm (h.ne k s hk hs)
  ·by_cases e2:k=r
   ·rw [if_neg e1,if_pos e2] at e
    exact absurd e (h.ne i s hi hs)
   ·rw [if_neg e1,if_neg e2] at e
    exact h.io i k hi hk e
 ·change (if j=s then D.own r else D.free j)=(if k=s then D.own r else D.free k) at e
  by_cases e1:j=s
  ·by_cases e2:k=s
   ·omega
   ·rw [if_pos e1,if_neg e2] at e
    exact absurd e (h.ne r k hr hk)
  ·by_cases e2:k=s
   ·rw [if_neg e1,if_pos e2] at e
    exact absurd e.symm (h.ne r j hr hj)
   ·rw [if_neg e1,if_neg e2] at e
    exact h.jf j k hj hk e
 ·change (if i=r then D.free s else D.own i)=(if j=s then D.own r else D.free j) at e
  by_cases e1:i=r
  ·by_cases e2:j=s
   ·rw [if_pos e1,if_pos e2] at e
    exact absurd e.symm (h.ne r s hr hs)
   ·rw [if_pos e1,if_neg e2] at e
    exact e2 (h.jf j s hj hs e.symm)
  ·by_cases e2:j=s
   ·rw [if_neg e1,if_pos e2] at e
    exact e1 (h.io i r hi hr e)
   ·rw [if_neg e1,if_neg e2] at e
    exact h.ne i j hi hj e
 ·rcases h.all u hu with ⟨i,hi,e⟩|⟨j,hj,e⟩
  ·by_cases e1:i=r
   ·exact Or.inr ⟨s,hs,by show (if s=s then D.own r else D.free s)=u;rw [if_pos rfl,←e1];exact e⟩
   ·exact Or.inl ⟨i,hi,by show (if i=r then D.free s else D.own i)=u;rw [if_neg e1];exact e⟩
  ·by_cases e1:j=s
   ·exact Or.inl ⟨r,hr,by show (if r=r then D.free s else D.own r)=u;rw [if_pos rfl,←e1];exact e⟩
   ·exact Or.inr ⟨j,hj,by show (if j=s then D.own r else D.free j)=u;rw [if_neg e1];exact e⟩
def Dc.on (m n:Nat) (D:Dc) (x:Nat→Rat) (f:Rat):Prop:=∀i,i<m→x (D.own i)=D.v i*f-smQ (fun j=>D.a i j*x (D.free j)) n
def Dc.gol (n:Nat) (D:Dc) (x:Nat→Rat):Rat:=smQ (fun j=>D.c j*x (D.free j)) n
theorem ja6 (t:Rat) (f:Nat→Rat):∀n:Nat,smQ (fun i=>f i*t) n=smQ f n*t
 | 0=>by rw [smQ,smQ];grind
 | n+1=>by rw [smQ,smQ,ja6 t f n];grind
theorem jgY {n s:Nat} (hs:s<n) (l b y:Nat→Rat) (p Y:Rat) (hp:b s=p) (h0:p≠0) :
 smQ (fun j=>(if j=s then 0-l s*(1 / p) else l j-l s*(b j / p))*(if j=s then Y else y j)) n=smQ (fun j=>l j*y j) n-l s / p*(smQ (fun j=>b j*y j) n+Y):=by
 have e1:smQ (fun j=>(l j-l s*(b j / p))*y j) n=smQ (fun j=>l j*y j) n-l s / p*smQ (fun j=>b j*y j) n:=by
  have e2:smQ (fun j=>(l j-l s*(b j / p))*y j) n=smQ (fun j=>l j*y j-(b j*y j)*(l s / p)) n:=jaj fun j _=>by grind
  rw [e2,jec,ja6]
  grind
 rw [jc3 (f:=fun j=>(l j-l s*(b j / p))*y j) (b:=s) (c:= - (l s / p)*Y) hs (by
  rw [if_pos rfl,if_pos rfl,hp]
  grind) (fun i _ hne=>by rw [if_neg hne,if_neg hne]),e1]
 grind
theorem line_r {n s:Nat} (hs:s<n) (b y:Nat→Rat) (p Y:Rat) (hp:b s=p) (h0:p≠0) :
 smQ (fun j=>(if j=s then 1 / p else b j / p)*(if j=s then Y else y j)) n=(smQ (fun j=>b j*y j) n+Y) / p-y s:=by
 have e1:smQ (fun j=>b j / p*y j) n=smQ (fun j=>b j*y j) n / p:=by
  have e2:smQ (fun j=>b j / p*y j) n=smQ (fun j=>(b j*y j)*(1 / p)) n:=jaj fun j _=>by grind
  rw [e2,ja6]
  grind
 rw [jc3 (f:=fun j=>b j / p*y j) (b:=s) (c:=Y / p-y s) hs (by
  rw [if_pos rfl,if_pos rfl,hp]
  grind) (fun i _ hne=>by rw [if_neg hne,if_neg hne]),e1]
 grind
theorem Dc.on_xch {m n r s:Nat} {D:Dc} (hr:r<m) (hs:s<n) (h0:D.a r s≠0) (x:Nat→Rat) (f:Rat):(D.xch r s).on m n x f↔D.on m n x f:=by
 have eR:smQ (fun j=>(D.xch r s).a r j*x ((D.xch r s).free j)) n=(smQ (fun j=>D.a r j*x (D.free j)) n+x (D.own r)) / D.a r s-x (D.free s):=by
  rw [←line_r hs (fun j=>D.a r j) (fun j=>x (D.free j)) (D.a r s) (x (D.own r)) rfl h0]
  refine jaj fun j _=>?_
  show (if r=r then (if j=s then 1 / D.a r s else D.a r j / D.a r s) else _)*x (if j=s then D.own r else D.free j)=_
  rw [if_pos rfl,apply_ite x]
 have eI:∀i,i≠r→smQ (fun j=>(D.xch r s).a i j*x ((D.xch r s).free j)) n=smQ (fun j=>D.a i j*x (D.free j)) n-D.a i s / D.a r s*(smQ (fun j=>D.a r j*x (D.free j)) n+x (D.own r)):=fun i hi=>by
  rw [←jgY hs (fun j=>D.a i j) (fun j=>D.a r j) (fun j=>x (D.free j)) (D.a r s) (x (D.own r)) rfl h0]
  refine jaj fun j _=>?_
  show (if i=r then _ else (if j=s then 0-D.a i s*(1 / D.a r s) else D.a i j-D.a i s*(D.a r j / D.a r s)))*x (if j=s then D.own r else D.free j)=_
  rw [if_neg hi,apply_ite x]
 have oR:(D.xch r s).own r=D.free s:=if_pos rfl
 have oI:∀i,i≠r→(D.xch r s).own i=D.own i:=fun i hi=>if_neg hi
 have vR:(D.xch r s).v r=D.v r / D.a r s:=if_pos rfl
 have vI:∀i,i≠r→(D.xch r s).v i=D.v i-D.a i s*(D.v r / D.a r s):=fun i hi=>if_neg hi
 constructor
 ·intro h i hi
  have h1:=h r hr
  rw [oR,vR,eR] at h1
  have h2:x (D.own r)=D.v r*f-smQ (fun j=>D.a r j*x (D.free j)) n:=by grind
  by_cases e:i=r
  ·rw [e];exact h2
  ·have h3:=h i hi
   rw [oI i e,vI i e,eI i e] at h3
   grind
 ·intro h i hi
  have h2:=h r hr
  by_cases e:i=r
  ·rw [e,oR,vR,eR]
   grind
  ·have h3:=h i hi
   rw [oI i e,vI i e,eI i e]
   grind
theorem Dc.gol_xch {m n r s:Nat} {D:Dc} (hr:r<m) (hs:s<n) (h0:D.a r s≠0) {x:Nat→Rat} {f:Rat} (h:D.on m n x f):D.gol n x=(D.xch r s).gol n x+D.c s*(D.v r / D.a r s)*f:=by
 have e:(D.xch r s).gol n x=smQ (fun j=>D.c j*x (D.free j)) n-D.c s / D.a r s*(smQ (fun j=>D.a r j*x (D.free j)) n+x (D.own r)):=by
  rw [←jgY hs (fun j=>D.c j) (fun j=>D.a r j) (fun j=>x (D.free j)) (D.a r s) (x (D.own r)) rfl h0]
  refine jaj fun j _=>?_
  show (if j=s then 0-D.c s*(1 / D.a r s) else D.c j-D.c s*(D.a r j / D.a r s))*x (if j=s then D.own r else D.free j)=_
  rw [apply_ite x]
 have h1:=h r hr
 unfold Dc.gol at e ⊢
 rw [e]
 grind
structure Dc.Like (m n:Nat) (D D':Dc):Prop where
 on:∀x f,D.on m n x f↔D'.on m n x f
 gol:∃κ:Rat,∀x f,D.on m n x f→D.gol n x=D'.gol n x+κ*f
theorem Dc.Like.refl (m n:Nat) (D:Dc):D.Like m n D:=⟨fun _ _=>Iff.rfl,0,fun x f _=>by grind⟩
theorem Dc.Like.trans {m n:Nat} {D D' D'':Dc} (h:D.Like m n D') (h':D'.Like m n D''):D.Like m n D'':=by
 obtain ⟨k,hk⟩:=h.gol
 obtain ⟨k',hk'⟩:=h'.gol
 exact ⟨fun x f=>(h.on x f).trans (h'.on x f),k+k',fun x f hx=>by
  rw [hk x f hx,hk' x f ((h.on x f).1 hx)]
  grind⟩
theorem Dc.Like.symm {m n:Nat} {D D':Dc} (h:D.Like m n D'):D'.Like m n D:=by
 obtain ⟨k,hk⟩:=h.gol
 exact ⟨fun x f=>(h.on x f).symm,-k,fun x f hx=>by
  rw [hk x f ((h.on x f).2 hx)]
  grind⟩
theorem Dc.like_xch {m n r s:Nat} {D:Dc} (hr:r<m) (hs:s<n) (h0:D.a r s≠0):D.Like m n (D.xch r s) :=
 ⟨fun x f=>(Dc.on_xch hr hs h0 x f).symm,D.c s*(D.v r / D.a r s),fun x f h=>Dc.gol_xch hr hs h0 h⟩
theorem Dc.Ok.vals {m n:Nat} {D:Dc} (h:D.Ok m n) (α β:Nat→Rat):∃x:Nat→Rat,(∀i,i<m→x (D.own i)=α i)∧(∀j,j<n→x (D.free j)=β j):=by
 classical
 refine ⟨fun u=>if hu:∃i,i<m∧D.own i=u then α hu.choose else if hv:∃j,j<n∧D.free j=u then β hv.choose else 0,fun i hi=>?_,fun j hj=>?_⟩
 ·have hu:∃k,k<m∧D.own k=D.own i:=⟨i,hi,rfl⟩
  show (if hu:∃k,k<m∧D.own k=D.own i then α hu.choose else _)=_
  rw [dif_pos hu]
  have:=hu.choose_spec
  rw [h.io _ _ this.1 hi this.2]
 ·have hn:¬∃k,k<m∧D.own k=D.free j:=fun ⟨k,hk,e⟩=>h.ne k j hk hj e
  have hv:∃k,k<n∧D.free k=D.free j:=⟨j,hj,rfl⟩
  show (if hu:∃k,k<m∧D.own k=D.free j then α hu.choose else if hv:∃k,k<n∧D.free k=D.free j then β hv.choose else 0)=_
  rw [dif_neg hn,dif_pos hv]
  have:=hv.choose_spec
  rw [h.jf _ _ this.1 hj this.2]
theorem jaL {f:Nat→Rat} {n:Nat} (h:∀i,i<n→f i=0):smQ f n=0:=by
 rw [jaj h]
 have:∀n:Nat,smQ (fun _=>(0:Rat)) n=0:=fun n=>by
  induction n with
  | zero=>rw [smQ]
  | succ n ih=>rw [smQ,ih];grind
 exact this n
theorem Dc.Ok.basic {m n:Nat} {D:Dc} (h:D.Ok m n):∃x:Nat→Rat,D.on m n x 1∧(∀i,i<m→x (D.own i)=D.v i)∧(∀j,j<n→x (D.free j)=0):=by
 obtain ⟨x,h1,h2⟩:=h.vals D.v (fun _=>0)
 refine ⟨x,fun i hi=>?_,h1,h2⟩
 rw [h1 i hi,jaL (fun j hj=>by rw [h2 j hj];grind)]
 grind
theorem Dc.Ok.ray {m n s:Nat} {D:Dc} (h:D.Ok m n) (hs:s<n):∃x:Nat→Rat,D.on m n x 0∧(∀i,i<m→x (D.own i)= -(D.a i s))∧x (D.free s)=1∧(∀j,j<n→j≠s→x (D.free j)=0)∧D.gol n x=D.c s:=by
 obtain ⟨x,h1,h2⟩:=h.vals (fun i=> -(D.a i s)) (fun j=>if j=s then 1 else 0)
 have hx:x (D.free s)=1:=by rw [h2 s hs,if_pos rfl]
 have hz:∀j,j<n→j≠s→x (D.free j)=0:=fun j hj hne=>by rw [h2 j hj,if_neg hne]
 have one:∀l:Nat→Rat,smQ (fun j=>l j*x (D.free j)) n=l s:=fun l=>by
  rw [jc3 (f:=fun _=>0) (b:=s) (c:=l s) hs (by rw [hx];grind) (fun j hj hne=>by rw [hz j hj hne];grind),jaL (fun _ _=>rfl)]
  grind
 refine ⟨x,fun i hi=>?_,h1,hx,hz,one D.c⟩
 rw [h1 i hi,one (D.a i)]
 grind
def lstP (vars:Nat→Nat) (ch:Nat→Bool):Nat→Option Nat
 | 0=>none
 | k+1=>match lstP vars ch k with
  | none=>if ch k=true then some k else none
  | some i=>if ch k=true∧vars k<vars i then some k else some i
theorem jd5 (vars:Nat→Nat) (ch:Nat→Bool):∀n:Nat,(lstP vars ch n=none∧∀i,i<n→ch i=false)∨(∃i,lstP vars ch n=some i∧i<n∧ch i=true∧∀k,k<n→ch k=true→vars i≤vars k)
 | 0=>Or.inl ⟨rfl,fun i hi=>absurd hi ZO⟩
 | n+1=>by
  rw [lstP]
  rcases jd5 vars ch n with ⟨h1,h2⟩|⟨i,h1,h2,h3,h4⟩
  ·rw [h1]
   cases hc:ch n
   ·exact Or.inl ⟨by simp,fun i hi=>by
     by_cases e:i=n
     ·rw [e];exact hc
     ·exact h2 i ZO⟩
   ·refine Or.inr ⟨n,by simp,by omega,hc,fun k hk hck=>?_⟩
    by_cases e:k=n
    ·rw [e];exact Nat.le_refl _
    ·rw [h2 k ZO] at hck;cases hck
  ·rw [h1]
   simp only
   by_cases hc:ch n=true∧vars n<vars i
   ·rw [if_pos hc]
    refine Or.inr ⟨n,rfl,by omega,hc.1,fun k hk hck=>?_⟩
    by_cases e:k=n
    ·rw [e];exact Nat.le_refl _
    ·have:=h4 k ZO hck;omega
   ·rw [if_neg hc]
    refine Or.inr ⟨i,rfl,by omega,h3,fun k hk hck=>?_⟩
    by_cases e:k=n
    ·subst e
     apply Nat.le_of_not_lt
     intro hl
     exact hc ⟨hck,hl⟩
    ·exact h4 k ZO hck
theorem jb4 {vars:Nat→Nat} {ch:Nat→Bool} {n:Nat} (h:lstP vars ch n=none):∀i,i<n→ch i=false:=by
 rcases jd5 vars ch n with ⟨_,h2⟩|⟨i,h1,_⟩
 ·exact h2
 ·rw [h] at h1;cases h1
theorem jaB {vars:Nat→Nat} {ch:Nat→Bool} {n i:Nat} (h:lstP vars ch n=some i):i<n∧ch i=true∧∀k,k<n→ch k=true→vars i≤vars k:=by
 rcases jd5 vars ch n with ⟨h1,_⟩|⟨k,h1,h2⟩
 ·rw [h] at h1;cases h1
 ·rw [h] at h1
  rw [Option.some.inj h1]
  exact h2
inductive Nxt
 | best
 | contra (r:Nat)
 | endless (s:Nat)
 | swap (r s:Nat)
def Dc.negR (D:Dc) (i:Nat):Bool:=decide (D.v i<0)
def Dc.posC (D:Dc) (j:Nat):Bool:=decide (0<D.c j)
def Dc.negA (D:Dc) (r j:Nat):Bool:=decide (D.a r j<0)
def Dc.posA (D:Dc) (s i:Nat):Bool:=decide (0<D.a i s)
def Dc.rowP (n:Nat) (D:Dc) (r:Nat):Nxt:=match lstP D.free (D.negA r) n with
 | none=>.contra r
 | some s=>.swap r s
def Dc.colP (m:Nat) (D:Dc) (s:Nat):Nxt:=match lstP D.own (D.posA s) m with
 | none=>.endless s
 | some r=>.swap r s
def Dc.pick (m n:Nat) (D:Dc):Nxt:=match lstP D.own D.negR m,lstP D.free D.posC n with
 | none,none=>.best
 | some r,none=>D.rowP n r
 | none,some s=>D.colP m s
 | some r,some s=>if D.own r<D.free s then D.rowP n r else D.colP m s
theorem Dc.rowP_swap {n r r' s:Nat} {D:Dc} (h:D.rowP n r=.swap r' s):r'=r∧s<n∧D.a r s<0∧∀j,j<n→D.free j<D.free s→0≤D.a r j:=by
 unfold Dc.rowP at h
 split at h
 ·cases h
 ·rename_i s' hs
  cases h
  obtain ⟨h1,h2,h3⟩:=jaB hs
  refine ⟨rfl,h1,of_decide_eq_true h2,fun j hj hlt=>Rat.not_lt.1 fun hn=>?_⟩
  have:=h3 j hj (decide_eq_true hn)
  omega
theorem Dc.colP_swap {m r s s':Nat} {D:Dc} (h:D.colP m s=.swap r s'):s'=s∧r<m∧0<D.a r s∧∀i,i<m→D.own i<D.own r→D.a i s≤0:=by
 unfold Dc.colP at h
 split at h
 ·cases h
 ·rename_i r' hs
  cases h
  obtain ⟨h1,h2,h3⟩:=jaB hs
  refine ⟨rfl,h1,of_decide_eq_true h2,fun i hi hlt=>Rat.not_lt.1 fun hn=>?_⟩
  have:=h3 i hi (decide_eq_true hn)
  omega
def Dc.RowFirst (m n:Nat) (D:Dc) (r s:Nat):Prop:=D.v r<0∧D.a r s<0∧(∀j,j<n→D.free j<D.free s→0≤D.a r j)∧(∀i,i<m→D.own i<D.own r→0≤D.v i)∧(∀j,j<n→D.free j<D.own r→D.c j≤0)
def Dc.ColFirst (m n:Nat) (D:Dc) (r s:Nat):Prop:=0<D.c s∧0<D.a r s∧(∀i,i<m→D.own i<D.own r→D.a i s≤0)∧(∀i,i<m→D.own i<D.free s→0≤D.v i)∧(∀j,j<n→D.free j<D.free s→D.c j≤0)
theorem Dc.pick_swap {m n r s:Nat} {D:Dc} (hD:D.Ok m n) (h:D.pick m n=.swap r s):r<m∧s<n∧(D.RowFirst m n r s∨D.ColFirst m n r s):=by
 unfold Dc.pick at h
 have rowN:∀ {i:Nat} {r:Nat},lstP D.own D.negR m=some r→i<m→D.own i<D.own r→0≤D.v i:=fun {i r} hr hi hlt=>Rat.not_lt.1 fun hn=>by
  have:=(jaB hr).2.2 i hi (decide_eq_true hn)
  omega
 have colN:∀ {j:Nat} {s:Nat},lstP D.free D.posC n=some s→j<n→D.free j<D.free s→D.c j≤0:=fun {j s} hs hj hlt=>Rat.not_lt.1 fun hn=>by
  have:=(jaB hs).2.2 j hj (decide_eq_true hn)
  omega
 have rowA:lstP D.own D.negR m=none→∀i,i<m→0≤D.v i:=fun hr i hi=>Rat.not_lt.1 fun hn=>by
  have:=jb4 hr i hi
  rw [Dc.negR,decide_eq_true hn] at this
  cases this
 have colA:lstP D.free D.posC n=none→∀j,j<n→D.c j≤0:=fun hs j hj=>Rat.not_lt.1 fun hn=>by
  have:=jb4 hs j hj
  rw [Dc.posC,decide_eq_true hn] at this
  cases this
 split at h
 ·cases h
 ·rename_i r0 hr hs
  obtain ⟨e,h1,h2,h3⟩:=Dc.rowP_swap h
  subst e
  exact ⟨(jaB hr).1,h1,Or.inl ⟨of_decide_eq_true (jaB hr).2.1,h2,h3,fun i hi hl=>rowN hr hi hl,fun j hj _=>colA hs j hj⟩⟩
 ·rename_i s0 hr hs
  obtain ⟨e,h1,h2,h3⟩:=Dc.colP_swap h
  subst e
  exact ⟨h1,(jaB hs).1,Or.inr ⟨of_decide_eq_true (jaB hs).2.1,h2,h3,fun i hi _=>rowA hr i hi,fun j hj hl=>colN hs hj hl⟩⟩
 ·rename_i r0 s0 hr hs
  by_cases hlt:D.own r0<D.free s0
  ·rw [if_pos hlt] at h
   obtain ⟨e,h1,h2,h3⟩:=Dc.rowP_swap h
   subst e
   exact ⟨(jaB hr).1,h1,Or.inl ⟨of_decide_eq_true (jaB hr).2.1,h2,h3,fun i hi hl=>rowN hr hi hl,fun j hj hl=>colN hs hj ZO⟩⟩
  ·rw [if_neg hlt] at h
   obtain ⟨e,h1,h2,h3⟩:=Dc.colP_swap h
   subst e
   refine ⟨h1,(jaB hs).1,Or.inr ⟨of_decide_eq_true (jaB hs).2.1,h2,h3,fun i hi hl=>rowN hr hi ZO,fun j hj hl=>colN hs hj hl⟩⟩
theorem Dc.cross {m n q r s r' s':Nat} {D D':Dc} (hD:D.Ok m n) (hD':D'.Ok m n) (hl:D.Like m n D') (hr:r<m) (hs:s<n) (hr':r'<m) (hs':s'<n)
 (e:D.free s=q) (e':D'.own r'=q) (hlt:D.own r<q) (hlt':D'.free s'<q) (hbig:∀j,j<n→q<D.free j→∃k,k<n∧D'.free k=D.free j) (hbig':∀j,j<n→q<D'.free j→∃k,k<n∧D.free k=D'.free j)
 (h:D.RowFirst m n r s∨D.ColFirst m n r s) (h':D'.RowFirst m n r' s'∨D'.ColFirst m n r' s'):False:=by
 have hq':∀j,j<n→D'.free j≠q:=fun j hj e2=>hD'.ne r' j hr' hj (by rw [e',e2])
 have hqD:∀i,i<m→D.own i≠q:=fun i hi e2=>hD.ne i s hi hs (by rw [e,e2])
 have key:∀(l y:Nat→Rat),(∀j,j<n→D.free j<q→0≤l j*y (D.free j))→0<l s*y q→(∀j,j<n→q<D.free j→y (D.free j)=0)→0<smQ (fun j=>l j*y (D.free j)) n:=fun l y h1 h2 h3=>by
  have:=jnr (f:=fun _=>(0:Rat)) (g:=fun j=>l j*y (D.free j)) (n:=n) (fun j hj=>by
   rcases Nat.lt_trichotomy (D.free j) q with g|g|g
   ·exact h1 j hj g
   ·have:j=s:=hD.jf j s hj hs (by rw [g,e])
    rw [this,e]
    exact Rat.le_of_lt h2
   ·rw [h3 j hj g];grind) ⟨s,hs,by rw [e];exact h2⟩
  rw [jaL (fun _ _=>rfl)] at this
  exact this
 have kindC:D'.RowFirst m n r' s'→∃y:Nat→Rat,D'.on m n y 1∧(∀u,u<q→0≤y u)∧y q<0∧(∀j,j<n→q<D.free j→y (D.free j)=0)∧(∀j,j<n→y (D'.free j)=0):=fun ⟨g1,g2,g3,g4,g5⟩=>by
  obtain ⟨y,y1,y2,y3⟩:=hD'.basic
  refine ⟨y,y1,fun u hu=>?_,by rw [←e',y2 r' hr'];exact g1,fun j hj hlt=>?_,y3⟩
  ·rcases hD'.all u (by have:=hD'.lo r' hr';omega) with ⟨i,hi,ei⟩|⟨j,hj,ej⟩
   ·rw [←ei,y2 i hi]
    exact g4 i hi ZO
   ·rw [←ej,y3 j hj]
    exact Rat.le_refl
  ·obtain ⟨k,hk,ek⟩:=hbig j hj hlt
   rw [←ek]
   exact y3 k hk
 have kindD:D'.ColFirst m n r' s'→∃y:Nat→Rat,D'.on m n y 0∧(∀u,u<q→0≤y u)∧y q<0∧(∀j,j<n→q<D.free j→y (D.free j)=0)∧0<D'.gol n y:=fun ⟨g1,g2,g3,g4,g5⟩=>by
  obtain ⟨y,y1,y2,y3,y4,y5⟩:=hD'.ray hs'
  refine ⟨y,y1,fun u hu=>?_,by rw [←e',y2 r' hr'];grind,fun j hj hlt=>?_,by rw [y5];exact g1⟩
  ·rcases hD'.all u (by have:=hD'.lo r' hr';omega) with ⟨i,hi,ei⟩|⟨j,hj,ej⟩
   ·rw [←ei,y2 i hi]
    have:=g3 i hi ZO
    grind
   ·by_cases ejs:j=s'
    ·rw [←ej,ejs,y3];decide
    ·rw [←ej,y4 j hj ejs]
     exact Rat.le_refl
  ·obtain ⟨k,hk,ek⟩:=hbig j hj hlt
   rw [←ek]
   exact y4 k hk (fun e3=>by rw [e3] at ek;omega)
 have negkey:∀(l y:Nat→Rat),(∀j,j<n→D.free j<q→l j≤0)→0<l s→(∀u,u<q→0≤y u)→y q<0→(∀j,j<n→q<D.free j→y (D.free j)=0)→smQ (fun j=>l j*y (D.free j)) n<0:=fun l y h1 h2 h3 h4 h5=>by
  have:=key (fun j=> -(l j)) y (fun j hj hl=>Rat.mul_nonneg (by have:=h1 j hj hl;grind) (h3 _ hl)) (by
   have:=Rat.mul_pos h2 (show 0< - y q by grind)
   grind) h5
  have e2:smQ (fun j=> -(l j)*y (D.free j)) n=smQ (fun j=>(l j*y (D.free j))*(-1)) n:=jaj fun j _=>by grind
  rw [e2,ja6] at this
  grind
 rcases h with ⟨a1,a2,a3,a4,a5⟩|⟨a1,a2,a3,a4,a5⟩
 ·
  have fin:∀(y:Nat→Rat) (f:Rat),0≤f→D.on m n y f→(∀u,u<q→0≤y u)→y q<0→(∀j,j<n→q<D.free j→y (D.free j)=0)→False:=fun y f hf h1 h2 h3 h4=>by
   have g1:=h1 r hr
   have g2:=key (D.a r) y (fun j hj hl=>Rat.mul_nonneg (a3 j hj (by rw [e];exact hl)) (h2 _ hl)) (by
    have:=Rat.mul_pos (show 0< -(D.a r s) by grind) (show 0< - y q by grind)
    grind) h4
   have g3:=h2 _ hlt
   have g4:=Rat.mul_nonneg (show 0≤ -(D.v r) by grind) hf
   grind
  rcases h' with h' | h'
  ·obtain ⟨y,y1,y2,y3,y4,-⟩:=kindC h'
   exact fin y 1 Zb4 ((hl.on y 1).2 y1) y2 y3 y4
  ·obtain ⟨y,y1,y2,y3,y4,-⟩:=kindD h'
   exact fin y 0 Zb4 ((hl.on y 0).2 y1) y2 y3 y4
 ·obtain ⟨κ,hκ⟩:=hl.gol
  have hc:∀j,j<n→D.free j<q→D.c j≤0:=fun j hj hl=>a5 j hj (by rw [e];exact hl)
  rcases h' with h' | h'
  ·obtain ⟨y,y1,y2,y3,y4,y5⟩:=kindC h'
   have g1:=negkey D.c y hc a1 y2 y3 y4
   have g2:=hκ y 1 ((hl.on y 1).2 y1)
   have g3:D'.gol n y=0:=jaL (fun j hj=>by rw [y5 j hj];grind)
   obtain ⟨b1,b2,b3,b4,b5⟩:=h'
   obtain ⟨x,x1,x2,x3⟩:=hD.basic
   have k1:=hκ x 1 x1
   have k2:D.gol n x=0:=jaL (fun j hj=>by rw [x3 j hj];grind)
   have k3:D'.gol n x≤0:=by
    have:=jeb (f:=fun j=>D'.c j*x (D'.free j)) (g:=fun _=>(0:Rat)) (n:=n) (fun j hj=>by
     rcases Nat.lt_trichotomy (D'.free j) q with g|g|g
     ·have h1:0≤x (D'.free j):=by
       rcases hD.all (D'.free j) (hD'.lf j hj) with ⟨i,hi,ei⟩|⟨k,hk,ek⟩
       ·rw [←ei,x2 i hi]
        exact a4 i hi ZO
       ·rw [←ek,x3 k hk]
        exact Rat.le_refl
      have:=Rat.mul_nonneg (show 0≤ -(D'.c j) by have:=b5 j hj ZO;grind) h1
      grind
     ·exact absurd g (hq' j hj)
     ·obtain ⟨k,hk,ek⟩:=hbig' j hj g
      rw [←ek,x3 k hk]
      grind)
    rw [jaL (n:=n) (f:=fun _=>(0:Rat)) (fun _ _=>rfl)] at this
    exact this
   have g4:D.gol n y<0:=g1
   grind
  ·obtain ⟨y,y1,y2,y3,y4,y5⟩:=kindD h'
   have g1:D.gol n y<0:=negkey D.c y hc a1 y2 y3 y4
   have g2:=hκ y 0 ((hl.on y 0).2 y1)
   grind
section
variable {P:Program} {ops:Array Oper} {Q:Exit→Act→World→Prop} {md:Region.Mode} {S:World→Prop} {n:Nat}
theorem jaa.firstA {i:Nat} {oi:Oper} {v:Value} (hi:ops[i]?=some oi) (hsz:ops.size≤n)
 (hsel:∀(j:Nat) (o:Oper) cs b,ops[j]?=some o→o.op≠.select cs b) (hQ:∀c a w,Q (.panic c) (a.put oi.dst v) w→Q (.panic c) a w) (fuel:Nat) :
 ∀(listed:Array Bool) (a:Act) (w:World),(∀j oj,ops[j]?=some oj→j≠i→listed.getD j true=false→(∀e∈oj.after,Region.binds md e=true→e.on≠i)→oi.apart ops oj=true) →
  i∈Region.ready md ops listed→YieldsIf P ops S oi v a→S w→jaa P md ops Q S n fuel (listed.setIfInBounds i true) (a.put oi.dst v) w→jaa P md ops Q S n (fuel+1) listed a w:=by
 induction fuel with
 | zero =>
  intro listed a w _ hr hy hS H
  exact ZQ53
 | succ fuel ih =>
  intro listed a w hfree hr hy hS H
  refine ⟨(fun h=>by rw [h] at hr;cases hr),fun j hj=>?_⟩
  by_cases hji:j=i
  ·subst hji
   exact hy.wpOp hi hS ⟨fun _=>hS,H⟩
  obtain ⟨hjun,oj,hoj,hall⟩:=mem_ready.1 hj
  have hiun:=jc8 (mem_ready.1 hr).1
  have hno:∀e∈oj.after,Region.binds md e=true→e.on≠i:=fun e he hb heq=>by
   exact jkE
  have hjn:j≠n:=fun e=>by
   have:=(Array.getElem?_eq_some_iff.1 hoj).1
   omega
  exact ZQ43
theorem jaa.takeA {i:Nat} {oi:Oper} {v:Value} {fuel:Nat} {listed:Array Bool} {a:Act} {w:World} (hi:ops[i]?=some oi) (hB:(decide (ops.size≤n)&&Region.noSelect ops&&Region.free md ops listed i&&(Region.ready md ops listed).contains i)=true)
 (hQ:∀c a w,Q (.panic c) (a.put oi.dst v) w→Q (.panic c) a w) (hy:YieldsIf P ops S oi v a) (hS:S w) (h:jaa P md ops Q S n fuel (listed.setIfInBounds i true) (a.put oi.dst v) w):jaa P md ops Q S n (fuel+1) listed a w:=by
 simp only [Bool.and_eq_true,decide_eq_true_eq] at hB
 obtain ⟨⟨⟨h1,h3⟩,h4⟩,h5⟩:=hB
 exact jaa.firstA hi h1 (Region.noSelect_spec h3) hQ fuel listed a w (Region.free_spec hi h4) (by simpa using h5) hy hS h
theorem jaa.tkA (i:Nat) {oi:Oper} {v:Value} {fuel:Nat} {listed:Array Bool} {a:Act} {w:World} {q:Prop} (hi:ops[i]?=some oi) (k:q) (hB:(decide (ops.size≤n)&&Region.noSelect ops&&Region.free md ops listed i&&(Region.ready md ops listed).contains i)=true:=by decide +kernel)
 (hQ:∀c a w,Q (.panic c) (a.put oi.dst v) w→Q (.panic c) a w:=by exact fun _ _ _ h=>h) (hy:YieldsIf P ops S oi v a:=by (refine Or.inl ⟨by rfl,?_⟩;intro w hSw;(try dsimp only at hSw);go_simp;try with_reducible rfl)) (hS:S w:=by assumption) (h:q→jaa P md ops Q S n fuel (listed.setIfInBounds i true) (a.put oi.dst v) w:=by (intro hq;(try simp only [Act.put,List.setIfInBounds_toArray,List.set_cons_zero,List.set_cons_succ]);exact hq)):jaa P md ops Q S n (fuel+1) listed a w :=
 jaa.takeA hi hB hQ hy hS (h k)
theorem jaa.done {listed:Array Bool} {a:Act} {w:World} (hB:decide (Region.ready md ops listed=[])=true) (h:Q .normal a w):jaa P md ops Q S n 0 listed a w:=⟨of_decide_eq_true hB,h⟩
end
section
variable {P:Program} {ops:Array Oper} {Q:Exit→Act→World→Prop} {md:Region.Mode} {S:World→Prop} {p:Nat}
def jac (P:Program) (md:Region.Mode) (ops:Array Oper) (Q:Exit→Act→World→Prop) (S:World→Prop) (p:Nat):Nat→Array Bool→Act→World→Prop
 | 0,listed,a,w=>Region.ready md ops listed=[]∧Q .normal a w
 | fuel+1,listed,a,w=>(Region.ready md ops listed=[]→Q .normal a w)∧∀i∈Region.ready md ops listed,wpOp P ops Q i (fun a' w'=>((listed.setIfInBounds i true).getD p true=false→S w')∧jac P md ops Q S p fuel (listed.setIfInBounds i true) a' w') a w
theorem jac.any:∀(fuel:Nat) (listed:Array Bool) (a:Act) (w:World),jac P md ops Q S p fuel listed a w→wpAny P md ops Q fuel listed a w
 | 0,_,_,_,h=>h
 | fuel+1,_,_,_,h=>⟨h.1,fun i hi=>wpOp_mono (fun a' w' h'=>jac.any fuel _ a' w' h'.2) (h.2 i hi)⟩
theorem jac.firstU {i:Nat} {oi:Oper} {v:Value} (hi:ops[i]?=some oi) (hin:i≠p)
 (hsel:∀(j:Nat) (o:Oper) cs b,ops[j]?=some o→o.op≠.select cs b) (hQ:∀c a w,Q (.panic c) (a.put oi.dst v) w→Q (.panic c) a w) (fuel:Nat) :
 ∀(listed:Array Bool) (a:Act) (w:World),(∀j oj,ops[j]?=some oj→j≠i→listed.getD j true=false→(∀e∈oj.after,Region.binds md e=true→e.on≠i)→oi.apart ops oj=true) →
  i∈Region.ready md ops listed→YieldsIf P ops (fun _=>True) oi v a→(listed.getD p true=false→S w)→jac P md ops Q S p fuel (listed.setIfInBounds i true) (a.put oi.dst v) w→jac P md ops Q S p (fuel+1) listed a w:=by
 induction fuel with
 | zero =>
  intro listed a w _ hr hy hS H
  refine ⟨(fun h=>by rw [h] at hr;cases hr),fun j hj=>?_⟩
  by_cases hji:j=i
  ·subst hji
   exact hy.wpOp hi trivial ⟨fun hl=>hS (by rw [getD_set_ne true hin] at hl;exact hl),H⟩
  ·have h1:=ready_mono (i:=i) hj hji
   rw [H.1] at h1
   cases h1
 | succ fuel ih =>
  intro listed a w hfree hr hy hS H
  refine ⟨(fun h=>by rw [h] at hr;cases hr),fun j hj=>?_⟩
  by_cases hji:j=i
  ·subst hji
   exact hy.wpOp hi trivial ⟨fun hl=>hS (by rw [getD_set_ne true hin] at hl;exact hl),H⟩
  obtain ⟨hjun,oj,hoj,hall⟩:=mem_ready.1 hj
  have hiun:=jc8 (mem_ready.1 hr).1
  have hno:∀e∈oj.after,Region.binds md e=true→e.on≠i:=fun e he hb heq=>by
   exact jkE
  have h2:=wpOp_putIf hoj (hfree j oj hoj hji hjun hno) (fun cs b=>hsel i oi cs b hi) (fun cs b=>hsel j oj cs b hoj) hQ hy (H.2 j (ready_mono hj hji))
  refine wpOp_mono (fun a' w' h3=>?_) h2
  have hS':(listed.setIfInBounds j true).getD p true=false→S w':=fun hl=>h3.2.1 (by
   rw [Array.setIfInBounds_comm _ _ (Ne.symm hji),getD_set_ne true hin]
   exact hl)
  refine ⟨hS',ih (listed.setIfInBounds j true) a' w' (fun k ok hk hki hun hno'=>?_) (ready_mono hr (Ne.symm hji)) h3.1 hS' ?_⟩
  ·refine hfree k ok hk hki ?_ hno'
   by_cases hjk:j=k
   ·rw [←hjk];exact hjun
   ·rw [getD_set_ne true hjk] at hun
    exact hun
  ·rw [Array.setIfInBounds_comm _ _ hji]
   exact h3.2.2
theorem jac.first {i:Nat} {oi:Oper} {v:Value} (hi:ops[i]?=some oi) (hin:i≠p) (hwait:∀on,ops[p]?=some on→∃e∈on.after,Region.binds md e=true∧e.on=i)
 (hsel:∀(j:Nat) (o:Oper) cs b,ops[j]?=some o→o.op≠.select cs b) (hQ:∀c a w,Q (.panic c) (a.put oi.dst v) w→Q (.panic c) a w) (fuel:Nat) :
 ∀(listed:Array Bool) (a:Act) (w:World),(∀j oj,ops[j]?=some oj→j≠i→listed.getD j true=false→(∀e∈oj.after,Region.binds md e=true→e.on≠i)→oi.apart ops oj=true) →
  i∈Region.ready md ops listed→YieldsIf P ops S oi v a→S w→listed.getD p true=false→jac P md ops Q S p fuel (listed.setIfInBounds i true) (a.put oi.dst v) w→jac P md ops Q S p (fuel+1) listed a w:=by
 induction fuel with
 | zero =>
  intro listed a w _ hr hy hS hp H
  exact ZQ53
 | succ fuel ih =>
  intro listed a w hfree hr hy hS hp H
  refine ⟨(fun h=>by rw [h] at hr;cases hr),fun j hj=>?_⟩
  by_cases hji:j=i
  ·subst hji
   exact hy.wpOp hi hS ⟨fun _=>hS,H⟩
  obtain ⟨hjun,oj,hoj,hall⟩:=mem_ready.1 hj
  have hiun:=jc8 (mem_ready.1 hr).1
  have hno:∀e∈oj.after,Region.binds md e=true→e.on≠i:=fun e he hb heq=>by
   exact jkE
  have hjp:j≠p:=fun e=>by
   subst e
   obtain ⟨e,he,hb,heq⟩:=hwait oj hoj
   exact hno e he hb heq
  have h2:=wpOp_putIf hoj (hfree j oj hoj hji hjun hno) (fun cs b=>hsel i oi cs b hi) (fun cs b=>hsel j oj cs b hoj) hQ hy (H.2 j (ready_mono hj hji))
  refine wpOp_mono (fun a' w' h3=>?_) h2
  have hp':(listed.setIfInBounds j true).getD p true=false:=by
   rw [getD_set_ne true hjp]
   exact hp
  have hS':=h3.2.1 (by
   rw [Array.setIfInBounds_comm _ _ (Ne.symm hji),getD_set_ne true hin]
   exact hp')
  refine ⟨fun _=>hS',ih (listed.setIfInBounds j true) a' w' (fun k ok hk hki hun hno'=>?_) (ready_mono hr (Ne.symm hji)) h3.1 hS' hp' ?_⟩
  ·refine hfree k ok hk hki ?_ hno'
   by_cases hjk:j=k
   ·rw [←hjk];exact hjun
   ·rw [getD_set_ne true hjk] at hun
    exact hun
  ·rw [Array.setIfInBounds_comm _ _ hji]
   exact h3.2.2
theorem jac.take {i:Nat} {oi:Oper} {v:Value} {fuel:Nat} {listed:Array Bool} {a:Act} {w:World} (hi:ops[i]?=some oi) (hB:(decide (i≠p)&&jeM md ops p i&&Region.noSelect ops&&Region.free md ops listed i&&(Region.ready md ops listed).contains i&&(listed.getD p true==false))=true)
 (hQ:∀c a w,Q (.panic c) (a.put oi.dst v) w→Q (.panic c) a w) (hy:YieldsIf P ops S oi v a) (hS:S w) (h:jac P md ops Q S p fuel (listed.setIfInBounds i true) (a.put oi.dst v) w):jac P md ops Q S p (fuel+1) listed a w:=by
 simp only [Bool.and_eq_true,decide_eq_true_eq,beq_iff_eq] at hB
 obtain ⟨⟨⟨⟨⟨h1,h2⟩,h3⟩,h4⟩,h5⟩,h6⟩:=hB
 refine jac.first hi h1 (fun on hon=>?_) (Region.noSelect_spec h3) hQ fuel listed a w (Region.free_spec hi h4) (by simpa using h5) hy hS h6 h
 unfold jeM at h2
 rw [hon] at h2
 obtain ⟨e,he,hb⟩:=Array.any_eq_true'.1 h2
 rw [Bool.and_eq_true,beq_iff_eq] at hb
 exact ⟨e,he,hb⟩
theorem jac.takeU {i:Nat} {oi:Oper} {v:Value} {fuel:Nat} {listed:Array Bool} {a:Act} {w:World} (hi:ops[i]?=some oi) (hB:(decide (i≠p)&&Region.noSelect ops&&Region.free md ops listed i&&(Region.ready md ops listed).contains i)=true)
 (hQ:∀c a w,Q (.panic c) (a.put oi.dst v) w→Q (.panic c) a w) (hy:YieldsIf P ops (fun _=>True) oi v a) (hS:listed.getD p true=false→S w) (h:jac P md ops Q S p fuel (listed.setIfInBounds i true) (a.put oi.dst v) w):jac P md ops Q S p (fuel+1) listed a w:=by
 simp only [Bool.and_eq_true,decide_eq_true_eq] at hB
 obtain ⟨⟨⟨h1,h3⟩,h4⟩,h5⟩:=hB
 exact jac.firstU hi h1 (Region.noSelect_spec h3) hQ fuel listed a w (Region.free_spec hi h4) (by simpa using h5) hy hS h
theorem jac.takeF {i:Nat} {oi:Oper} {v:Value} {fuel:Nat} {listed:Array Bool} {a:Act} {w:World} (hi:ops[i]?=some oi) (hB:(decide (i≠p)&&Region.noSelect ops&&Region.free md ops listed i&&(Region.ready md ops listed).contains i&&(listed.getD p true==true))=true)
 (hQ:∀c a w,Q (.panic c) (a.put oi.dst v) w→Q (.panic c) a w) (hy:YieldsIf P ops (fun _=>True) oi v a) (h:jac P md ops Q S p fuel (listed.setIfInBounds i true) (a.put oi.dst v) w):jac P md ops Q S p (fuel+1) listed a w:=by
 rw [Bool.and_eq_true] at hB
 obtain ⟨h1,h2⟩:=hB
 rw [beq_iff_eq] at h2
 exact jac.takeU hi h1 hQ hy (fun e=>by rw [h2] at e;cases e) h
theorem jac.oneF {i:Nat} {o:Oper} {fuel:Nat} {listed:Array Bool} {a:Act} {w:World} (ho:ops[i]?=some o) (hg:o.guard=none) (hB:(decide (Region.ready md ops listed=[i])&&((listed.setIfInBounds i true).getD p true==true))=true)
 (h:∀K:Act→World→Prop,Hid (∀a' w',jac P md ops Q S p fuel (listed.setIfInBounds i true) a' w'→K a' w')→o.wp P a w K Q):jac P md ops Q S p (fuel+1) listed a w:=by
 rw [Bool.and_eq_true,beq_iff_eq] at hB
 have hR:=of_decide_eq_true hB.1
 refine ⟨(fun h0=>by rw [hR] at h0;cases h0),fun j hj=>?_⟩
 rw [hR,List.mem_singleton] at hj
 subst hj
 have hw:Region.wanted o (yielded ops a.tmps)=true:=by simp [Region.wanted,hg]
 unfold wpOp
 simp only [ho,hw,if_true]
 exact Or.inl (h _ (jpk fun a' w' hW=>⟨(fun e=>by rw [hB.2] at e;cases e),hW⟩))
theorem jac.one {i:Nat} {o:Oper} {fuel:Nat} {listed:Array Bool} {a:Act} {w:World} (ho:ops[i]?=some o) (hg:o.guard=none) (hB:decide (Region.ready md ops listed=[i])=true)
 (h:∀K:Act→World→Prop,Hid (∀a' w',((listed.setIfInBounds i true).getD p true=false→S w')→(((listed.setIfInBounds i true).getD p true=false→S w')→jac P md ops Q S p fuel (listed.setIfInBounds i true) a' w')→K a' w')→o.wp P a w K Q):jac P md ops Q S p (fuel+1) listed a w:=by
 have hB:=of_decide_eq_true hB
 refine ⟨(fun h0=>by rw [hB] at h0;cases h0),fun j hj=>?_⟩
 rw [hB,List.mem_singleton] at hj
 subst hj
 have hw:Region.wanted o (yielded ops a.tmps)=true:=by simp [Region.wanted,hg]
 unfold wpOp
 simp only [ho,hw,if_true]
 exact Or.inl (h _ (jpk fun a' w' hS hW=>⟨hS,hW hS⟩))
theorem jac.tk (i:Nat) {oi:Oper} {v:Value} {fuel:Nat} {listed:Array Bool} {a:Act} {w:World} {q:Prop} (hi:ops[i]?=some oi) (k:q) (hB:(decide (i≠p)&&jeM md ops p i&&Region.noSelect ops&&Region.free md ops listed i&&(Region.ready md ops listed).contains i&&(listed.getD p true==false))=true:=by decide +kernel)
 (hQ:∀c a w,Q (.panic c) (a.put oi.dst v) w→Q (.panic c) a w:=by exact fun _ _ _ h=>h) (hy:YieldsIf P ops S oi v a:=by (refine Or.inl ⟨by rfl,?_⟩;intro w hSw;(try dsimp only at hSw);go_simp;try with_reducible rfl)) (hS:S w:=by assumption) (h:q→jac P md ops Q S p fuel (listed.setIfInBounds i true) (a.put oi.dst v) w:=by (intro hq;(try simp only [Act.put,List.setIfInBounds_toArray,List.set_cons_zero,List.set_cons_succ]);exact hq)):jac P md ops Q S p (fuel+1) listed a w :=
 jac.take hi hB hQ hy hS (h k)
theorem jac.tkU (i:Nat) {oi:Oper} {v:Value} {fuel:Nat} {listed:Array Bool} {a:Act} {w:World} {q:Prop} (hi:ops[i]?=some oi) (k:q) (hB:(decide (i≠p)&&Region.noSelect ops&&Region.free md ops listed i&&(Region.ready md ops listed).contains i)=true:=by decide +kernel)
 (hQ:∀c a w,Q (.panic c) (a.put oi.dst v) w→Q (.panic c) a w:=by exact fun _ _ _ h=>h) (hy:YieldsIf P ops (fun _=>True) oi v a:=by (refine Or.inl ⟨by rfl,?_⟩;intro w hSw;go_simp;try with_reducible rfl)) (hS:listed.getD p true=false→S w:=by exact fun _=>by assumption) (h:q→jac P md ops Q S p fuel (listed.setIfInBounds i true) (a.put oi.dst v) w:=by (intro hq;(try simp only [Act.put,List.setIfInBounds_toArray,List.set_cons_zero,List.set_cons_succ]);exact hq)):jac P md ops Q S p (fuel+1) listed a w :=
 jac.takeU hi hB hQ hy hS (h k)
theorem jac.tkF (i:Nat) {oi:Oper} {v:Value} {fuel:Nat} {listed:Array Bool} {a:Act} {w:World} {q:Prop} (hi:ops[i]?=some oi) (k:q) (hB:(decide (i≠p)&&Region.noSelect ops&&Region.free md ops listed i&&(Region.ready md ops listed).contains i&&(listed.getD p true==true))=true:=by decide +kernel)
 (hQ:∀c a w,Q (.panic c) (a.put oi.dst v) w→Q (.panic c) a w:=by exact fun _ _ _ h=>h) (hy:YieldsIf P ops (fun _=>True) oi v a:=by (refine Or.inl ⟨by rfl,?_⟩;intro w hSw;go_simp;try with_reducible rfl)) (h:q→jac P md ops Q S p fuel (listed.setIfInBounds i true) (a.put oi.dst v) w:=by (intro hq;(try simp only [Act.put,List.setIfInBounds_toArray,List.set_cons_zero,List.set_cons_succ]);exact hq)):jac P md ops Q S p (fuel+1) listed a w :=
 jac.takeF hi hB hQ hy (h k)
theorem jac.on (i:Nat) {o:Oper} {fuel:Nat} {listed:Array Bool} {a:Act} {w:World} (ho:ops[i]?=some o) (h:∀K:Act→World→Prop,Hid (∀a' w',((listed.setIfInBounds i true).getD p true=false→S w')→(((listed.setIfInBounds i true).getD p true=false→S w')→jac P md ops Q S p fuel (listed.setIfInBounds i true) a' w')→K a' w')→o.wp P a w K Q) (hg:o.guard=none:=by rfl) (hB:decide (Region.ready md ops listed=[i])=true:=by kernel_rfl):jac P md ops Q S p (fuel+1) listed a w :=
 jac.one ho hg hB h
theorem jac.onF (i:Nat) {o:Oper} {fuel:Nat} {listed:Array Bool} {a:Act} {w:World} (ho:ops[i]?=some o) (h:∀K:Act→World→Prop,Hid (∀a' w',jac P md ops Q S p fuel (listed.setIfInBounds i true) a' w'→K a' w')→o.wp P a w K Q) (hg:o.guard=none:=by rfl) (hB:(decide (Region.ready md ops listed=[i])&&((listed.setIfInBounds i true).getD p true==true))=true:=by kernel_rfl):jac P md ops Q S p (fuel+1) listed a w :=
 jac.oneF ho hg hB h
theorem jac.two {i j:Nat} {oi oj:Oper} {fuel:Nat} {listed:Array Bool} {a:Act} {w:World} (hi:ops[i]?=some oi) (hj:ops[j]?=some oj) (hg:oi.guard=none) (hg':oj.guard=none) (hB:decide (Region.ready md ops listed=[i,j])=true)
 (h:∀K:Act→World→Prop,Hid (∀a' w',((listed.setIfInBounds i true).getD p true=false→S w')→(((listed.setIfInBounds i true).getD p true=false→S w')→jac P md ops Q S p fuel (listed.setIfInBounds i true) a' w')→K a' w')→oi.wp P a w K Q)
 (h':∀K:Act→World→Prop,Hid (∀a' w',((listed.setIfInBounds j true).getD p true=false→S w')→(((listed.setIfInBounds j true).getD p true=false→S w')→jac P md ops Q S p fuel (listed.setIfInBounds j true) a' w')→K a' w')→oj.wp P a w K Q):jac P md ops Q S p (fuel+1) listed a w:=by
 have hB:=of_decide_eq_true hB
 refine ⟨(fun h0=>by rw [hB] at h0;cases h0),fun k hk=>?_⟩
 rw [hB] at hk
 have hw:∀o:Oper,o.guard=none→Region.wanted o (yielded ops a.tmps)=true:=fun o hg=>by simp [Region.wanted,hg]
 rcases List.mem_cons.1 hk with rfl|hk
 ·unfold wpOp
  simp only [hi,hw oi hg,if_true]
  exact Or.inl (h _ (jpk fun a' w' hS hW=>⟨hS,hW hS⟩))
 ·rw [List.mem_singleton] at hk
  subst hk
  unfold wpOp
  simp only [hj,hw oj hg',if_true]
  exact Or.inl (h' _ (jpk fun a' w' hS hW=>⟨hS,hW hS⟩))
theorem jac.last {n:Nat} {o:Oper} {fuel:Nat} {listed:Array Bool} {a:Act} {w:World} (ho:ops[n]?=some o) (hB:(decide (Region.ready md ops listed=[n])&&decide (Region.ready md ops (listed.setIfInBounds n true)=[])&&((listed.setIfInBounds n true).getD p true==true))=true)
 (h:wpList P ops Q [o] a w):jac P md ops Q S p (fuel+1) listed a w:=by
 simp only [Bool.and_eq_true,decide_eq_true_eq,beq_iff_eq] at hB
 obtain ⟨⟨h1,h2⟩,h3⟩:=hB
 refine ⟨(fun h0=>by rw [h1] at h0;cases h0),fun j hj=>?_⟩
 rw [h1,List.mem_singleton] at hj
 subst hj
 have hw:wpOp P ops Q j (wpList P ops Q []) a w:=by
  unfold wpOp
  simp only [ho]
  exact h
 refine wpOp_mono (fun a' w' hK=>⟨(fun e=>by rw [h3] at e;cases e),?_⟩) hw
 cases fuel with
 | zero=>exact ⟨h2,hK⟩
 | succ fuel=>exact ⟨fun _=>hK,fun i hi=>by rw [h2] at hi;cases hi⟩
theorem jbp {id:Nat} {a:Act} {w:World} (p:Nat) (S:World→Prop) (hm:P.follows .mixedOrders=true) (hS:S w.drew) (h:S w.drew→jac P .any ops Q S p ops.size (Array.replicate ops.size false) a w.drew):(Code.region id ops true).wp P Q a w :=
 wp_region_any hm (jac.any _ _ _ _ (h hS))
end
end Go.Proofs.YtgikfcjndiohjaaGreat
