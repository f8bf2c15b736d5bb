/- Laws and walks; conditions stand in each theorem. -/
import Derived.Test.YtgikfcjndiohjaaGreatP27
set_option linter.unusedSimpArgs false
set_option linter.unusedVariables false
set_option maxHeartbeats 20000000
set_option maxRecDepth 100000
namespace Go.Proofs.YtgikfcjndiohjaaGreat
open Go.RowKit
abbrev ofam (m k N:Nat) (V:Nat→Nat→Rw):Hl:=⟨famP (fun p:Nat × Nat=>(p.1<k∨p.1=m)∧p.2<N) (fun p=>(V p.1 p.2).on) (fun p=>(V p.1 p.2).S),famS (fun p:Nat × Nat=>(p.1<k∨p.1=m)∧p.2<N) (fun p=>(V p.1 p.2).S)⟩
def OpR (m k n:Nat) (ls:List Rv) (Y:Nat→Rw) (V:Nat→Nat→Rw) (hd:Nat→Hd) (Xs:Nat→List Blk):Prop :=
 (∀i,i<k→isQ (Y i) (rwB2 ls false i)∧(∀j,j<n→isQ (V i j) (rwA2 ls i j))∧OwL 4 Rw.cs 29 (Value.slice (hd i).A (hd i).n (hd i).c) (ofF n (V i)) (Xs i))
def OpP (w0:World) (L:List Blk) (D:List Hl) (m n:Nat) (G:Dc) (e:Ending) (W':World):Prop :=
 ∃(db:Nat) (Ld:List Blk) (Dd:List Hl),e=.returned (.pointer (some ⟨db,0,none⟩))∧Hid (DicL m n db false G Ld Dd)∧St w0 (Ld++L) (Dd++D) W'
theorem St.opAdd {w W:World} {L:List Blk} {D:List Hl} {m k N:Nat} {V:Nat→Nat→Rw} {A:Option Addr} {cap:Nat} {u:Nat→Rw} (K:St w L D W) (hm:k<m) (h1:ofam m k N V∈D) (h2:(⟨fxP A N cap u,fxS A N u⟩:Hl)∈D):St w L (ofam m (k+1) N (putF V k u)::D) W:=by
 refine K.fam fun p hp=>?_
 by_cases e:p.1=k
 ·rw [e,jaf]
  have h:=K.okAt h2
  have h3:(⟨rdP (u p.2).A (u p.2).n (u p.2).c (u p.2).l,rdS (u p.2).A (u p.2).n⟩:Hl).ok L W:=⟨(h.1.2 _ hp.2).1,fun b hS=>h.2.1 b (Or.inr ⟨_,hp.2,Or.inl hS⟩),fun W' g1 g2=>jbg (h.1.2 _ hp.2).1 g1 g2⟩
  have h4:(⟨rdP (u p.2).B (u p.2).m (u p.2).d (u p.2).k,rdS (u p.2).B (u p.2).m⟩:Hl).ok L W:=⟨(h.1.2 _ hp.2).2,fun b hS=>h.2.1 b (Or.inr ⟨_,hp.2,Or.inr hS⟩),fun W' g1 g2=>jbg (h.1.2 _ hp.2).2 g1 g2⟩
  exact h3.and h4
 ·rw [jad e]
  exact K.famAt (i:=p) h1 ⟨by have:=hp.1;omega,hp.2⟩
theorem OpR.add {m k n:Nat} {ls:List Rv} {Y:Nat→Rw} {V:Nat→Nat→Rw} {hd:Nat→Hd} {Xs:Nat→List Blk} (h:OpR m k n ls Y V hd Xs) {y:Rw} {u:Nat→Rw} {h9:Hd} {Xc:List Blk} (hy:isQ y (rwB2 ls false k)) (hu:∀j,j<n→isQ (u j) (rwA2 ls k j)) (ho:OwL 4 Rw.cs 29 (Value.slice h9.A h9.n h9.c) (ofF n u) Xc):OpR m (k+1) n ls (putF Y k y) (putF V k u) (putF hd k h9) (putF Xs k Xc):=fun i hi=>by
 by_cases e:i=k
 ·subst e
  rw [jaf,jaf,jaf,jaf]
  exact ⟨hy,hu,ho⟩
 ·rw [jad e,jad e,jad e,jad e]
  exact h i ZO
theorem jnV {k:Nat} {Y:Nat→Rw} {hd:Nat→Hd} {y:Rw} {h:Hd}:putF (lnF Y hd) k ⟨y,h⟩=lnF (putF Y k y) (putF hd k h):=by
 funext i
 by_cases e:i=k
 ·subst e
  rw [jaf]
  show _=(⟨putF Y i y i,putF hd i h i⟩:Ln)
  rw [jaf,jaf]
 ·rw [jad e]
  show _=(⟨putF Y k y i,putF hd k h i⟩:Ln)
  rw [jad e,jad e]
theorem jn0 (n k:Nat):ofF (k+1) (putF (fun i=>((n+i:Nat):Int)) k ((n:Int)+(k:Int)))=ofF (k+1) (fun i=>((n+i:Nat):Int)):=jaD fun i hi=>by
 by_cases e:i=k
 ·subst e
  rw [jaf]
  omega
 ·rw [jad e]
theorem jgT {k:Nat} {Xs:Nat→List Blk} {Xc:List Blk}:(ofF (k+1) (putF Xs k Xc)).flatten=(ofF k Xs).flatten++Xc:=by
 rw [←jbz,List.flatten_append]
 simp
theorem jmC:(Tryz.prog.info? 88).map (·.size)=some 1:=by kernel_rfl
theorem jfM:(Tryz.prog.info? 22).map (·.size)=some 1:=by kernel_rfl
theorem jfe:(Tryz.prog.info? 90).map (fun i=>(i.zero.map (·.cells),i.size,i.bytes))=some (some #[.int .i64 0,.slice none 0 0,.int .i64 0,.slice none 0 0,.slice none 0 0],5,88):=by kernel_rfl
theorem jhx (w0 W:World) (L:List Blk) (D:List Hl) (A A' B:Option Addr) (n cap m cap' cg:Nat) (ls:List Rv) (vg:Nat→Rw) (c:Nat→Rat)
 (K:St w0 L D W) (hr:RdR w0 w0.heap.size A' m cap' ls) (hrow:∀(k:Nat) (X:Rv),ls[k]?=some X→rowF n X=true) (hg:(⟨fxP B n cg vg,fxS B n vg⟩:Hl)∈D) (hc:∀j,j<n→isQ (vg j) (c j)) (hn:n≤1000) (hm:m≤1000) :
 Calls Tryz.prog 60 #[.agg #[.slice A n cap,.slice A' m cap'],.slice B n cg] W (OpP w0 L D m n (opnD n (rwA2 ls) (rwB2 ls false) c)):=by
 have HL:=jpk hr
 have HRow:=jpk hrow
 have HG:=jpk hg
 have HC:=jpk hc
 have hcap':=hr.caps
 have hcap:=K.fxCap hg
 have hlen:=jpk hr.len
 clear hr hrow hg hc
 have HZ:=jpk jbc
 have r:=trivial
 go_enter Tryz.func60,Tryz.ntmps60
 go_wp2_with (first|(apply K.box;rfl;rfl;rfl;clear K r;intro W b0 K;have r:=K.rawS)|(apply K.alloc;rfl;rfl;exact ja3;clear K r;intro W b1 K;have r:=K.rawS)|(apply K.storeA;rfl;rfl;rfl;rfl;rfl;(exact ZUP);exact ja2;rfl;rfl;rfl;clear K r;intro W K;have r:=K.rawS))
 refine (HZ.out _).mono ?_
 rintro e W' ⟨s7,A7,n7,c7,l7,t7,B7,m7,d7,k7,rfl,⟨hra,hrb⟩,ho,⟨hfa,hfb⟩,hbl⟩
 replace K:=K.retF hbl hra hrb hfa hfb
 clear hra hrb hfa hfb hbl ho
 obtain ⟨gv,hgv⟩:∃gv:Rw,gv=⟨s7,A7,n7,c7,l7,t7,B7,m7,d7,k7⟩:=⟨_,rfl⟩
 obtain ⟨rfl,rfl,rfl,rfl,rfl,rfl⟩:s7=gv.s∧A7=gv.A∧n7=gv.n∧c7=gv.c∧t7=gv.t∧B7=gv.B:=by rw [hgv];exact ⟨rfl,rfl,rfl,rfl,rfl,rfl⟩
 obtain ⟨rfl,rfl,rfl,rfl⟩:m7=gv.m∧d7=gv.d∧l7=gv.l∧k7=gv.k:=by
  cases gv
  cases hgv
  exact ⟨rfl,rfl,rfl,rfl⟩
 clear hgv
 have HCl:=jpk (fun V L5 D5 (h:St w0 L5 D5 V) (hm5:(⟨fxP B n cg vg,fxS B n vg⟩:Hl)∈D5)=>jez B n cg vg w0 V L5 D5 h (h.okAt hm5).1.1 hn)
 go_wp2_with fail
 refine (HCl.out _ _ _ K (List.mem_cons_of_mem _ (List.mem_cons_of_mem _ HG.out))).mono ?_
 rintro e W2 ⟨val,Xg,rfl,hog,K2⟩
 obtain ⟨Ag,cgg,hval⟩:=hog.shapeL
 rw [jag] at hval
 subst hval
 replace K:=K2
 clear K2 r
 have HOG:=jpk hog
 clear hog HCl HZ
 go_wp2_with (apply K.box;rfl;rfl;rfl;clear K;intro W db K;have e0:=(K.blk (b:=b0) (cs:=#[.slice A n cap,.slice A' m cap']) ZMA).cell (j:=1) rfl)
 clear e0
 obtain ⟨hg,hhg⟩:∃hg:Hd,hg=⟨Ag,n,cgg⟩:=⟨_,rfl⟩
 have K2:St w0 ((db,(Value.bool false::[Value.slice (⟨none,0,0⟩:Hd).A (⟨none,0,0⟩:Hd).n (⟨none,0,0⟩:Hd).c,.int .i64 gv.s,.slice gv.A gv.n gv.c,.int .i64 gv.t,.slice gv.B gv.m gv.d,Value.slice hg.A hg.n hg.c,Value.slice (⟨none,0,0⟩:Hd).A (⟨none,0,0⟩:Hd).n (⟨none,0,0⟩:Hd).c,Value.slice (⟨none,0,0⟩:Hd).A (⟨none,0,0⟩:Hd).n (⟨none,0,0⟩:Hd).c]).toArray,92)::([]++([]++(Xg++((ofF 0 (fun _=>([]:List Blk))).flatten++L))))) (ofam m 0 n (fun _=>vg)::⟨rwP 0 (fun _=>gv),rwS 0 (fun _=>gv)⟩::D) W:=by
  have K3:=(K.add (x:=⟨rwP 0 (fun _=>gv),rwS 0 (fun _=>gv)⟩) ⟨fun i hi=>absurd hi ZO,fun b ⟨i,hi,_⟩=>absurd hi ZO,fun _ _ _ i hi=>absurd hi ZO⟩)
  have K4:=K3.fam (I:=fun p:Nat × Nat=>(p.1<0∨p.1=m)∧p.2<n) (P:=fun p=>(vg p.2).on) (S:=fun p=>(vg p.2).S) fun p hp=>(by
   have h:=K3.okAt (x:=⟨fxP B n cg vg,fxS B n vg⟩) (List.mem_cons_of_mem _ (List.mem_cons_of_mem _ (List.mem_cons_of_mem _ HG.out)))
   have h3:(⟨rdP (vg p.2).A (vg p.2).n (vg p.2).c (vg p.2).l,rdS (vg p.2).A (vg p.2).n⟩:Hl).ok _ W:=⟨(h.1.2 _ hp.2).1,fun b hS=>h.2.1 b (Or.inr ⟨_,hp.2,Or.inl hS⟩),fun W' g1 g2=>jbg (h.1.2 _ hp.2).1 g1 g2⟩
   have h4:(⟨rdP (vg p.2).B (vg p.2).m (vg p.2).d (vg p.2).k,rdS (vg p.2).B (vg p.2).m⟩:Hl).ok _ W:=⟨(h.1.2 _ hp.2).2,fun b hS=>h.2.1 b (Or.inr ⟨_,hp.2,Or.inr hS⟩),fun W' g1 g2=>jbg (h.1.2 _ hp.2).2 g1 g2⟩
   exact h3.and h4)
  have K5:=(K4.lessS (D':=ofam m 0 n (fun _=>vg)::⟨rwP 0 (fun _=>gv),rwS 0 (fun _=>gv)⟩::D) Zb10)
  have K6:=K5.part (L':=_::(Xg++L)) (List.Sublist.cons_cons _ (List.Sublist.append_left (List.sublist_cons_self _ _) _))
  rw [hhg]
  exact K6
 replace K:=K2
 clear K2
 go_loopg [18] m (fun gk s18 wr=>∃(k:Nat) (hR hO:Hd) (Xr Xo:List Blk) (Y:Nat→Rw) (V:Nat→Nat→Rw) (hd:Nat→Hd) (Xs:Nat→List Blk),k≤m∧gk=m-k∧s18=.int .i64 k∧Hid (OwL 5 Ln.cs 90 (Value.slice hR.A hR.n hR.c) (ofF k (lnF Y hd)) Xr)∧Hid (OwL 1 iEnc 3 (Value.slice hO.A hO.n hO.c) (ofF k (fun i=>((n+i:Nat):Int))) Xo)∧Hid (OpR m k n ls Y V hd Xs)∧Hid (∀j,V m j=vg j)∧St w0 ((db,(Value.bool false::[Value.slice hR.A hR.n hR.c,.int .i64 gv.s,.slice gv.A gv.n gv.c,.int .i64 gv.t,.slice gv.B gv.m gv.d,Value.slice hg.A hg.n hg.c,Value.slice hO.A hO.n hO.c,Value.slice (⟨none,0,0⟩:Hd).A (⟨none,0,0⟩:Hd).n (⟨none,0,0⟩:Hd).c]).toArray,92)::(Xr++(Xo++(Xg++((ofF k Xs).flatten++L))))) (ofam m k n V::⟨rwP k Y,rwS k Y⟩::D) wr)
 case atStart=>exact ⟨0,⟨none,0,0⟩,⟨none,0,0⟩,[],[],fun _=>gv,fun _=>vg,fun _=>⟨none,0,0⟩,fun _=>[],Nat.zero_le _,rfl,rfl,jpk OwL.nil,jpk OwL.nil,jpk (fun i hi=>absurd hi ZO),jpk (fun _=>rfl),K⟩
 case round =>
  clear K
  obtain ⟨k,hR,hO,Xr,Xo,Y,V,hd,Xs,hk,rfl,rfl,HR,HO,HQ,HV,K⟩:=hrel
  by_cases hlt:k<m
  ·have Hlt:=jpk hlt
   obtain ⟨eb,eo,A0,n0,c0,A1,n1,c1,A2,n2,c2,X,hA,hbB,hX,⟨z0,z1,z2,z3,z4⟩,r0,r1,r2⟩:=HL.out.atR hlt
   subst hA
   have hki:(k:Int)<(m:Int):=by omega
   have hk0:(0:Int)≤(k:Int):=by omega
   have y0:=(K.1.cell (p:=⟨eb,eo+k*5,none⟩) hbB).trans z0
   have y1:=(K.1.cell (p:=⟨eb,eo+k*5+1,none⟩) hbB).trans z1
   have y2:=(K.1.cell (p:=⟨eb,eo+k*5+2,none⟩) hbB).trans z2
   have y3:=(K.1.cell (p:=⟨eb,eo+k*5+3,none⟩) hbB).trans z3
   have y4:=(K.1.cell (p:=⟨eb,eo+k*5+4,none⟩) hbB).trans z4
   have hc0:=r0.caps
   have hc1:=r1.caps
   have hc2:=r2.caps
   have hF:=HRow.out k X hX
   unfold rowF at hF
   rw [Bool.and_eq_true,Bool.and_eq_true,decide_eq_true_eq] at hF
   have hn0:n0=n:=by have:=hF.1.1;have:=r0.len;omega
   subst hn0
   obtain ⟨u,hu,K⟩:=K.fxOld r0
   have hQ:=jbW hF.1.2
   have HA:=jpk (show ∀i,i<n0→isQ (u i) (rwA2 ls k i) from fun i hi=>by
    exact ZQ55)
   obtain ⟨y,hy⟩:∃y:Rw,y=⟨X.b.s,A1,n1,c1,X.b.l,X.b.t,A2,n2,c2,X.b.m⟩:=⟨_,rfl⟩
   have HY:=jpk (show isQ y (rwB2 ls false k) from by
    unfold rwB2
    rw [if_neg Zb4,hX,Option.map_some,Option.getD_some,hy]
    exact hQ)
   replace K:=(K.rdOld r1).rdOld r2
   have ey:X.b.s=y.s∧A1=y.A∧n1=y.n∧c1=y.c∧X.b.t=y.t∧A2=y.B∧n2=y.m∧c2=y.d∧X.b.l=y.l∧X.b.m=y.k:=by rw [hy];exact ⟨rfl,rfl,rfl,rfl,rfl,rfl,rfl,rfl,rfl,rfl⟩
   obtain ⟨q1,q2,q3,q4,q5,q6,q7,q8,q9,q10⟩:=ey
   rw [q1] at y1
   rw [q2,q3,q4] at y2
   rw [q5] at y3
   rw [q6,q7,q8] at y4
   rw [q2,q3,q4,q6,q7,q8,q9,q10] at K
   rw [q3,q4] at hc1
   rw [q7,q8] at hc2
   clear hX z0 z1 z2 z3 z4 r0 r1 r2 hF hu hQ q1 q2 q3 q4 q5 q6 q7 q8 q9 q10 hy
   have r:=trivial
   go_upto_region 5 with (first|(apply K.box;rfl;rfl;rfl;clear K r;intro W b0 K;have r:=K.rawS)|(apply K.alloc;rfl;rfl;exact ja3;clear K r;intro W b1 K;have r:=K.rawS)|(apply K.storeA;rfl;rfl;rfl;rfl;rfl;(exact ZUP);exact ja2;rfl;rfl;rfl;clear K r;intro W K;have r:=K.rawS))
   have hw1:IntKind.i64.wrap ((n0:Int)+(k:Int))=(n0:Int)+(k:Int):=IntWalk.i64_in _ ZO
   have HS:=jpk (fun V hF (h0:Hb V db (Value.bool false::[Value.slice hR.A hR.n hR.c,.int .i64 gv.s,.slice gv.A gv.n gv.c,.int .i64 gv.t,.slice gv.B gv.m gv.d,Value.slice hg.A hg.n hg.c,Value.slice hO.A hO.n hO.c,Value.slice (hF:Hd).A (hF:Hd).n (hF:Hd).c]).toArray 92) (h1:Hb V b1 #[.slice A0 n0 c0,.int .i64 y.s,.slice y.A y.n y.c,.int .i64 y.t,.slice y.B y.m y.d] 97)=>(show (V.cell? ⟨db,1,none⟩=some (Value.slice hR.A hR.n hR.c)∧V.cell? ⟨db,7,none⟩=some (Value.slice hO.A hO.n hO.c))∧V.cell? ⟨b1,0,none⟩=some (.slice A0 n0 c0)∧V.cell? ⟨b1,1,none⟩=some (.int .i64 y.s)∧V.cell? ⟨b1,2,none⟩=some (.slice y.A y.n y.c)∧V.cell? ⟨b1,3,none⟩=some (.int .i64 y.t)∧V.cell? ⟨b1,4,none⟩=some (.slice y.B y.m y.d) from ⟨⟨h0.cell (j:=1) rfl,h0.cell (j:=7) rfl⟩,h1.cell rfl,h1.cell rfl,h1.cell rfl,h1.cell rfl,h1.cell rfl⟩))
   have K0:=(K.drew).perm (L':=Xr++(Xo++(((b1,#[.slice A0 n0 c0,.int .i64 y.s,.slice y.A y.n y.c,.int .i64 y.t,.slice y.B y.m y.d],97):Blk)::((db,(Value.bool false::[Value.slice hR.A hR.n hR.c,.int .i64 gv.s,.slice gv.A gv.n gv.c,.int .i64 gv.t,.slice gv.B gv.m gv.d,Value.slice hg.A hg.n hg.c,Value.slice hO.A hO.n hO.c,Value.slice (⟨none,0,0⟩:Hd).A (⟨none,0,0⟩:Hd).n (⟨none,0,0⟩:Hd).c]).toArray,92):Blk)::(Xg++((ofF k Xs).flatten++L))))) Zb19
   have s0:=HS.out _ _ (K0.blk ZMA) (K0.blk ZMA)
   have HCl:=jpk (fun V L5 D5 (h:St w0 L5 D5 V) (hm5:(⟨fxP A0 n0 c0 u,fxS A0 n0 u⟩:Hl)∈D5)=>jez A0 n0 c0 u w0 V L5 D5 h (h.okAt hm5).1.1 hn)
   clear r K y0 y1 y2 y3 y4
   refine jbp 26 (fun V=>(V.cell? ⟨db,1,none⟩=some (Value.slice hR.A hR.n hR.c)∧V.cell? ⟨db,7,none⟩=some (Value.slice hO.A hO.n hO.c))∧V.cell? ⟨b1,0,none⟩=some (.slice A0 n0 c0)∧V.cell? ⟨b1,1,none⟩=some (.int .i64 y.s)∧V.cell? ⟨b1,2,none⟩=some (.slice y.A y.n y.c)∧V.cell? ⟨b1,3,none⟩=some (.int .i64 y.t)∧V.cell? ⟨b1,4,none⟩=some (.slice y.B y.m y.d)) Zb9 s0 (fun hSh=>?_)
   clear s0
   generalize World.drew W=V0 at K0 hSh ⊢
   refine jac.tkU 0 rfl ?_
   refine jac.tkU 1 rfl ?_
   refine jac.tkU 2 rfl ?_
   refine jac.tkU 3 rfl ?_
   refine jac.tkU 4 rfl ?_
   refine jac.tk 5 rfl ?_
   refine jac.tkU 6 rfl ?_
   refine jac.tk 7 rfl ?_
   refine jac.tkU 8 rfl ?_
   refine jac.tk 9 rfl ?_
   refine jac.tkU 14 rfl ?_
   refine jac.tkU 15 rfl ?_
   refine jac.tkU 16 rfl ?_
   refine jac.tk 17 rfl ?_
   refine jac.tkU 18 rfl ?_
   refine jac.tkU 19 rfl ?_
   refine jac.tkU 20 rfl ?_
   refine jac.tkU 21 rfl ?_
   refine jac.two (i:=10) (j:=22) rfl rfl rfl rfl Zb9 (fun KK hKK=>?_) (fun KK hKK=>?_)
   ·go_simp
    go_at_call 106
    refine (HCl.out _ _ _ K0 ZMB).mono ?_
    rintro e V1 ⟨val,Xc,rfl,hoc,kc⟩
    obtain ⟨A9,c9,hval⟩:=hoc.shapeL
    rw [jag] at hval
    subst hval
    have HOC:=jpk hoc
    clear hoc
    go_wp2_with fail
    refine hKK.out _ _ (fun _=>HS.out _ (⟨none,0,0⟩:Hd) (kc.blk ZMA) (kc.blk ZMA)) (fun hSq=>?_)
    have hSh:=HS.out _ (⟨none,0,0⟩:Hd) (kc.blk ZMA) (kc.blk ZMA)
    clear hKK KK hSq
    refine ZPT ?_
    refine jac.tkU 11 rfl ?_
    refine jac.two (i:=12) (j:=22) rfl rfl rfl rfl Zb9 (fun KK hKK=>?_) (fun KK hKK=>?_)
    ·go_simp
     have kl:=kc.new #[.int .i64 y.s,.slice y.A y.n y.c,.int .i64 y.t,.slice y.B y.m y.d,.slice A9 n0 c9] 90
     generalize V1.alloc (.cells #[.int .i64 y.s,.slice y.A y.n y.c,.int .i64 y.t,.slice y.B y.m y.d,.slice A9 n0 c9] 90)=V2 at kl ⊢
     generalize V1.heap.size=g1 at kl ⊢
     refine hKK.out _ _ (fun _=>HS.out _ (⟨none,0,0⟩:Hd) (kl.blk ZMA) (kl.blk ZMA)) (fun hSq=>?_)
     have hSh:=HS.out _ (⟨none,0,0⟩:Hd) (kl.blk ZMA) (kl.blk ZMA)
     clear hKK KK hSq
     refine ZPT ?_
     refine jac.two (i:=13) (j:=22) rfl rfl rfl rfl Zb9 (fun KK hKK=>?_) (fun KK hKK=>?_)
     ·replace kl:=kl.perm (L':=Xr++(((g1,#[.int .i64 y.s,.slice y.A y.n y.c,.int .i64 y.t,.slice y.B y.m y.d,.slice A9 n0 c9],90):Blk)::(Xc++(Xo++(((b1,#[.slice A0 n0 c0,.int .i64 y.s,.slice y.A y.n y.c,.int .i64 y.t,.slice y.B y.m y.d],97):Blk)::((db,(Value.bool false::[Value.slice hR.A hR.n hR.c,.int .i64 gv.s,.slice gv.A gv.n gv.c,.int .i64 gv.t,.slice gv.B gv.m gv.d,Value.slice hg.A hg.n hg.c,Value.slice hO.A hO.n hO.c,Value.slice (⟨none,0,0⟩:Hd).A (⟨none,0,0⟩:Hd).n (⟨none,0,0⟩:Hd).c]).toArray,92):Blk)::(Xg++((ofF k Xs).flatten++L))))))) Zb19
      refine kl.appOp HR.out jbD _ _ 88 rfl _ 88 Tryz.underlying88 jfe rfl rfl (⟨y,⟨A9,n0,c9⟩⟩:Ln) g1 _ (by exact List.mem_cons_self) rfl Zb3 ZO ?_
      intro vr Xr2 V3 hor kr
      replace kr:=kr.cutm
      rw [jbz] at hor
      have HOR:=jpk hor
      clear hor
      refine hKK.out _ _ (fun _=>HS.out _ (⟨none,0,0⟩:Hd) (kr.blk ZMA) (kr.blk ZMA)) (fun hSq=>?_)
      have hSh:=HS.out _ (⟨none,0,0⟩:Hd) (kr.blk ZMA) (kr.blk ZMA)
      clear hKK KK hSq
      refine ZPT ?_
      refine jac.on 22 rfl fun KK hKK=>?_
      go_simp
      have ki:=kr.new #[.int .i64 ((n0:Int)+(k:Int))] 3
      generalize V3.alloc (.cells #[.int .i64 ((n0:Int)+(k:Int))] 3)=V4 at ki ⊢
      generalize V3.heap.size=g2 at ki ⊢
      refine hKK.out _ _ (fun _=>HS.out _ (⟨none,0,0⟩:Hd) (ki.blk ZMA) (ki.blk ZMA)) (fun hSq=>?_)
      have hSh:=HS.out _ (⟨none,0,0⟩:Hd) (ki.blk ZMA) (ki.blk ZMA)
      clear hKK KK hSq
      refine ZPT ?_
      refine jac.on 23 rfl fun KK hKK=>?_
      replace ki:=ki.perm (L':=Xo++(((g2,#[.int .i64 ((n0:Int)+(k:Int))],3):Blk)::(Xr2++(Xc++(((b1,#[.slice A0 n0 c0,.int .i64 y.s,.slice y.A y.n y.c,.int .i64 y.t,.slice y.B y.m y.d],97):Blk)::((db,(Value.bool false::[Value.slice hR.A hR.n hR.c,.int .i64 gv.s,.slice gv.A gv.n gv.c,.int .i64 gv.t,.slice gv.B gv.m gv.d,Value.slice hg.A hg.n hg.c,Value.slice hO.A hO.n hO.c,Value.slice (⟨none,0,0⟩:Hd).A (⟨none,0,0⟩:Hd).n (⟨none,0,0⟩:Hd).c]).toArray,92):Blk)::(Xg++((ofF k Xs).flatten++L))))))) Zb19
      exact ZQ0
     ·go_simp
      have ki:=kl.new #[.int .i64 ((n0:Int)+(k:Int))] 3
      generalize V2.alloc (.cells #[.int .i64 ((n0:Int)+(k:Int))] 3)=V3 at ki ⊢
      generalize V2.heap.size=g2 at ki ⊢
      refine hKK.out _ _ (fun _=>HS.out _ (⟨none,0,0⟩:Hd) (ki.blk ZMA) (ki.blk ZMA)) (fun hSq=>?_)
      have hSh:=HS.out _ (⟨none,0,0⟩:Hd) (ki.blk ZMA) (ki.blk ZMA)
      clear hKK KK hSq
      refine ZPT ?_
      refine jac.on 13 rfl fun KK hKK=>?_
      replace kl:=ki.perm (L':=Xr++(((g1,#[.int .i64 y.s,.slice y.A y.n y.c,.int .i64 y.t,.slice y.B y.m y.d,.slice A9 n0 c9],90):Blk)::(((g2,#[.int .i64 ((n0:Int)+(k:Int))],3):Blk)::(Xc++(Xo++(((b1,#[.slice A0 n0 c0,.int .i64 y.s,.slice y.A y.n y.c,.int .i64 y.t,.slice y.B y.m y.d],97):Blk)::((db,(Value.bool false::[Value.slice hR.A hR.n hR.c,.int .i64 gv.s,.slice gv.A gv.n gv.c,.int .i64 gv.t,.slice gv.B gv.m gv.d,Value.slice hg.A hg.n hg.c,Value.slice hO.A hO.n hO.c,Value.slice (⟨none,0,0⟩:Hd).A (⟨none,0,0⟩:Hd).n (⟨none,0,0⟩:Hd).c]).toArray,92):Blk)::(Xg++((ofF k Xs).flatten++L)))))))) Zb19
      refine kl.appOp HR.out jbD _ _ 88 rfl _ 88 Tryz.underlying88 jfe rfl rfl (⟨y,⟨A9,n0,c9⟩⟩:Ln) g1 _ (by exact List.mem_cons_self) rfl Zb3 ZO ?_
      intro vr Xr2 V4 hor kr
      replace kr:=kr.cutm
      rw [jbz] at hor
      have HOR:=jpk hor
      clear hor
      refine hKK.out _ _ (fun _=>HS.out _ (⟨none,0,0⟩:Hd) (kr.blk ZMA) (kr.blk ZMA)) (fun hSq=>?_)
      have hSh:=HS.out _ (⟨none,0,0⟩:Hd) (kr.blk ZMA) (kr.blk ZMA)
      clear hKK KK hSq
      refine ZPT ?_
      refine jac.on 23 rfl fun KK hKK=>?_
      replace ki:=kr.perm (L':=Xo++(((g2,#[.int .i64 ((n0:Int)+(k:Int))],3):Blk)::(Xr2++(Xc++(((b1,#[.slice A0 n0 c0,.int .i64 y.s,.slice y.A y.n y.c,.int .i64 y.t,.slice y.B y.m y.d],97):Blk)::((db,(Value.bool false::[Value.slice hR.A hR.n hR.c,.int .i64 gv.s,.slice gv.A gv.n gv.c,.int .i64 gv.t,.slice gv.B gv.m gv.d,Value.slice hg.A hg.n hg.c,Value.slice hO.A hO.n hO.c,Value.slice (⟨none,0,0⟩:Hd).A (⟨none,0,0⟩:Hd).n (⟨none,0,0⟩:Hd).c]).toArray,92):Blk)::(Xg++((ofF k Xs).flatten++L))))))) Zb19
      exact ZQ0
    ·go_simp
     have ki:=kc.new #[.int .i64 ((n0:Int)+(k:Int))] 3
     generalize V1.alloc (.cells #[.int .i64 ((n0:Int)+(k:Int))] 3)=V2 at ki ⊢
     generalize V1.heap.size=g2 at ki ⊢
     refine hKK.out _ _ (fun _=>HS.out _ (⟨none,0,0⟩:Hd) (ki.blk ZMA) (ki.blk ZMA)) (fun hSq=>?_)
     have hSh:=HS.out _ (⟨none,0,0⟩:Hd) (ki.blk ZMA) (ki.blk ZMA)
     clear hKK KK hSq
     refine ZPT ?_
     refine jac.on 12 rfl fun KK hKK=>?_
     go_simp
     have kl:=ki.new #[.int .i64 y.s,.slice y.A y.n y.c,.int .i64 y.t,.slice y.B y.m y.d,.slice A9 n0 c9] 90
     generalize V2.alloc (.cells #[.int .i64 y.s,.slice y.A y.n y.c,.int .i64 y.t,.slice y.B y.m y.d,.slice A9 n0 c9] 90)=V3 at kl ⊢
     generalize V2.heap.size=g1 at kl ⊢
     refine hKK.out _ _ (fun _=>HS.out _ (⟨none,0,0⟩:Hd) (kl.blk ZMA) (kl.blk ZMA)) (fun hSq=>?_)
     have hSh:=HS.out _ (⟨none,0,0⟩:Hd) (kl.blk ZMA) (kl.blk ZMA)
     clear hKK KK hSq
     refine ZPT ?_
     refine jac.on 13 rfl fun KK hKK=>?_
     replace kl:=kl.perm (L':=Xr++(((g1,#[.int .i64 y.s,.slice y.A y.n y.c,.int .i64 y.t,.slice y.B y.m y.d,.slice A9 n0 c9],90):Blk)::(((g2,#[.int .i64 ((n0:Int)+(k:Int))],3):Blk)::(Xc++(Xo++(((b1,#[.slice A0 n0 c0,.int .i64 y.s,.slice y.A y.n y.c,.int .i64 y.t,.slice y.B y.m y.d],97):Blk)::((db,(Value.bool false::[Value.slice hR.A hR.n hR.c,.int .i64 gv.s,.slice gv.A gv.n gv.c,.int .i64 gv.t,.slice gv.B gv.m gv.d,Value.slice hg.A hg.n hg.c,Value.slice hO.A hO.n hO.c,Value.slice (⟨none,0,0⟩:Hd).A (⟨none,0,0⟩:Hd).n (⟨none,0,0⟩:Hd).c]).toArray,92):Blk)::(Xg++((ofF k Xs).flatten++L)))))))) Zb19
     refine kl.appOp HR.out jbD _ _ 88 rfl _ 88 Tryz.underlying88 jfe rfl rfl (⟨y,⟨A9,n0,c9⟩⟩:Ln) g1 _ (by exact List.mem_cons_self) rfl Zb3 ZO ?_
     intro vr Xr2 V4 hor kr
     replace kr:=kr.cutm
     rw [jbz] at hor
     have HOR:=jpk hor
     clear hor
     refine hKK.out _ _ (fun _=>HS.out _ (⟨none,0,0⟩:Hd) (kr.blk ZMA) (kr.blk ZMA)) (fun hSq=>?_)
     have hSh:=HS.out _ (⟨none,0,0⟩:Hd) (kr.blk ZMA) (kr.blk ZMA)
     clear hKK KK hSq
     refine ZPT ?_
     refine jac.on 23 rfl fun KK hKK=>?_
     replace ki:=kr.perm (L':=Xo++(((g2,#[.int .i64 ((n0:Int)+(k:Int))],3):Blk)::(Xr2++(Xc++(((b1,#[.slice A0 n0 c0,.int .i64 y.s,.slice y.A y.n y.c,.int .i64 y.t,.slice y.B y.m y.d],97):Blk)::((db,(Value.bool false::[Value.slice hR.A hR.n hR.c,.int .i64 gv.s,.slice gv.A gv.n gv.c,.int .i64 gv.t,.slice gv.B gv.m gv.d,Value.slice hg.A hg.n hg.c,Value.slice hO.A hO.n hO.c,Value.slice (⟨none,0,0⟩:Hd).A (⟨none,0,0⟩:Hd).n (⟨none,0,0⟩:Hd).c]).toArray,92):Blk)::(Xg++((ofF k Xs).flatten++L))))))) Zb19
     exact ZQ0
   ·go_simp
    have ki:=K0.new #[.int .i64 ((n0:Int)+(k:Int))] 3
    generalize V0.alloc (.cells #[.int .i64 ((n0:Int)+(k:Int))] 3)=V1 at ki ⊢
    generalize V0.heap.size=g2 at ki ⊢
    refine hKK.out _ _ (fun _=>HS.out _ (⟨none,0,0⟩:Hd) (ki.blk ZMA) (ki.blk ZMA)) (fun hSq=>?_)
    have hSh:=HS.out _ (⟨none,0,0⟩:Hd) (ki.blk ZMA) (ki.blk ZMA)
    clear hKK KK hSq
    refine ZPT ?_
    refine jac.on 10 rfl fun KK hKK=>?_
    go_simp
    go_at_call 106
    refine (HCl.out _ _ _ ki ZMB).mono ?_
    rintro e V2 ⟨val,Xc,rfl,hoc,kc⟩
    obtain ⟨A9,c9,hval⟩:=hoc.shapeL
    rw [jag] at hval
    subst hval
    have HOC:=jpk hoc
    clear hoc
    go_wp2_with fail
    refine hKK.out _ _ (fun _=>HS.out _ (⟨none,0,0⟩:Hd) (kc.blk ZMA) (kc.blk ZMA)) (fun hSq=>?_)
    have hSh:=HS.out _ (⟨none,0,0⟩:Hd) (kc.blk ZMA) (kc.blk ZMA)
    clear hKK KK hSq
    refine ZPT ?_
    refine jac.tkU 11 rfl ?_
    refine jac.on 12 rfl fun KK hKK=>?_
    go_simp
    have kl:=kc.new #[.int .i64 y.s,.slice y.A y.n y.c,.int .i64 y.t,.slice y.B y.m y.d,.slice A9 n0 c9] 90
    generalize V2.alloc (.cells #[.int .i64 y.s,.slice y.A y.n y.c,.int .i64 y.t,.slice y.B y.m y.d,.slice A9 n0 c9] 90)=V3 at kl ⊢
    generalize V2.heap.size=g1 at kl ⊢
    refine hKK.out _ _ (fun _=>HS.out _ (⟨none,0,0⟩:Hd) (kl.blk ZMA) (kl.blk ZMA)) (fun hSq=>?_)
    have hSh:=HS.out _ (⟨none,0,0⟩:Hd) (kl.blk ZMA) (kl.blk ZMA)
    clear hKK KK hSq
    refine ZPT ?_
    refine jac.on 13 rfl fun KK hKK=>?_
    replace kl:=kl.perm (L':=Xr++(((g1,#[.int .i64 y.s,.slice y.A y.n y.c,.int .i64 y.t,.slice y.B y.m y.d,.slice A9 n0 c9],90):Blk)::(((g2,#[.int .i64 ((n0:Int)+(k:Int))],3):Blk)::(Xc++(Xo++(((b1,#[.slice A0 n0 c0,.int .i64 y.s,.slice y.A y.n y.c,.int .i64 y.t,.slice y.B y.m y.d],97):Blk)::((db,(Value.bool false::[Value.slice hR.A hR.n hR.c,.int .i64 gv.s,.slice gv.A gv.n gv.c,.int .i64 gv.t,.slice gv.B gv.m gv.d,Value.slice hg.A hg.n hg.c,Value.slice hO.A hO.n hO.c,Value.slice (⟨none,0,0⟩:Hd).A (⟨none,0,0⟩:Hd).n (⟨none,0,0⟩:Hd).c]).toArray,92):Blk)::(Xg++((ofF k Xs).flatten++L)))))))) Zb19
    refine kl.appOp HR.out jbD _ _ 88 rfl _ 88 Tryz.underlying88 jfe rfl rfl (⟨y,⟨A9,n0,c9⟩⟩:Ln) g1 _ (by exact List.mem_cons_self) rfl Zb3 ZO ?_
    intro vr Xr2 V4 hor kr
    replace kr:=kr.cutm
    rw [jbz] at hor
    have HOR:=jpk hor
    clear hor
    refine hKK.out _ _ (fun _=>HS.out _ (⟨none,0,0⟩:Hd) (kr.blk ZMA) (kr.blk ZMA)) (fun hSq=>?_)
    have hSh:=HS.out _ (⟨none,0,0⟩:Hd) (kr.blk ZMA) (kr.blk ZMA)
    clear hKK KK hSq
    refine ZPT ?_
    refine jac.on 23 rfl fun KK hKK=>?_
    replace ki:=kr.perm (L':=Xo++(((g2,#[.int .i64 ((n0:Int)+(k:Int))],3):Blk)::(Xr2++(Xc++(((b1,#[.slice A0 n0 c0,.int .i64 y.s,.slice y.A y.n y.c,.int .i64 y.t,.slice y.B y.m y.d],97):Blk)::((db,(Value.bool false::[Value.slice hR.A hR.n hR.c,.int .i64 gv.s,.slice gv.A gv.n gv.c,.int .i64 gv.t,.slice gv.B gv.m gv.d,Value.slice hg.A hg.n hg.c,Value.slice hO.A hO.n hO.c,Value.slice (⟨none,0,0⟩:Hd).A (⟨none,0,0⟩:Hd).n (⟨none,0,0⟩:Hd).c]).toArray,92):Blk)::(Xg++((ofF k Xs).flatten++L))))))) Zb19
    exact ZQ0
  ·have e:k=m:=by omega
   subst e
   have HQK:=HQ
   clear hlt
   go_wp2_with fail
   go_loopg [54] n (fun gk s54 wx=>∃(j:Nat) (hF:Hd) (Xf:List Blk),j≤n∧gk=n-j∧s54=.int .i64 j∧Hid (OwL 1 iEnc 3 (Value.slice hF.A hF.n hF.c) (ofF j (fun i=>((i:Nat):Int))) Xf)∧St w0 (Xf++((db,(Value.bool false::[Value.slice hR.A hR.n hR.c,.int .i64 gv.s,.slice gv.A gv.n gv.c,.int .i64 gv.t,.slice gv.B gv.m gv.d,Value.slice hg.A hg.n hg.c,Value.slice hO.A hO.n hO.c,Value.slice hF.A hF.n hF.c]).toArray,92)::(Xr++(Xo++(Xg++((ofF k Xs).flatten++L)))))) (ofam k k n V::⟨rwP k Y,rwS k Y⟩::D) wx)
   case atStart=>exact ⟨0,⟨none,0,0⟩,[],Nat.zero_le _,rfl,rfl,jpk OwL.nil,K⟩
   case round =>
    clear K
    obtain ⟨j,hF,Xf,hj,rfl,rfl,HF,K⟩:=hrel
    by_cases hjn:j<n
    ·have hji:(j:Int)<(n:Int):=by omega
     have hj0:(0:Int)≤(j:Int):=by omega
     have cF:=(K.blk (b:=db) (cs:=(Value.bool false::[Value.slice hR.A hR.n hR.c,.int .i64 gv.s,.slice gv.A gv.n gv.c,.int .i64 gv.t,.slice gv.B gv.m gv.d,Value.slice hg.A hg.n hg.c,Value.slice hO.A hO.n hO.c,Value.slice hF.A hF.n hF.c]).toArray) (t:=92) ZMA).cell (j:=8) rfl
     go_wp2_with (first
      | (at_builtin;refine K.app1 HF.out jap rfl _ _ 22 rfl _ 8 Tryz.underlying22 jgW rfl (by exact rfl) (j:Int) _ rfl _ rfl (by exact rfl) Zb3 ZO ?_;clear cF;intro v4 X4 W4 ho4 K4;rw [jbz] at ho4;obtain ⟨A6,c6,hv4⟩:=ho4.shapeL;rw [jag] at hv4;subst hv4)
      | (refine K4.storeS (b:=db) (off:=8) (cs:=(Value.bool false::[Value.slice hR.A hR.n hR.c,.int .i64 gv.s,.slice gv.A gv.n gv.c,.int .i64 gv.t,.slice gv.B gv.m gv.d,Value.slice hg.A hg.n hg.c,Value.slice hO.A hO.n hO.c,Value.slice hF.A hF.n hF.c]).toArray) (cs':=(Value.bool false::[Value.slice hR.A hR.n hR.c,.int .i64 gv.s,.slice gv.A gv.n gv.c,.int .i64 gv.t,.slice gv.B gv.m gv.d,Value.slice hg.A hg.n hg.c,Value.slice hO.A hO.n hO.c,Value.slice (⟨A6,j+1,c6⟩:Hd).A (⟨A6,j+1,c6⟩:Hd).n (⟨A6,j+1,c6⟩:Hd).c]).toArray) (t:=92) rfl rfl _ _ _ rfl A6 (j+1) c6 rfl rfl ZUA rfl jfM Zb0 ?_;intro W6 K6))
     have HF2:=jpk (show OwL 1 iEnc 3 (Value.slice A6 (j+1) c6) (ofF (j+1) (fun i=>((i:Nat):Int))) X4 from by
      have e:ofF (j+1) (putF (fun i=>((i:Nat):Int)) j (j:Int))=ofF (j+1) (fun i=>((i:Nat):Int)):=jaD fun i hi=>by
       by_cases e:i=j
       ·subst e;rw [jaf]
       ·rw [jad e]
      rw [←e]
      exact ho4)
     clear ho4 K4
     go_roundg (n-(j+1))
     case rel=>exact ⟨j+1,⟨A6,j+1,c6⟩,X4,hjn,rfl,by go_num,HF2,K6⟩
     case measure=>omega
    ·have e:j=n:=by omega
     have HF2:=jpk (show OwL 1 iEnc 3 (Value.slice hF.A hF.n hF.c) (ofF n (fun i=>((i:Nat):Int))) Xf from by rw [←e];exact HF.out)
     clear e HF
     have K1:St w0 _ (vfam (k+1) n V::ofam k k n V::⟨rwP k Y,rwS k Y⟩::D) _:=K.fam (I:=fun p:Nat × Nat=>p.1<k+1∧p.2<n) (P:=fun p=>(V p.1 p.2).on) (S:=fun p=>(V p.1 p.2).S) fun p hp=>K.famAt (i:=p) (I:=fun p:Nat × Nat=>(p.1<k∨p.1=k)∧p.2<n) (P:=fun p=>(V p.1 p.2).on) (S:=fun p=>(V p.1 p.2).S) ZMB ⟨by have:=hp.1;omega,hp.2⟩
     have K2:=K1.lessS (D':=vfam (k+1) n V::⟨rwP k Y,rwS k Y⟩::D) Zb10
     have K3:=K2.perm (L':=(((db,(Value.bool false::[Value.slice hR.A hR.n hR.c,.int .i64 gv.s,.slice gv.A gv.n gv.c,.int .i64 gv.t,.slice gv.B gv.m gv.d,Value.slice hg.A hg.n hg.c,Value.slice hO.A hO.n hO.c,Value.slice hF.A hF.n hF.c]).toArray,92):Blk)::(Xr++(Xo++(Xf++((ofF k Xs).flatten++Xg)))))++L) (by
      classical exact List.perm_iff_count.2 fun z=>by simp only [List.count_append,List.count_cons];omega)
     have e1:ofF k (lnF Y (putF hd k hg))=ofF k (lnF Y hd):=jaD fun i hi=>by
      show (⟨Y i,putF hd k hg i⟩:Ln)=⟨Y i,hd i⟩
      rw [jad ZO]
     have e2:ofF n (V k)=ofF n vg:=jaD fun j hj=>HV.out j
     have HE:=jpk (show OpP w0 L D k n (opnD n (rwA2 ls) (rwB2 ls false) c) (.returned (.pointer (some ⟨db,0,none⟩))) wr from ⟨db,_,_,rfl,jpk ⟨hR,hO,hF,gv,putF hd k hg,Y,V,Xr,Xo,Xf,putF Xs k Xg,by rw [e1];exact HR.out,HO.out,HF2.out,fun i hi=>by
      by_cases e:i=k
      ·subst e
       rw [jaf,jaf,e2,hhg]
       exact HOG.out
      ·rw [jad e,jad e]
       exact (HQ.out i ZO).2.2,⟨fun i hi=>(HQ.out i hi).1,fun i j hi hj=>(HQ.out i hi).2.1 j hj,fun j hj=>by
       rw [HV.out j]
       exact HC.out j hj⟩,by rw [jaf,jgT],rfl⟩,K3⟩)
     clear K K1 K2 K3 HR HO HQ HV HF2 HQK
     go_wp2_with fail
     go_ret
     exact HE.out
end Go.Proofs.YtgikfcjndiohjaaGreat
