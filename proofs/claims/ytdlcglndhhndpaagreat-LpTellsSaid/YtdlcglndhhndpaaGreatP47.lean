/- Laws and walks; conditions stand in each theorem. -/
import Derived.Test.YtdlcglndhhndpaaGreatP45
set_option linter.unusedSimpArgs false
set_option linter.unusedVariables false
set_option maxHeartbeats 20000000
set_option maxRecDepth 100000
namespace Go.Proofs.YtdlcglndhhndpaaGreat
open Go.RowKit
def DicT (m N db:Nat) (b:Bool) (G:Dc) (Ld:List Blk) (Dd:List Hl):Prop :=
 ∃(hV hA hO hF:Hd) (hd:Nat→Hd) (Y:Nat→Rw) (V:Nat→Nat→Rw) (Xv Xa Xo Xf:List Blk) (Xs:Nat→List Blk),
  OwL 4 Rw.cs 50 (Value.slice hV.A hV.n hV.c) (ofF m Y) Xv∧OwL 1 Hd.cs 23 (Value.slice hA.A hA.n hA.c) (ofF m hd) Xa∧OwL 1 iEnc 3 (Value.slice hO.A hO.n hO.c) (ofF m (fun i=>((G.own i:Nat):Int))) Xo∧OwL 1 iEnc 3 (Value.slice hF.A hF.n hF.c) (ofF N (fun i=>((G.free i:Nat):Int))) Xf∧(∀i,i<m+1→OwL 4 Rw.cs 50 (Value.slice (hd i).A (hd i).n (hd i).c) (ofF N (V i)) (Xs i))∧Agr m N Y V G ∧
  Ld=(db,#[Value.slice hV.A hV.n hV.c,Value.slice hA.A hA.n hA.c,Value.slice (hd m).A (hd m).n (hd m).c,Value.slice hO.A hO.n hO.c,Value.slice hF.A hF.n hF.c,.bool b],98)::(Xv++(Xa++((ofF (m+1) Xs).flatten++(Xo++Xf))))∧Dd=[vfam (m+1) N V,⟨rwP m Y,rwS m Y⟩]
section
variable {m N db:Nat} {b:Bool} {G:Dc} {Ld:List Blk} {Dd:List Hl} {w0:World} {L:List Blk}
theorem DicT.flag (h:DicT m N db b G Ld Dd) (hs:Ld.Sublist L):∀(W:World) (D:List Hl),St w0 L D W→W.cell? ⟨db,5,none⟩=some (.bool b):=by
 obtain ⟨hV,hA,hO,hF,hd,Y,V,Xv,Xa,Xo,Xf,Xs,-,-,-,-,-,-,rfl,-⟩:=h;have hm:=hs.subset List.mem_cons_self;exact fun W D K=>(K.blk hm).cell (j:=5) rfl
theorem DicT.ownR (h:DicT m N db b G Ld Dd) (hs:Ld.Sublist L):∃A c,(0<m→∃g,A=some ⟨g,0,none⟩∧(m≤c∧c≤9223372036854775807)∧∀(W:World) (D:List Hl),St w0 L D W→∀i,i<m→W.cell? ⟨g,i,none⟩=some (.int .i64 ((G.own i:Nat):Int)))∧∀(W:World) (D:List Hl),St w0 L D W→W.cell? ⟨db,3,none⟩=some (.slice A m c):=by
 obtain ⟨hV,hA,hO,hF,hd,Y,V,Xv,Xa,Xo,Xf,Xs,h1,h2,h3,h4,h5,h6,rfl,-⟩:=h;have hmem:=hs.subset List.mem_cons_self;have hsub:Xo.Sublist L:=((List.sublist_append_left Xo _).trans ((List.sublist_append_right _ _).trans ((List.sublist_append_right Xa _).trans ((List.sublist_append_right Xv _).trans (List.sublist_cons_self _ _))))).trans hs;obtain ⟨A',c',e⟩:=h3.shapeL;rw [jam] at e;injection e with e1 e2 e3
 refine ⟨hO.A,hO.c,fun hm=>?_,fun W D K=>?_⟩
 ·obtain ⟨g,cap,J,f,rfl,hcap⟩:=h3.blk ZO;exact ZQ133
 ·rw [←e2];exact (K.blk hmem).cell (j:=3) rfl
theorem DicT.freeR (h:DicT m N db b G Ld Dd) (hs:Ld.Sublist L):∃A c,(0<N→∃g,A=some ⟨g,0,none⟩∧(N≤c∧c≤9223372036854775807)∧∀(W:World) (D:List Hl),St w0 L D W→∀i,i<N→W.cell? ⟨g,i,none⟩=some (.int .i64 ((G.free i:Nat):Int)))∧∀(W:World) (D:List Hl),St w0 L D W→W.cell? ⟨db,4,none⟩=some (.slice A N c):=by
 obtain ⟨hV,hA,hO,hF,hd,Y,V,Xv,Xa,Xo,Xf,Xs,h1,h2,h3,h4,h5,h6,rfl,-⟩:=h;have hmem:=hs.subset List.mem_cons_self;have hsub:Xf.Sublist L:=((List.sublist_append_right Xo _).trans ((List.sublist_append_right _ _).trans ((List.sublist_append_right Xa _).trans ((List.sublist_append_right Xv _).trans (List.sublist_cons_self _ _))))).trans hs;obtain ⟨A',c',e⟩:=h4.shapeL;rw [jam] at e;injection e with e1 e2 e3
 refine ⟨hF.A,hF.c,fun hm=>?_,fun W D K=>?_⟩
 ·obtain ⟨g,cap,J,f,rfl,hcap⟩:=h4.blk ZO;exact ZQ133
 ·rw [←e2];exact (K.blk hmem).cell (j:=4) rfl
theorem DicT.val (h:DicT m N db b G Ld Dd) (hs:Ld.Sublist L) {i:Nat} (hi:i<m):∃g c y,isQ y (G.v i)∧(m≤c∧c≤9223372036854775807)∧∀(W:World) (D:List Hl),St w0 L D W→W.cell? ⟨db,0,none⟩=some (.slice (some ⟨g,0,none⟩) m c)∧(W.cell? ⟨g,i*4,none⟩=some (.int .i64 y.s)∧W.cell? ⟨g,i*4+1,none⟩=some (.slice y.A y.n y.c)∧W.cell? ⟨g,i*4+2,none⟩=some (.int .i64 y.t)∧W.cell? ⟨g,i*4+3,none⟩=some (.slice y.B y.m y.d))∧((∀x∈Dd,x∈D)→St w0 L (⟨rdP y.B y.m y.d y.k,rdS y.B y.m⟩::⟨rdP y.A y.n y.c y.l,rdS y.A y.n⟩::D) W):=by
 obtain ⟨hV,hA,hO,hF,hd,Y,V,Xv,Xa,Xo,Xf,Xs,h1,h2,h3,h4,h5,h6,rfl,rfl⟩:=h;have hmem:=hs.subset List.mem_cons_self;obtain ⟨g,c,J,e,rfl,hcap⟩:=h1.blk ZO;injection e with e1 e2 e3
 refine ⟨g,c,Y i,h6.1 i hi,hcap,fun W D K=>⟨?_,?_,fun hD=>?_⟩⟩
 ·rw [←e1,←e2,←e3];exact (K.blk hmem).cell (j:=0) rfl
 ·exact ZQ93
 ·exact jmn
theorem DicT.elem (h:DicT m N db b G Ld Dd) (hs:Ld.Sublist L) {i j:Nat} (hi:i<m) (hj:j<N):∃hb hc rb cp x,isQ x (G.a i j)∧(m≤hc∧hc≤9223372036854775807)∧(N≤cp∧cp≤9223372036854775807)∧∀(W:World) (D:List Hl),St w0 L D W→W.cell? ⟨db,1,none⟩=some (.slice (some ⟨hb,0,none⟩) m hc)∧W.cell? ⟨hb,i,none⟩=some (.slice (some ⟨rb,0,none⟩) N cp)∧(W.cell? ⟨rb,j*4,none⟩=some (.int .i64 x.s)∧W.cell? ⟨rb,j*4+1,none⟩=some (.slice x.A x.n x.c)∧W.cell? ⟨rb,j*4+2,none⟩=some (.int .i64 x.t)∧W.cell? ⟨rb,j*4+3,none⟩=some (.slice x.B x.m x.d))∧((∀x∈Dd,x∈D)→St w0 L (⟨rdP x.B x.m x.d x.k,rdS x.B x.m⟩::⟨rdP x.A x.n x.c x.l,rdS x.A x.n⟩::D) W):=by
 obtain ⟨hV,hA,hO,hF,hd,Y,V,Xv,Xa,Xo,Xf,Xs,h1,h2,h3,h4,h5,h6,rfl,rfl⟩:=h;have hmem:=hs.subset List.mem_cons_self;obtain ⟨hb,hc,J,e,rfl,hcap⟩:=h2.blk ZO;injection e with e1 e2 e3
 obtain ⟨rb,cp,J2,f,g,hcp⟩:=(h5 i ZO).blk ZO;injection f with f1 f2 f3
 have hm2:((rb,rwA N (V i) J2,50):Blk)∈L:=hs.subset (List.mem_cons_of_mem _ (List.mem_append_right _ (List.mem_append_right _ (List.mem_append_left _ (jcR (X:=Xs) (i:=i) ZO Zb19)))));have hm3:((hb,recA Hd.cs m hd J,23):Blk)∈L:=hs.subset (List.mem_cons_of_mem _ (List.mem_append_right _ (List.mem_append_left _ List.mem_cons_self)));refine ⟨hb,hc,rb,cp,V i j,h6.2.1 i j hi hj,hcap,hcp,fun W D K=>⟨?_,?_,?_,fun hD=>?_⟩⟩
 ·exact jjR
 ·rw [←f1,←f2,←f3];exact (K.blk hm3).cell (jf9 hi)
 ·exact ZQ38
 ·exact ZQ87
theorem DicT.goal (h:DicT m N db b G Ld Dd) (hs:Ld.Sublist L) {j:Nat} (hj:j<N):∃rb cp x,isQ x (G.c j)∧(N≤cp∧cp≤9223372036854775807)∧∀(W:World) (D:List Hl),St w0 L D W→W.cell? ⟨db,2,none⟩=some (.slice (some ⟨rb,0,none⟩) N cp)∧(W.cell? ⟨rb,j*4,none⟩=some (.int .i64 x.s)∧W.cell? ⟨rb,j*4+1,none⟩=some (.slice x.A x.n x.c)∧W.cell? ⟨rb,j*4+2,none⟩=some (.int .i64 x.t)∧W.cell? ⟨rb,j*4+3,none⟩=some (.slice x.B x.m x.d))∧((∀x∈Dd,x∈D)→St w0 L (⟨rdP x.B x.m x.d x.k,rdS x.B x.m⟩::⟨rdP x.A x.n x.c x.l,rdS x.A x.n⟩::D) W):=by
 obtain ⟨hV,hA,hO,hF,hd,Y,V,Xv,Xa,Xo,Xf,Xs,h1,h2,h3,h4,h5,h6,rfl,rfl⟩:=h;have hmem:=hs.subset List.mem_cons_self;obtain ⟨rb,cp,J2,f,g,hcp⟩:=(h5 m ZO).blk ZO;injection f with f1 f2 f3
 have hm2:((rb,rwA N (V m) J2,50):Blk)∈L:=hs.subset (List.mem_cons_of_mem _ (List.mem_append_right _ (List.mem_append_right _ (List.mem_append_left _ (jcR (X:=Xs) (i:=m) ZO Zb19)))));refine ⟨rb,cp,V m j,h6.2.2 j hj,hcp,fun W D K=>⟨?_,?_,fun hD=>?_⟩⟩
 ·rw [←f1,←f2,←f3];exact (K.blk hmem).cell (j:=2) rfl
 ·exact ZQ38
 ·exact ZQ88
end
def XdT (w0:World) (L1:List Blk) (D:List Hl) (m N db r s:Nat) (b:Bool) (G:Dc) (e:Ending) (W':World):Prop :=
 ∃(b':Bool) (G':Dc) (Ld:List Blk) (Dd:List Hl),e=.returned (.tuple #[])∧Hid (DicT m N db b' G' Ld Dd)∧Hid (FulK b b' (G.fitX m N r s=true))∧Hid (G.fitX m N r s=true→G'=G.xch r s)∧St w0 (Ld++L1) (Dd++D) W'
theorem jeV {w0 w:World} {L1:List Blk} {D:List Hl} {m N db r s:Nat} {b:Bool} {G:Dc} {Ld:List Blk} {Dd:List Hl} (h:DicT m N db b G Ld Dd) (K:St w0 (Ld++L1) (Dd++D) w) (hr:r<m) (hs:s<N) (hm:m≤1000) (hN:N≤1000) (hp:G.a r s≠0) :
 Calls Tryz.prog 120 #[.pointer (some ⟨db,0,none⟩),.int .i64 r,.int .i64 s] w (XdT w0 L1 D m N db r s b G):=by
 obtain ⟨hV,hA,hO,hF,hd,Y,V,Xv,Xa,Xo,Xf,Xs,h1,h2,h3,h4,h5,h6,rfl,rfl⟩:=h;obtain ⟨vb,vc,VJ,ev,rfl,hvc,h1'⟩:=h1.blk2 jax ZO;obtain ⟨hb,hc,HJ,eh,rfl,hhc,h2'⟩:=h2.blk2 je6 ZO;obtain ⟨ob,oc,OJ,eo,rfl,hoc,h3'⟩:=h3.blk2 jaq ZO;obtain ⟨fb,fc,FJ,ef,rfl,hfc,h4'⟩:=h4.blk2 jaq ZO
 have h5':∀i,∃g cap J,i<m+1→Value.slice (hd i).A (hd i).n (hd i).c=.slice (some ⟨g,0,none⟩) N cap∧Xs i=[(g,recA Rw.cs N (V i) J,50)]∧(N≤cap∧cap≤9223372036854775807)∧∀V',OwL 4 Rw.cs 50 (Value.slice (hd i).A (hd i).n (hd i).c) (ofF N V') [(g,recA Rw.cs N V' J,50)]:=fun i=>by
  by_cases hi:i<m+1
  ·obtain ⟨g,cap,J,k1,k2,k3⟩:=(h5 i hi).blk2 jax ZO;exact ⟨g,cap,J,fun _=>⟨k1,k2,k3⟩⟩
  ·exact ⟨0,0,[],fun h=>absurd h hi⟩
 obtain ⟨rb,h5'⟩:=Classical.axiomOfChoice h5';obtain ⟨cp,h5'⟩:=Classical.axiomOfChoice h5';obtain ⟨J,h5'⟩:=Classical.axiomOfChoice h5';obtain ⟨M,hM⟩:∃M:Mm,M=⟨N,rb,cp,J,V⟩:=⟨_,rfl⟩;have hMN:M.N=N:=by rw [hM]
 have hMV:∀V',vfam (m+1) N V'=(M.wV V').fam (m+1):=fun V'=>by rw [hM];rfl
 have hhd:∀i,i<m+1→hd i=M.hd (m+1) i:=fun i hi=>by
  obtain ⟨k1,-,-⟩:=h5' i hi;injection k1 with k1 k2 k3
  rw [hM];show hd i=⟨some ⟨rb i,0,none⟩,N,cp i⟩;rw [←k1,←k2,←k3]
 have hrows:∀V':Nat→Nat→Rw,(ofF (m+1) fun i=>[((rb i,recA Rw.cs N (V' i) (J i),50):Blk)]).flatten=(M.wV V').rows (m+1):=fun V'=>by
  exact ZQ106
 have hXs:(ofF (m+1) Xs).flatten=(M.wV V).rows (m+1):=by
  rw [←hrows V,jav (f:=Xs) (g:=fun i=>[((rb i,recA Rw.cs N (V i) (J i),50):Blk)]) fun i hi=>(h5' i hi).2.1]
 have hln:recA Hd.cs m hd HJ=recA Hd.cs m (M.hd (m+1)) HJ:=jeC fun i hi=>hhd i ZO
 injection ev with v1 v2 v3
 injection eh with e1 e2 e3
 injection eo with o1 o2 o3
 injection ef with f1 f2 f3
 obtain ⟨q,hq⟩:∃q,q=m+1:=⟨_,rfl⟩
 have key:∀(b':Bool) (Y':Nat→Rw) (V':Nat→Nat→Rw) (o f:Nat→Int),(((db,#[Value.slice hV.A hV.n hV.c,Value.slice hA.A hA.n hA.c,Value.slice (hd m).A (hd m).n (hd m).c,Value.slice hO.A hO.n hO.c,Value.slice hF.A hF.n hF.c,.bool b'],98):Blk)::([(vb,recA Rw.cs m Y' VJ,50)]++([(hb,recA Hd.cs m hd HJ,23)]++((M.wV V').rows (m+1)++([(ob,recA iEnc m o OJ,3)]++[(fb,recA iEnc N f FJ,3)])))))++L1=(((db,#[(.slice (some ⟨vb,0,none⟩) m vc:Value),(.slice (some ⟨hb,0,none⟩) m hc:Value),(.slice (some ⟨M.rb m,0,none⟩) M.N (M.cp m):Value),(.slice (some ⟨ob,0,none⟩) m oc:Value),(.slice (some ⟨fb,0,none⟩) M.N fc:Value),.bool b'],98):Blk)::(vb,rwA m Y' VJ,50)::(hb,recA Hd.cs m (M.hd q) HJ,23)::((M.wV V').rows q++((ob,recA iEnc m o OJ,3)::(fb,recA iEnc M.N f FJ,3)::L1))):=fun b' Y' V' o f=>by
  have hdn:M.hd (m+1) m=⟨some ⟨M.rb m,0,none⟩,N,M.cp m⟩:=by unfold Mm.hd;rw [hMN]
  rw [hln,v1,v2,v3,e1,e2,e3,o1,o2,o3,f1,f2,f3,hhd m ZO,hdn,hq,hMN];simp only [List.cons_append,List.nil_append,List.append_assoc];rfl
 rw [hXs,key,hMV] at K;have hEq:=h6.eqv
 have HC:=je1 w0 w M L1 D m q r s db vb hb ob fb vc hc oc fc VJ HJ OJ FJ b Y V G.own G.free (by rw [hq] at K ⊢;exact K) hr hq (by rw [hMN];exact hs) hm (by rw [hMN];exact hN) (fun i hi=>by
  rw [hMN,hM]
  exact (h5' i ZO).2.2.1) hvc hhc hoc (by rw [hMN];exact hfc) (fun i hi=>(h6.1 i hi).self) (fun i j hi hj=>by
  rw [hMN] at hj;by_cases em:i=m
  ·rw [em];exact (h6.2.2 j hj).self
  ·exact (h6.2.1 i j ZO hj).self) (by rw [(h6.2.1 r s hr hs).q];exact hp)
 refine HC.mono ?_;rintro e w5 ⟨b',Y',V',rfl,⟨hY',hV'⟩,⟨hf,hx⟩,K5⟩;rw [hMN] at hV' hf hx
 obtain ⟨G',hG1,hG2⟩:∃G':Dc,(G.fitX m N r s=true→G'=G.xch r s)∧(dcOf m Y' V' (putF G.own r (G.free s)) (putF G.free s (G.own r))).Eqv m N G':=by
  exact ZQ86
 rw [hEq.fitX hr hs] at hf;have eo:ofF m (fun i=>((G'.own i:Nat):Int))=ofF m (fun i=>((putF G.own r (G.free s) i:Nat):Int)):=jav fun i hi=>by rw [←hG2.own i hi];rfl
 have ef:ofF N (fun i=>((G'.free i:Nat):Int))=ofF N (fun i=>((putF G.free s (G.own r) i:Nat):Int)):=jav fun j hj=>by rw [←hG2.free j hj];rfl
 rw [←key] at K5;rw [hq] at K5 hV';rw [←hrows,←hMV] at K5;exact ⟨b',G',_,_,rfl,jmT ⟨hV,hA,hO,hF,hd,Y',V',_,_,_,_,_,h1' _,h2' _,by rw [eo];exact h3' _,by rw [ef];exact h4' _,fun i hi=>(h5' i hi).2.2.2 (V' i),Agr.of hY' hV' hG2,rfl,rfl⟩,jmT hf,jmT hG1,K5⟩
def OpT (w0:World) (L:List Blk) (D:List Hl) (m n:Nat) (G:Dc) (e:Ending) (W':World):Prop :=
 ∃(db:Nat) (Ld:List Blk) (Dd:List Hl),e=.returned (.pointer (some ⟨db,0,none⟩))∧Hid (DicT m n db false G Ld Dd)∧St w0 (Ld++L) (Dd++D) W'
theorem jjd (w0 W:World) (L:List Blk) (D:List Hl) (A A' B:Option Addr) (n cap m cap' cg:Nat) (ls:List Rv) (vg:Nat→Rw) (c:Nat→Rat)
 (K:St w0 L D W) (hr:RdR w0 w0.heap.size A' m cap' ls) (hrow:∀(k:Nat) (X:Rv),ls[k]?=some X→rowF n X=true) (hg:(⟨fxP B n cg vg,fxS B n vg⟩:Hl)∈D) (hc:∀j,j<n→isQ (vg j) (c j)) (hn:n≤1000) (hm:m≤1000) :
 Calls Tryz.prog 67 #[.agg #[.slice A n cap,.slice A' m cap'],.slice B n cg] W (OpT w0 L D m n (opnD n (rwA2 ls) (rwB2 ls false) c)):=by
 have HL:=jmT hr;have HRow:=jmT hrow;have HG:=jmT hg;have HC:=jmT hc;have hcap':=hr.caps;have hcap:=K.fxCap hg;have hlen:=jmT hr.len;clear hr hrow hg hc;go_enter Tryz.func67,Tryz.ntmps67
 go_wp2_with (apply K.box;rfl;rfl;rfl;clear K;(first|((fail_if_success revert b0);intro W b0 K)|intro W db K))
 have K2:St w0 ((b0,#[.slice A n cap,.slice A' m cap'],38)::((db,#[Value.slice (⟨none,0,0⟩:Hd).A (⟨none,0,0⟩:Hd).n (⟨none,0,0⟩:Hd).c,Value.slice (⟨none,0,0⟩:Hd).A (⟨none,0,0⟩:Hd).n (⟨none,0,0⟩:Hd).c,Value.slice (⟨none,0,0⟩:Hd).A (⟨none,0,0⟩:Hd).n (⟨none,0,0⟩:Hd).c,Value.slice (⟨none,0,0⟩:Hd).A (⟨none,0,0⟩:Hd).n (⟨none,0,0⟩:Hd).c,Value.slice (⟨none,0,0⟩:Hd).A (⟨none,0,0⟩:Hd).n (⟨none,0,0⟩:Hd).c,.bool false],98):Blk)::([]++([]++((ofF 0 (fun _=>([]:List Blk))).flatten++([]++L))))) (ofam m 0 n (fun _=>vg)::⟨rwP 0 (fun _=>Rw.zero),rwS 0 (fun _=>Rw.zero)⟩::D) W:=by
  have K3:=(K.add (x:=⟨rwP 0 (fun _=>Rw.zero),rwS 0 (fun _=>Rw.zero)⟩) ⟨fun i hi=>absurd hi ZO,fun b ⟨i,hi,_⟩=>absurd hi ZO,fun _ _ _ i hi=>absurd hi ZO⟩)
  have K4:=K3.fam (I:=fun p:Nat × Nat=>(p.1<0∨p.1=m)∧p.2<n) (P:=fun p=>(vg p.2).on) (S:=fun p=>(vg p.2).S) fun p hp=>(by
   have h:=K3.okAt (x:=⟨fxP B n cg vg,fxS B n vg⟩) (List.mem_cons_of_mem _ HG.out)
   exact ZQ55)
  exact K4.perm (List.Perm.swap _ _ _)
 replace K:=K2;clear K2
 go_loopg [6] m (fun gk s6 wr=>∃(k:Nat) (gV gA gO:Hd) (Xv Xa Xo:List Blk) (Y:Nat→Rw) (V:Nat→Nat→Rw) (hd:Nat→Hd) (Xs:Nat→List Blk),k≤m∧gk=m-k∧s6=.int .i64 k∧Hid (OwL 4 Rw.cs 50 (Value.slice gV.A gV.n gV.c) (ofF k Y) Xv)∧Hid (OwL 1 Hd.cs 23 (Value.slice gA.A gA.n gA.c) (ofF k hd) Xa)∧Hid (OwL 1 iEnc 3 (Value.slice gO.A gO.n gO.c) (ofF k (fun i=>((n+i:Nat):Int))) Xo)∧Hid (OpR m k n ls Y V hd Xs)∧Hid (∀j,V m j=vg j)∧St w0 ((b0,#[.slice A n cap,.slice A' m cap'],38)::((db,#[Value.slice gV.A gV.n gV.c,Value.slice gA.A gA.n gA.c,Value.slice (⟨none,0,0⟩:Hd).A (⟨none,0,0⟩:Hd).n (⟨none,0,0⟩:Hd).c,Value.slice gO.A gO.n gO.c,Value.slice (⟨none,0,0⟩:Hd).A (⟨none,0,0⟩:Hd).n (⟨none,0,0⟩:Hd).c,.bool false],98):Blk)::(Xv++(Xa++((ofF k Xs).flatten++(Xo++L))))) (ofam m k n V::⟨rwP k Y,rwS k Y⟩::D) wr)
 case atStart=>exact ⟨0,(⟨none,0,0⟩:Hd),(⟨none,0,0⟩:Hd),(⟨none,0,0⟩:Hd),[],[],[],fun _=>Rw.zero,fun _=>vg,fun _=>(⟨none,0,0⟩:Hd),fun _=>[],Nat.zero_le _,rfl,rfl,jmT OwL.nil,jmT OwL.nil,jmT OwL.nil,jmT (fun i hi=>absurd hi ZO),jmT (fun _=>rfl),K⟩
 case round =>
  clear K;obtain ⟨k,gV,gA,gO,Xv,Xa,Xo,Y,V,hd,Xs,hk,rfl,rfl,HV,HA,HO,HQ,HVG,K⟩:=hrel;have cb:=(K.blk (b:=b0) (cs:=#[.slice A n cap,.slice A' m cap']) (t:=38) ZMA).cell (j:=1) rfl;by_cases hlt:k<m
  ·have Hlt:=jmT hlt;have hltd:decide (k<m)=true:=decide_eq_true hlt;obtain ⟨eb,eo,A0,n0,c0,A1,n1,c1,A2,n2,c2,X,hA,hbB,hX,⟨z0,z1,z2,z3,z4⟩,r0,r1,r2⟩:=HL.out.atR hlt;subst hA;have hki:(k:Int)<(m:Int):=by omega
   have hk0:(0:Int)≤(k:Int):=by omega
   have hc0:=r0.caps;have hc1:=r1.caps;have hc2:=r2.caps;have hF:=HRow.out k X hX;unfold rowF at hF;rw [Bool.and_eq_true,Bool.and_eq_true,decide_eq_true_eq] at hF;have hn0:n0=n:=by have:=hF.1.1;have:=r0.len;omega
   subst hn0;obtain ⟨u,hu,K⟩:=K.fxOld r0;have hQ:=jbR hF.1.2
   have HU:=jmT (show ∀i,i<n0→isQ (u i) (rwA2 ls k i) from fun i hi=>by
    exact ZQ47)
   obtain ⟨y,hy⟩:∃y:Rw,y=⟨X.b.s,A1,n1,c1,X.b.l,X.b.t,A2,n2,c2,X.b.m⟩:=⟨_,rfl⟩
   have HY:=jmT (show isQ y (rwB2 ls false k) from by
    unfold rwB2;rw [if_neg Zb4,hX,Option.map_some,Option.getD_some,hy]
    exact hQ)
   replace K:=(K.rdOld r1).rdOld r2;have ey:X.b.s=y.s∧A1=y.A∧n1=y.n∧c1=y.c∧X.b.t=y.t∧A2=y.B∧n2=y.m∧c2=y.d∧X.b.l=y.l∧X.b.m=y.k:=by rw [hy];exact ⟨rfl,rfl,rfl,rfl,rfl,rfl,rfl,rfl,rfl,rfl⟩
   obtain ⟨q1,q2,q3,q4,q5,q6,q7,q8,q9,q10⟩:=ey;rw [q1] at z1;rw [q2,q3,q4] at z2;rw [q5] at z3;rw [q6,q7,q8] at z4;rw [q2,q3,q4,q6,q7,q8,q9,q10] at K;rw [q3,q4] at hc1;rw [q7,q8] at hc2
   have HE:=jmT (fun V5 L5 D5 (h:St w0 L5 D5 V5) (m1:((b0,#[.slice A n0 cap,.slice (some ⟨eb,eo,none⟩) m cap'],38):Blk)∈L5)=>(show V5.cell? ⟨b0,1,none⟩=some (.slice (some ⟨eb,eo,none⟩) m cap')∧V5.cell? ⟨eb,eo+k*5,none⟩=some (.slice A0 n0 c0)∧V5.cell? ⟨eb,eo+k*5+1,none⟩=some (.int .i64 y.s)∧V5.cell? ⟨eb,eo+k*5+2,none⟩=some (.slice y.A y.n y.c)∧V5.cell? ⟨eb,eo+k*5+3,none⟩=some (.int .i64 y.t)∧V5.cell? ⟨eb,eo+k*5+4,none⟩=some (.slice y.B y.m y.d) from ⟨(h.blk m1).cell (j:=1) rfl,(h.1.cell (p:=⟨eb,eo+k*5,none⟩) hbB).trans z0,(h.1.cell (p:=⟨eb,eo+k*5+1,none⟩) hbB).trans z1,(h.1.cell (p:=⟨eb,eo+k*5+2,none⟩) hbB).trans z2,(h.1.cell (p:=⟨eb,eo+k*5+3,none⟩) hbB).trans z3,(h.1.cell (p:=⟨eb,eo+k*5+4,none⟩) hbB).trans z4⟩));clear hX z0 z1 z2 z3 z4 r0 r1 r2 hF hu hQ q1 q2 q3 q4 q5 q6 q7 q8 q9 q10 hy;go_upto_region 5 with fail;clear cb
   have HS:=jmT (fun V5 L5 D5 (h:St w0 L5 D5 V5) (m1:((b0,#[.slice A n0 cap,.slice (some ⟨eb,eo,none⟩) m cap'],38):Blk)∈L5) (m2:((db,#[Value.slice gV.A gV.n gV.c,Value.slice gA.A gA.n gA.c,Value.slice (⟨none,0,0⟩:Hd).A (⟨none,0,0⟩:Hd).n (⟨none,0,0⟩:Hd).c,Value.slice gO.A gO.n gO.c,Value.slice (⟨none,0,0⟩:Hd).A (⟨none,0,0⟩:Hd).n (⟨none,0,0⟩:Hd).c,.bool false],98):Blk)∈L5)=>(show V5.cell? ⟨db,0,none⟩=some (Value.slice gV.A gV.n gV.c)∧V5.cell? ⟨b0,1,none⟩=some (.slice (some ⟨eb,eo,none⟩) m cap')∧V5.cell? ⟨eb,eo+k*5,none⟩=some (.slice A0 n0 c0)∧V5.cell? ⟨eb,eo+k*5+1,none⟩=some (.int .i64 y.s)∧V5.cell? ⟨eb,eo+k*5+2,none⟩=some (.slice y.A y.n y.c)∧V5.cell? ⟨eb,eo+k*5+3,none⟩=some (.int .i64 y.t)∧V5.cell? ⟨eb,eo+k*5+4,none⟩=some (.slice y.B y.m y.d) from ⟨(h.blk m2).cell (j:=0) rfl,HE.out _ _ _ h m1⟩))
   have K0:=(K.drew).perm (L':=Xv++(((b0,#[.slice A n0 cap,.slice (some ⟨eb,eo,none⟩) m cap'],38):Blk)::((db,#[Value.slice gV.A gV.n gV.c,Value.slice gA.A gA.n gA.c,Value.slice (⟨none,0,0⟩:Hd).A (⟨none,0,0⟩:Hd).n (⟨none,0,0⟩:Hd).c,Value.slice gO.A gO.n gO.c,Value.slice (⟨none,0,0⟩:Hd).A (⟨none,0,0⟩:Hd).n (⟨none,0,0⟩:Hd).c,.bool false],98):Blk)::(Xa++((ofF k Xs).flatten++(Xo++L))))) Zb21;have s0:=HS.out _ _ _ K0 ZMA ZMA;clear K;refine jah 15 (fun V5=>V5.cell? ⟨db,0,none⟩=some (Value.slice gV.A gV.n gV.c)∧V5.cell? ⟨b0,1,none⟩=some (.slice (some ⟨eb,eo,none⟩) m cap')∧V5.cell? ⟨eb,eo+k*5,none⟩=some (.slice A0 n0 c0)∧V5.cell? ⟨eb,eo+k*5+1,none⟩=some (.int .i64 y.s)∧V5.cell? ⟨eb,eo+k*5+2,none⟩=some (.slice y.A y.n y.c)∧V5.cell? ⟨eb,eo+k*5+3,none⟩=some (.int .i64 y.t)∧V5.cell? ⟨eb,eo+k*5+4,none⟩=some (.slice y.B y.m y.d)) Zb9 s0 (fun hSh=>?_);clear s0;generalize World.drew _=V0 at K0 hSh ⊢
   refine jaa.tz 0 rfl ?_;refine jaa.tz 1 rfl ?_;refine jaa.tz 2 rfl ?_;refine jaa.tz 3 rfl ?_;refine jaa.tz 4 rfl ?_;refine jaa.tz 5 rfl ?_;refine jaa.tz 6 rfl ?_;refine jaa.tz 7 rfl ?_;refine jaa.tz 8 rfl ?_;refine jaa.tz 9 rfl ?_;refine jaa.tz 10 rfl ?_;refine jaa.on 11 rfl fun KK hKK=>?_
   refine K0.litOp _ _ rfl _ rfl _ _ (jg4 _ _ _ _ _ _ _ _ _) ?_;intro g1 V1 k1;refine hKK.out _ _ (HS.out _ _ _ k1 ZMA ZMA) (fun hSh=>?_);clear hKK KK;refine ZPT ?_;refine jaa.on 12 rfl fun KK hKK=>?_
   replace k1:=k1.perm (L':=Xv++(((g1,#[.int .i64 y.s,.slice y.A y.n y.c,.int .i64 y.t,.slice y.B y.m y.d],50):Blk)::((b0,#[.slice A n0 cap,.slice (some ⟨eb,eo,none⟩) m cap'],38):Blk)::((db,#[Value.slice gV.A gV.n gV.c,Value.slice gA.A gA.n gA.c,Value.slice (⟨none,0,0⟩:Hd).A (⟨none,0,0⟩:Hd).n (⟨none,0,0⟩:Hd).c,Value.slice gO.A gO.n gO.c,Value.slice (⟨none,0,0⟩:Hd).A (⟨none,0,0⟩:Hd).n (⟨none,0,0⟩:Hd).c,.bool false],98):Blk)::(Xa++((ofF k Xs).flatten++(Xo++L))))) Zb21;refine k1.appOp HV.out jax _ _ 23 rfl _ 64 Tryz.underlying23 jaF rfl rfl (y:Rw) g1 _ Zb22 rfl Zb3 ZO ?_;intro vv Xv2 V2 hov k2;replace k2:=k2.cutm;rw [jaP] at hov;obtain ⟨A8,c8,hvv⟩:=hov.shapeL;rw [jam] at hvv;subst hvv;have HV2:=jmT hov;clear hov;refine hKK.out _ _ (HS.out _ _ _ k2 ZMA ZMA) (fun hSh=>?_);clear hKK KK;refine ZPT ?_;refine jaa.on 13 rfl fun KK hKK=>?_
   go_simp;refine hKK.out _ _ Zb6 (fun hSh=>?_);clear hKK KK;refine ZPT ?_;refine jaa.on 14 rfl fun KK hKK=>?_
   go_simp;refine hKK.out _ _ Zb6 (fun hSh=>?_);clear hKK KK;refine ZPT ?_;refine jaa.last rfl Zb9 ?_;clear hSh HS;simp only [List.getElem_toArray,List.getElem_cons_succ,List.getElem_cons_zero];refine k2.storeS (b:=db) (off:=0) (cs:=#[Value.slice gV.A gV.n gV.c,Value.slice gA.A gA.n gA.c,Value.slice (⟨none,0,0⟩:Hd).A (⟨none,0,0⟩:Hd).n (⟨none,0,0⟩:Hd).c,Value.slice gO.A gO.n gO.c,Value.slice (⟨none,0,0⟩:Hd).A (⟨none,0,0⟩:Hd).n (⟨none,0,0⟩:Hd).c,.bool false]) (cs':=#[Value.slice (⟨A8,k+1,c8⟩:Hd).A (⟨A8,k+1,c8⟩:Hd).n (⟨A8,k+1,c8⟩:Hd).c,Value.slice gA.A gA.n gA.c,Value.slice (⟨none,0,0⟩:Hd).A (⟨none,0,0⟩:Hd).n (⟨none,0,0⟩:Hd).c,Value.slice gO.A gO.n gO.c,Value.slice (⟨none,0,0⟩:Hd).A (⟨none,0,0⟩:Hd).n (⟨none,0,0⟩:Hd).c,.bool false]) (t:=98) rfl rfl _ _ _ rfl A8 (k+1) c8 rfl rfl ZUA rfl jg9 Zb0 ?_;intro W5 K;clear k1 k2 K0 HV;go_upto_region 6 with fail
   have HS:=jmT (fun V5 L5 D5 (h:St w0 L5 D5 V5) (m1:((b0,#[.slice A n0 cap,.slice (some ⟨eb,eo,none⟩) m cap'],38):Blk)∈L5) (m2:((db,#[Value.slice (⟨A8,k+1,c8⟩:Hd).A (⟨A8,k+1,c8⟩:Hd).n (⟨A8,k+1,c8⟩:Hd).c,Value.slice gA.A gA.n gA.c,Value.slice (⟨none,0,0⟩:Hd).A (⟨none,0,0⟩:Hd).n (⟨none,0,0⟩:Hd).c,Value.slice gO.A gO.n gO.c,Value.slice (⟨none,0,0⟩:Hd).A (⟨none,0,0⟩:Hd).n (⟨none,0,0⟩:Hd).c,.bool false],98):Blk)∈L5)=>(show V5.cell? ⟨db,1,none⟩=some (Value.slice gA.A gA.n gA.c)∧V5.cell? ⟨b0,1,none⟩=some (.slice (some ⟨eb,eo,none⟩) m cap')∧V5.cell? ⟨eb,eo+k*5,none⟩=some (.slice A0 n0 c0) from ⟨(h.blk m2).cell (j:=1) rfl,(HE.out _ _ _ h m1).1,(HE.out _ _ _ h m1).2.1⟩))
   have K0:=(K.drew).perm (L':=Xa++(((b0,#[.slice A n0 cap,.slice (some ⟨eb,eo,none⟩) m cap'],38):Blk)::((db,#[Value.slice (⟨A8,k+1,c8⟩:Hd).A (⟨A8,k+1,c8⟩:Hd).n (⟨A8,k+1,c8⟩:Hd).c,Value.slice gA.A gA.n gA.c,Value.slice (⟨none,0,0⟩:Hd).A (⟨none,0,0⟩:Hd).n (⟨none,0,0⟩:Hd).c,Value.slice gO.A gO.n gO.c,Value.slice (⟨none,0,0⟩:Hd).A (⟨none,0,0⟩:Hd).n (⟨none,0,0⟩:Hd).c,.bool false],98):Blk)::(Xv2++((ofF k Xs).flatten++(Xo++L))))) Zb21;have s0:=HS.out _ _ _ K0 ZMA ZMA;clear K;refine jah 17 (fun V5=>V5.cell? ⟨db,1,none⟩=some (Value.slice gA.A gA.n gA.c)∧V5.cell? ⟨b0,1,none⟩=some (.slice (some ⟨eb,eo,none⟩) m cap')∧V5.cell? ⟨eb,eo+k*5,none⟩=some (.slice A0 n0 c0)) Zb9 s0 (fun hSh=>?_);clear s0;generalize World.drew _=V0 at K0 hSh ⊢;refine jaa.tz 0 rfl ?_;refine jaa.tz 1 rfl ?_;refine jaa.tz 2 rfl ?_;refine jaa.tz 3 rfl ?_;refine jaa.tz 4 rfl ?_;refine jaa.tz 6 rfl ?_;refine jaa.tz 7 rfl ?_
   refine jaa.tz 8 rfl ?_;refine jaa.tz 9 rfl ?_;refine jaa.tz 10 rfl ?_;refine jaa.tz 11 rfl ?_;refine jaa.on 5 rfl fun KK hKK=>?_
   go_simp;have k1:=K0.new #[] 50;have Ho1:=jmT (OwL.empty (α:=Rw) 4 Rw.cs 50 V0.heap.size);generalize V0.heap.size=g1 at k1 Ho1 ⊢;generalize V0.alloc (.cells #[] 50)=V1 at k1 ⊢;refine hKK.out _ _ (HS.out _ _ _ k1 ZMA ZMA) (fun hSh=>?_);clear hKK KK;refine ZPT ?_;refine jaa.on 12 rfl fun KK hKK=>?_
   refine St.appWOp (X:=[(g1,#[],50)]) (L:=Xa++(((b0,#[.slice A n0 cap,.slice (some ⟨eb,eo,none⟩) m cap'],38):Blk)::((db,#[Value.slice (⟨A8,k+1,c8⟩:Hd).A (⟨A8,k+1,c8⟩:Hd).n (⟨A8,k+1,c8⟩:Hd).c,Value.slice gA.A gA.n gA.c,Value.slice (⟨none,0,0⟩:Hd).A (⟨none,0,0⟩:Hd).n (⟨none,0,0⟩:Hd).c,Value.slice gO.A gO.n gO.c,Value.slice (⟨none,0,0⟩:Hd).A (⟨none,0,0⟩:Hd).n (⟨none,0,0⟩:Hd).c,.bool false],98):Blk)::(Xv2++((ofF k Xs).flatten++(Xo++L))))) k1 Ho1.out jax _ _ 23 rfl _ 64 Tryz.underlying23 jaF rfl rfl _ n0 c0 (ofF n0 u) rfl ((k1.okAt (x:=⟨fxP A0 n0 c0 u,fxS A0 n0 u⟩) ZMB).1.1) (by simp;omega) ZO ?_;intro v2 Xc V2 ho2 k2;rw [List.nil_append] at ho2;obtain ⟨A9,c9,hv2⟩:=ho2.shapeL;rw [jam] at hv2;subst hv2;have HOC:=jmT ho2;clear ho2 Ho1;refine hKK.out _ _ (HS.out _ _ _ k2 ZMA ZMA) (fun hSh=>?_);clear hKK KK;refine ZPT ?_;refine jaa.on 13 rfl fun KK hKK=>?_
   refine k2.litOp _ _ rfl _ rfl _ _ (jkV _ _ _ _) ?_;intro g3 V3 k3;refine hKK.out _ _ (HS.out _ _ _ k3 ZMA ZMA) (fun hSh=>?_);clear hKK KK;refine ZPT ?_;refine jaa.on 14 rfl fun KK hKK=>?_
   replace k3:=k3.perm (L':=Xa++(((g3,#[.slice A9 n0 c9],23):Blk)::(Xc++(((b0,#[.slice A n0 cap,.slice (some ⟨eb,eo,none⟩) m cap'],38):Blk)::((db,#[Value.slice (⟨A8,k+1,c8⟩:Hd).A (⟨A8,k+1,c8⟩:Hd).n (⟨A8,k+1,c8⟩:Hd).c,Value.slice gA.A gA.n gA.c,Value.slice (⟨none,0,0⟩:Hd).A (⟨none,0,0⟩:Hd).n (⟨none,0,0⟩:Hd).c,Value.slice gO.A gO.n gO.c,Value.slice (⟨none,0,0⟩:Hd).A (⟨none,0,0⟩:Hd).n (⟨none,0,0⟩:Hd).c,.bool false],98):Blk)::(Xv2++((ofF k Xs).flatten++(Xo++L))))))) Zb21;refine k3.appOp HA.out je6 _ _ 65 rfl _ 24 Tryz.underlying65 jkY rfl rfl (⟨A9,n0,c9⟩:Hd) g3 _ Zb22 rfl Zb3 ZO ?_;intro vv Xa2 V4 hov k4;replace k4:=k4.cutm;rw [jaP] at hov;obtain ⟨A7,c7,hvv⟩:=hov.shapeL;rw [jam] at hvv;subst hvv;have HA2:=jmT hov;clear hov;refine hKK.out _ _ (HS.out _ _ _ k4 ZMA ZMA) (fun hSh=>?_);clear hKK KK;refine ZPT ?_;refine jaa.on 15 rfl fun KK hKK=>?_
   go_simp;refine hKK.out _ _ Zb6 (fun hSh=>?_);clear hKK KK;refine ZPT ?_;refine jaa.on 16 rfl fun KK hKK=>?_
   go_simp;refine hKK.out _ _ Zb6 (fun hSh=>?_);clear hKK KK;refine ZPT ?_;refine jaa.last rfl Zb9 ?_;clear hSh HS;simp only [List.getElem_toArray,List.getElem_cons_succ,List.getElem_cons_zero];refine k4.storeS (b:=db) (off:=1) (cs:=#[Value.slice (⟨A8,k+1,c8⟩:Hd).A (⟨A8,k+1,c8⟩:Hd).n (⟨A8,k+1,c8⟩:Hd).c,Value.slice gA.A gA.n gA.c,Value.slice (⟨none,0,0⟩:Hd).A (⟨none,0,0⟩:Hd).n (⟨none,0,0⟩:Hd).c,Value.slice gO.A gO.n gO.c,Value.slice (⟨none,0,0⟩:Hd).A (⟨none,0,0⟩:Hd).n (⟨none,0,0⟩:Hd).c,.bool false]) (cs':=#[Value.slice (⟨A8,k+1,c8⟩:Hd).A (⟨A8,k+1,c8⟩:Hd).n (⟨A8,k+1,c8⟩:Hd).c,Value.slice (⟨A7,k+1,c7⟩:Hd).A (⟨A7,k+1,c7⟩:Hd).n (⟨A7,k+1,c7⟩:Hd).c,Value.slice (⟨none,0,0⟩:Hd).A (⟨none,0,0⟩:Hd).n (⟨none,0,0⟩:Hd).c,Value.slice gO.A gO.n gO.c,Value.slice (⟨none,0,0⟩:Hd).A (⟨none,0,0⟩:Hd).n (⟨none,0,0⟩:Hd).c,.bool false]) (t:=98) rfl rfl _ _ _ rfl A7 (k+1) c7 rfl rfl ZUA rfl jjC Zb0 ?_;intro W6 K
   clear k1 k2 k3 k4 K0 HA;have K2:=K.perm (L':=Xo++(((b0,#[.slice A n0 cap,.slice (some ⟨eb,eo,none⟩) m cap'],38):Blk)::((db,#[Value.slice (⟨A8,k+1,c8⟩:Hd).A (⟨A8,k+1,c8⟩:Hd).n (⟨A8,k+1,c8⟩:Hd).c,Value.slice (⟨A7,k+1,c7⟩:Hd).A (⟨A7,k+1,c7⟩:Hd).n (⟨A7,k+1,c7⟩:Hd).c,Value.slice (⟨none,0,0⟩:Hd).A (⟨none,0,0⟩:Hd).n (⟨none,0,0⟩:Hd).c,Value.slice gO.A gO.n gO.c,Value.slice (⟨none,0,0⟩:Hd).A (⟨none,0,0⟩:Hd).n (⟨none,0,0⟩:Hd).c,.bool false],98):Blk)::(Xv2++(Xa2++((ofF k Xs).flatten++(Xc++L)))))) Zb21;clear K;have K:=K2;clear K2;have cF:=(K.blk (b:=db) (cs:=#[Value.slice (⟨A8,k+1,c8⟩:Hd).A (⟨A8,k+1,c8⟩:Hd).n (⟨A8,k+1,c8⟩:Hd).c,Value.slice (⟨A7,k+1,c7⟩:Hd).A (⟨A7,k+1,c7⟩:Hd).n (⟨A7,k+1,c7⟩:Hd).c,Value.slice (⟨none,0,0⟩:Hd).A (⟨none,0,0⟩:Hd).n (⟨none,0,0⟩:Hd).c,Value.slice gO.A gO.n gO.c,Value.slice (⟨none,0,0⟩:Hd).A (⟨none,0,0⟩:Hd).n (⟨none,0,0⟩:Hd).c,.bool false]) (t:=98) ZMA).cell (j:=3) rfl
   have hw1:IntKind.i64.wrap ((n0:Int)+(k:Int))=(n0:Int)+(k:Int):=IntWalk.i64_in _ ZO
   go_wp2_with (first
    | (at_builtin;refine K.app1 HO.out jaq rfl _ _ 46 rfl _ 8 Tryz.underlying46 jdL rfl Zb23 ((n0:Int)+(k:Int)) _ rfl _ rfl Zb23 Zb3 ZO ?_;clear cF;intro v4 Xo2 W4 ho4 K4;rw [jaP] at ho4;obtain ⟨A6,c6,hv4⟩:=ho4.shapeL;rw [jam] at hv4;subst hv4)
    | (refine K4.storeS (b:=db) (off:=3) (cs:=#[Value.slice (⟨A8,k+1,c8⟩:Hd).A (⟨A8,k+1,c8⟩:Hd).n (⟨A8,k+1,c8⟩:Hd).c,Value.slice (⟨A7,k+1,c7⟩:Hd).A (⟨A7,k+1,c7⟩:Hd).n (⟨A7,k+1,c7⟩:Hd).c,Value.slice (⟨none,0,0⟩:Hd).A (⟨none,0,0⟩:Hd).n (⟨none,0,0⟩:Hd).c,Value.slice gO.A gO.n gO.c,Value.slice (⟨none,0,0⟩:Hd).A (⟨none,0,0⟩:Hd).n (⟨none,0,0⟩:Hd).c,.bool false]) (cs':=#[Value.slice (⟨A8,k+1,c8⟩:Hd).A (⟨A8,k+1,c8⟩:Hd).n (⟨A8,k+1,c8⟩:Hd).c,Value.slice (⟨A7,k+1,c7⟩:Hd).A (⟨A7,k+1,c7⟩:Hd).n (⟨A7,k+1,c7⟩:Hd).c,Value.slice (⟨none,0,0⟩:Hd).A (⟨none,0,0⟩:Hd).n (⟨none,0,0⟩:Hd).c,Value.slice (⟨A6,k+1,c6⟩:Hd).A (⟨A6,k+1,c6⟩:Hd).n (⟨A6,k+1,c6⟩:Hd).c,Value.slice (⟨none,0,0⟩:Hd).A (⟨none,0,0⟩:Hd).n (⟨none,0,0⟩:Hd).c,.bool false]) (t:=98) rfl rfl _ _ _ rfl A6 (k+1) c6 rfl rfl ZUA rfl jdf Zb0 ?_;intro W7 K9))
   have HO2:=jmT (show OwL 1 iEnc 3 (Value.slice A6 (k+1) c6) (ofF (k+1) (fun i=>((n0+i:Nat):Int))) Xo2 from by rw [←jh9];exact ho4);have HQ2:=jmT (HQ.out.add HY.out HU.out (h9:=⟨A9,n0,c9⟩) HOC.out);have HVG2:=jmT (show ∀j,putF V k u m j=vg j from fun j=>by rw [jad (by have:=Hlt.out;omega)];exact HVG.out j)
   have HK:=jmT ((((K9.rwAdd (v:=Y) (n:=k) y ZMB ZMB ZMB).opAdd (k:=k) (V:=V) (u:=u) Hlt.out ZMB ZMB).lessS (D':=ofam m (k+1) n0 (putF V k u)::⟨rwP (k+1) (putF Y k y),rwS (k+1) (putF Y k y)⟩::D) Zb10).perm (L':=((b0,#[.slice A n0 cap,.slice (some ⟨eb,eo,none⟩) m cap'],38):Blk)::((db,#[Value.slice (⟨A8,k+1,c8⟩:Hd).A (⟨A8,k+1,c8⟩:Hd).n (⟨A8,k+1,c8⟩:Hd).c,Value.slice (⟨A7,k+1,c7⟩:Hd).A (⟨A7,k+1,c7⟩:Hd).n (⟨A7,k+1,c7⟩:Hd).c,Value.slice (⟨none,0,0⟩:Hd).A (⟨none,0,0⟩:Hd).n (⟨none,0,0⟩:Hd).c,Value.slice (⟨A6,k+1,c6⟩:Hd).A (⟨A6,k+1,c6⟩:Hd).n (⟨A6,k+1,c6⟩:Hd).c,Value.slice (⟨none,0,0⟩:Hd).A (⟨none,0,0⟩:Hd).n (⟨none,0,0⟩:Hd).c,.bool false],98):Blk)::(Xv2++(Xa2++(((ofF k Xs).flatten++Xc)++(Xo2++L))))) Zb21);clear K9 K4 K HOC HQ HY HU HVG HO ho4 HE;go_roundg (m-(k+1))
   case rel=>exact ⟨k+1,⟨A8,k+1,c8⟩,⟨A7,k+1,c7⟩,⟨A6,k+1,c6⟩,Xv2,Xa2,Xo2,putF Y k y,putF V k u,putF hd k ⟨A9,n0,c9⟩,putF Xs k Xc,Hlt.out,rfl,by go_num,HV2,HA2,HO2,HQ2,HVG2,by rw [jdJ];exact HK.out⟩
   case measure=>omega
  ·have e:k=m:=by omega
   subst e;have hltd:decide (k<k)=false:=decide_eq_false hlt;clear hlt;go_wp2_with fail;clear cb
   go_loopg [7] n (fun gk s7 wx=>∃(j:Nat) (gC gF:Hd) (Xc Xf:List Blk),j≤n∧gk=n-j∧s7=.int .i64 j∧Hid (OwL 4 Rw.cs 50 (Value.slice gC.A gC.n gC.c) (ofF j vg) Xc)∧Hid (OwL 1 iEnc 3 (Value.slice gF.A gF.n gF.c) (ofF j (fun i=>((i:Nat):Int))) Xf)∧St w0 (Xc++(((db,#[Value.slice gV.A gV.n gV.c,Value.slice gA.A gA.n gA.c,Value.slice gC.A gC.n gC.c,Value.slice gO.A gO.n gO.c,Value.slice gF.A gF.n gF.c,.bool false],98):Blk)::(Xf++(Xv++(Xa++((ofF k Xs).flatten++(Xo++L))))))) (ofam k k n V::⟨rwP k Y,rwS k Y⟩::D) wx)
   case atStart=>exact ⟨0,(⟨none,0,0⟩:Hd),(⟨none,0,0⟩:Hd),[],[],Nat.zero_le _,rfl,rfl,jmT OwL.nil,jmT OwL.nil,K.part (List.sublist_cons_self _ _)⟩
   case round =>
    clear K;obtain ⟨j,gC,gF,Xc,Xf,hj,rfl,rfl,HC2,HF,K⟩:=hrel;by_cases hjn:j<n
    ·have hji:(j:Int)<(n:Int):=by omega
     have hj0:(0:Int)≤(j:Int):=by omega
     have hjd:decide (j<n)=true:=decide_eq_true hjn;have M1:=jmT (show (⟨fxP B n cg vg,fxS B n vg⟩:Hl)∈ofam k k n V::⟨rwP k Y,rwS k Y⟩::D from List.mem_cons_of_mem _ (List.mem_cons_of_mem _ HG.out));obtain ⟨gb,go,hB⟩:=K.fxAt M1.out ZO;subst hB;have HS:=jmT (fun V5 L5 (h:St w0 L5 (ofam k k n V::⟨rwP k Y,rwS k Y⟩::D) V5) (m2:((db,#[Value.slice gV.A gV.n gV.c,Value.slice gA.A gA.n gA.c,Value.slice gC.A gC.n gC.c,Value.slice gO.A gO.n gO.c,Value.slice gF.A gF.n gF.c,.bool false],98):Blk)∈L5)=>(show V5.cell? ⟨db,2,none⟩=some (Value.slice gC.A gC.n gC.c)∧V5.cell? ⟨gb,go+j*4,none⟩=some (.int .i64 (vg j).s)∧V5.cell? ⟨gb,go+j*4+1,none⟩=some (.slice (vg j).A (vg j).n (vg j).c)∧V5.cell? ⟨gb,go+j*4+2,none⟩=some (.int .i64 (vg j).t)∧V5.cell? ⟨gb,go+j*4+3,none⟩=some (.slice (vg j).B (vg j).m (vg j).d) from ⟨(h.blk m2).cell (j:=2) rfl,h.fxCell M1.out hjn⟩));go_upto_region 11 with fail;have K0:=K.drew
     have s0:=HS.out _ _ K0 ZMA;clear K;refine jah 13 (fun V5=>V5.cell? ⟨db,2,none⟩=some (Value.slice gC.A gC.n gC.c)∧V5.cell? ⟨gb,go+j*4,none⟩=some (.int .i64 (vg j).s)∧V5.cell? ⟨gb,go+j*4+1,none⟩=some (.slice (vg j).A (vg j).n (vg j).c)∧V5.cell? ⟨gb,go+j*4+2,none⟩=some (.int .i64 (vg j).t)∧V5.cell? ⟨gb,go+j*4+3,none⟩=some (.slice (vg j).B (vg j).m (vg j).d)) Zb9 s0 (fun hSh=>?_);clear s0;generalize World.drew _=V0 at K0 hSh ⊢;refine jaa.tz 0 rfl ?_;refine jaa.tz 1 rfl ?_;refine jaa.tz 2 rfl ?_;refine jaa.tz 3 rfl ?_;refine jaa.tz 4 rfl ?_;refine jaa.tz 5 rfl ?_;refine jaa.tz 6 rfl ?_;refine jaa.tz 7 rfl ?_;refine jaa.tz 8 rfl ?_;refine jaa.on 9 rfl fun KK hKK=>?_
     refine K0.litOp _ _ rfl _ rfl _ _ (jg4 _ _ _ _ _ _ _ _ _) ?_;intro g1 V1 k1;refine hKK.out _ _ (HS.out _ _ k1 ZMA) (fun hSh=>?_);clear hKK KK;refine ZPT ?_;refine jaa.on 10 rfl fun KK hKK=>?_
     replace k1:=k1.perm (L':=Xc++(((g1,#[.int .i64 (vg j).s,.slice (vg j).A (vg j).n (vg j).c,.int .i64 (vg j).t,.slice (vg j).B (vg j).m (vg j).d],50):Blk)::((db,#[Value.slice gV.A gV.n gV.c,Value.slice gA.A gA.n gA.c,Value.slice gC.A gC.n gC.c,Value.slice gO.A gO.n gO.c,Value.slice gF.A gF.n gF.c,.bool false],98):Blk)::(Xf++(Xv++(Xa++((ofF k Xs).flatten++(Xo++L))))))) Zb21;refine k1.appOp HC2.out jax _ _ 23 rfl _ 64 Tryz.underlying23 jaF rfl rfl (vg j:Rw) g1 _ Zb22 rfl Zb3 ZO ?_;intro vv Xc2 V2 hov k2;replace k2:=k2.cutm;rw [jaP] at hov;obtain ⟨A8,c8,hvv⟩:=hov.shapeL;rw [jam] at hvv;subst hvv
     have HC3:=jmT (show OwL 4 Rw.cs 50 (Value.slice A8 (j+1) c8) (ofF (j+1) vg) Xc2 from by
      have e:ofF (j+1) (putF vg j (vg j))=ofF (j+1) vg:=jav fun i hi=>by
       by_cases e:i=j
       ·subst e;rw [jaf]
       ·rw [jad e]
      rw [←e]
      exact hov)
     clear hov;refine hKK.out _ _ (HS.out _ _ k2 ZMA) (fun hSh=>?_);clear hKK KK;refine ZPT ?_;refine jaa.on 11 rfl fun KK hKK=>?_
     go_simp;refine hKK.out _ _ Zb6 (fun hSh=>?_);clear hKK KK;refine ZPT ?_;refine jaa.on 12 rfl fun KK hKK=>?_
     go_simp;refine hKK.out _ _ Zb6 (fun hSh=>?_);clear hKK KK;refine ZPT ?_;refine jaa.last rfl Zb9 ?_;clear hSh HS;simp only [List.getElem_toArray,List.getElem_cons_succ,List.getElem_cons_zero];refine k2.storeS (b:=db) (off:=2) (cs:=#[Value.slice gV.A gV.n gV.c,Value.slice gA.A gA.n gA.c,Value.slice gC.A gC.n gC.c,Value.slice gO.A gO.n gO.c,Value.slice gF.A gF.n gF.c,.bool false]) (cs':=#[Value.slice gV.A gV.n gV.c,Value.slice gA.A gA.n gA.c,Value.slice (⟨A8,j+1,c8⟩:Hd).A (⟨A8,j+1,c8⟩:Hd).n (⟨A8,j+1,c8⟩:Hd).c,Value.slice gO.A gO.n gO.c,Value.slice gF.A gF.n gF.c,.bool false]) (t:=98) rfl rfl _ _ _ rfl A8 (j+1) c8 rfl rfl ZUA rfl jg9 Zb0 ?_;intro W5 K;clear k1 k2 K0 HC2
     have K2:=K.perm (L':=Xf++(((db,#[Value.slice gV.A gV.n gV.c,Value.slice gA.A gA.n gA.c,Value.slice (⟨A8,j+1,c8⟩:Hd).A (⟨A8,j+1,c8⟩:Hd).n (⟨A8,j+1,c8⟩:Hd).c,Value.slice gO.A gO.n gO.c,Value.slice gF.A gF.n gF.c,.bool false],98):Blk)::(Xc2++(Xv++(Xa++((ofF k Xs).flatten++(Xo++L))))))) Zb21;clear K;have K:=K2;clear K2;have cF:=(K.blk (b:=db) (cs:=#[Value.slice gV.A gV.n gV.c,Value.slice gA.A gA.n gA.c,Value.slice (⟨A8,j+1,c8⟩:Hd).A (⟨A8,j+1,c8⟩:Hd).n (⟨A8,j+1,c8⟩:Hd).c,Value.slice gO.A gO.n gO.c,Value.slice gF.A gF.n gF.c,.bool false]) (t:=98) ZMA).cell (j:=4) rfl
     go_wp2_with (first
      | (at_builtin;refine K.app1 HF.out jaq rfl _ _ 46 rfl _ 8 Tryz.underlying46 jdL rfl Zb23 (j:Int) _ rfl _ rfl Zb23 Zb3 ZO ?_;clear cF;intro v4 X4 W4 ho4 K4;rw [jaP] at ho4;obtain ⟨A6,c6,hv4⟩:=ho4.shapeL;rw [jam] at hv4;subst hv4)
      | (refine K4.storeS (b:=db) (off:=4) (cs:=#[Value.slice gV.A gV.n gV.c,Value.slice gA.A gA.n gA.c,Value.slice (⟨A8,j+1,c8⟩:Hd).A (⟨A8,j+1,c8⟩:Hd).n (⟨A8,j+1,c8⟩:Hd).c,Value.slice gO.A gO.n gO.c,Value.slice gF.A gF.n gF.c,.bool false]) (cs':=#[Value.slice gV.A gV.n gV.c,Value.slice gA.A gA.n gA.c,Value.slice (⟨A8,j+1,c8⟩:Hd).A (⟨A8,j+1,c8⟩:Hd).n (⟨A8,j+1,c8⟩:Hd).c,Value.slice gO.A gO.n gO.c,Value.slice (⟨A6,j+1,c6⟩:Hd).A (⟨A6,j+1,c6⟩:Hd).n (⟨A6,j+1,c6⟩:Hd).c,.bool false]) (t:=98) rfl rfl _ _ _ rfl A6 (j+1) c6 rfl rfl ZUA rfl jdf Zb0 ?_;intro W6 K6))
     have HF2:=jmT (show OwL 1 iEnc 3 (Value.slice A6 (j+1) c6) (ofF (j+1) (fun i=>((i:Nat):Int))) X4 from by
      exact ZQ99)
     have HK:=jmT (K6.perm (L':=Xc2++(((db,#[Value.slice gV.A gV.n gV.c,Value.slice gA.A gA.n gA.c,Value.slice (⟨A8,j+1,c8⟩:Hd).A (⟨A8,j+1,c8⟩:Hd).n (⟨A8,j+1,c8⟩:Hd).c,Value.slice gO.A gO.n gO.c,Value.slice (⟨A6,j+1,c6⟩:Hd).A (⟨A6,j+1,c6⟩:Hd).n (⟨A6,j+1,c6⟩:Hd).c,.bool false],98):Blk)::(X4++(Xv++(Xa++((ofF k Xs).flatten++(Xo++L))))))) Zb21);clear ho4 K4 K6;go_roundg (n-(j+1))
     case rel=>exact ⟨j+1,⟨A8,j+1,c8⟩,⟨A6,j+1,c6⟩,Xc2,X4,hjn,rfl,by go_num,HC3,HF2,HK.out⟩
     case measure=>omega
    ·have e:j=n:=by omega
     have HF2:=jmT (show OwL 1 iEnc 3 (Value.slice gF.A gF.n gF.c) (ofF n (fun i=>((i:Nat):Int))) Xf from by rw [←e];exact HF.out);have HC3:=jmT (show OwL 4 Rw.cs 50 (Value.slice gC.A gC.n gC.c) (ofF n vg) Xc from by rw [←e];exact HC2.out);have hjd:decide (j<n)=false:=decide_eq_false hjn;have hji:¬(j:Int)<(n:Int):=by omega
     clear e HF HC2 hjn;have K1:St w0 _ (vfam (k+1) n V::ofam k k n V::⟨rwP k Y,rwS k Y⟩::D) _:=K.fam (I:=fun p:Nat × Nat=>p.1<k+1∧p.2<n) (P:=fun p=>(V p.1 p.2).on) (S:=fun p=>(V p.1 p.2).S) fun p hp=>K.famAt (i:=p) (I:=fun p:Nat × Nat=>(p.1<k∨p.1=k)∧p.2<n) (P:=fun p=>(V p.1 p.2).on) (S:=fun p=>(V p.1 p.2).S) ZMB ⟨by have:=hp.1;omega,hp.2⟩
     have K2:=K1.lessS (D':=vfam (k+1) n V::⟨rwP k Y,rwS k Y⟩::D) Zb10
     have K3:=K2.perm (L':=(((db,#[Value.slice gV.A gV.n gV.c,Value.slice gA.A gA.n gA.c,Value.slice gC.A gC.n gC.c,Value.slice gO.A gO.n gO.c,Value.slice gF.A gF.n gF.c,.bool false],98):Blk)::(Xv++(Xa++(((ofF k Xs).flatten++Xc)++(Xo++Xf)))))++L) (by
      classical exact List.perm_iff_count.2 fun z=>by simp only [List.count_append,List.count_cons];omega)
     have e1:ofF k (putF hd k gC)=ofF k hd:=jav fun i hi=>jad ZO
     have e2:ofF n (V k)=ofF n vg:=jav fun j hj=>HVG.out j
     have HE:=jmT (show OpT w0 L D k n (opnD n (rwA2 ls) (rwB2 ls false) c) (.returned (.pointer (some ⟨db,0,none⟩))) _ from ⟨db,_,_,rfl,jmT ⟨gV,gA,gO,gF,putF hd k gC,Y,V,Xv,Xa,Xo,Xf,putF Xs k Xc,HV.out,by rw [e1];exact HA.out,HO.out,HF2.out,fun i hi=>by
      by_cases e:i=k
      ·subst e;rw [jaf,jaf,e2];exact HC3.out
      ·rw [jad e,jad e]
       exact (HQ.out i ZO).2.2,⟨fun i hi=>(HQ.out i hi).1,fun i j hi hj=>(HQ.out i hi).2.1 j hj,fun j hj=>by
       rw [HVG.out j]
       exact HC.out j hj⟩,by rw [jaf,jdJ],rfl⟩,K3⟩)
     clear K K1 K2 K3 HV HA HO HQ HVG HF2 HC3;go_wp2_with fail;go_ret;exact HE.out
end Go.Proofs.YtdlcglndhhndpaaGreat
