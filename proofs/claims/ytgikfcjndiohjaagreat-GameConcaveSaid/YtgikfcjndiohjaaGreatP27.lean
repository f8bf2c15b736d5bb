/- Laws and walks; conditions stand in each theorem. -/
import Derived.Test.YtgikfcjndiohjaaGreatP26
import Derived.Test.YtgikfcjndiohjaaGreatP25
set_option linter.unusedSimpArgs false
set_option linter.unusedVariables false
set_option maxHeartbeats 8000000
set_option maxRecDepth 100000
namespace Go.Proofs.YtgikfcjndiohjaaGreat
open Go.RowKit
def Agr (m N:Nat) (Y:Nat→Rw) (V:Nat→Nat→Rw) (G:Dc):Prop:=(∀i,i<m→isQ (Y i) (G.v i))∧(∀i j,i<m→j<N→isQ (V i j) (G.a i j))∧∀j,j<N→isQ (V m j) (G.c j)
abbrev vfam (q N:Nat) (V:Nat→Nat→Rw):Hl:=Mm.fam ⟨N,fun _=>0,fun _=>0,fun _=>[],V⟩ q
def DicL (m N db:Nat) (b:Bool) (G:Dc) (Ld:List Blk) (Dd:List Hl):Prop :=
 ∃(hR hO hF:Hd) (gv:Rw) (hd:Nat→Hd) (Y:Nat→Rw) (V:Nat→Nat→Rw) (Xr Xo Xf:List Blk) (Xs:Nat→List Blk),
  OwL 5 Ln.cs 90 (Value.slice hR.A hR.n hR.c) (ofF m (lnF Y hd)) Xr∧OwL 1 iEnc 3 (Value.slice hO.A hO.n hO.c) (ofF m (fun i=>((G.own i:Nat):Int))) Xo∧OwL 1 iEnc 3 (Value.slice hF.A hF.n hF.c) (ofF N (fun i=>((G.free i:Nat):Int))) Xf∧(∀i,i<m+1→OwL 4 Rw.cs 29 (Value.slice (hd i).A (hd i).n (hd i).c) (ofF N (V i)) (Xs i))∧Agr m N Y V G ∧
  Ld=(db,(Value.bool b::[Value.slice hR.A hR.n hR.c,.int .i64 gv.s,.slice gv.A gv.n gv.c,.int .i64 gv.t,.slice gv.B gv.m gv.d,Value.slice (hd m).A (hd m).n (hd m).c,Value.slice hO.A hO.n hO.c,Value.slice hF.A hF.n hF.c]).toArray,92)::(Xr++(Xo++(Xf++(ofF (m+1) Xs).flatten)))∧Dd=[vfam (m+1) N V,⟨rwP m Y,rwS m Y⟩]
theorem jgZ {α:Type} {n i:Nat} {X:Nat→List α} {x:α} (hi:i<n) (hx:x∈X i):x∈(ofF n X).flatten:=List.mem_flatten.2 ⟨_,jnf (f:=X) hi,hx⟩
section
variable {m N db:Nat} {b:Bool} {G:Dc} {Ld:List Blk} {Dd:List Hl} {w0:World} {L:List Blk}
theorem DicL.flag (h:DicL m N db b G Ld Dd) (hs:Ld.Sublist L):∃R:List Value,((db,(Value.bool b::R).toArray,92):Blk)∈L∧∀(W:World) (D:List Hl),St w0 L D W→W.cell? ⟨db,0,none⟩=some (.bool b):=by
 obtain ⟨hR,hO,hF,gv,hd,Y,V,Xr,Xo,Xf,Xs,-,-,-,-,-,rfl,-⟩:=h
 have hm:=hs.subset List.mem_cons_self
 exact ⟨_,hm,fun W D K=>(K.blk hm).cell (j:=0) rfl⟩
theorem DicL.ownR (h:DicL m N db b G Ld Dd) (hs:Ld.Sublist L) (hm:m≤1000):∃A c,∀(W:World) (D:List Hl),St w0 L D W→W.cell? ⟨db,7,none⟩=some (.slice A m c)∧RdI W W.heap.size A m c (ofF m (fun i=>((G.own i:Nat):Int))):=by
 obtain ⟨hR,hO,hF,gv,hd,Y,V,Xr,Xo,Xf,Xs,h1,h2,h3,h4,h5,rfl,-⟩:=h
 have hmem:=hs.subset List.mem_cons_self
 have hsub:Xo.Sublist L:=((List.sublist_append_left Xo _).trans ((List.sublist_append_right Xr _).trans (List.sublist_cons_self _ _))).trans hs
 refine ⟨hO.A,hO.c,fun W D K=>?_⟩
 exact ZQ83
theorem DicL.freeR (h:DicL m N db b G Ld Dd) (hs:Ld.Sublist L) (hN:N≤1000):∃A c,∀(W:World) (D:List Hl),St w0 L D W→W.cell? ⟨db,8,none⟩=some (.slice A N c)∧RdI W W.heap.size A N c (ofF N (fun i=>((G.free i:Nat):Int))):=by
 obtain ⟨hR,hO,hF,gv,hd,Y,V,Xr,Xo,Xf,Xs,h1,h2,h3,h4,h5,rfl,-⟩:=h
 have hmem:=hs.subset List.mem_cons_self
 have hsub:Xf.Sublist L:=((List.sublist_append_left Xf _).trans ((List.sublist_append_right Xo _).trans ((List.sublist_append_right Xr _).trans (List.sublist_cons_self _ _)))).trans hs
 refine ⟨hF.A,hF.c,fun W D K=>?_⟩
 exact ZQ82
theorem DicL.rowsR (h:DicL m N db b G Ld Dd) (hs:Ld.Sublist L):∃A c,∀(W:World) (D:List Hl),St w0 L D W→W.cell? ⟨db,1,none⟩=some (.slice A m c):=by
 obtain ⟨hR,hO,hF,gv,hd,Y,V,Xr,Xo,Xf,Xs,h1,h2,h3,h4,h5,rfl,-⟩:=h
 have hmem:=hs.subset List.mem_cons_self
 obtain ⟨A',c',e⟩:=h1.shapeL
 rw [jag] at e
 injection e with e1 e2 e3
 refine ⟨hR.A,hR.c,fun W D K=>?_⟩
 rw [←e2]
 exact (K.blk hmem).cell (j:=1) rfl
theorem DicL.line (h:DicL m N db b G Ld Dd) (hs:Ld.Sublist L) {i:Nat} (hi:i<m):∃hb hc y,isQ y (G.v i)∧(m≤hc∧hc≤9223372036854775807)∧∀(W:World) (D:List Hl),St w0 L D W→W.cell? ⟨db,1,none⟩=some (.slice (some ⟨hb,0,none⟩) m hc)∧(W.cell? ⟨hb,i*5,none⟩=some (.int .i64 y.s)∧W.cell? ⟨hb,i*5+1,none⟩=some (.slice y.A y.n y.c)∧W.cell? ⟨hb,i*5+2,none⟩=some (.int .i64 y.t)∧W.cell? ⟨hb,i*5+3,none⟩=some (.slice y.B y.m y.d))∧((∀x∈Dd,x∈D)→St w0 L (⟨rdP y.B y.m y.d y.k,rdS y.B y.m⟩::⟨rdP y.A y.n y.c y.l,rdS y.A y.n⟩::D) W):=by
 obtain ⟨hR,hO,hF,gv,hd,Y,V,Xr,Xo,Xf,Xs,h1,h2,h3,h4,h5,rfl,rfl⟩:=h
 have hmem:=hs.subset List.mem_cons_self
 obtain ⟨hb,hc,J,e,rfl,hcap⟩:=h1.blk ZO
 injection e with e1 e2 e3
 refine ⟨hb,hc,Y i,h5.1 i hi,hcap,fun W D K=>⟨?_,?_,fun hD=>?_⟩⟩
 ·rw [←e1,←e2,←e3]
  exact (K.blk hmem).cell (j:=1) rfl
 ·exact (K.cellL (n:=m) (Y:=Y) (h:=hd) (J:=J) (g:=hb) (t:=90) hi (hs.subset (List.mem_cons_of_mem _ List.mem_cons_self))).1
 ·exact K.rwRd (Y:=Y) (n:=m) (hD _ (List.mem_cons_of_mem _ List.mem_cons_self)) hi
theorem DicL.elem (h:DicL m N db b G Ld Dd) (hs:Ld.Sublist L) {i j:Nat} (hi:i<m) (hj:j<N):∃hb hc rb cp x,isQ x (G.a i j)∧(m≤hc∧hc≤9223372036854775807)∧(N≤cp∧cp≤9223372036854775807)∧∀(W:World) (D:List Hl),St w0 L D W→(W.cell? ⟨db,1,none⟩=some (.slice (some ⟨hb,0,none⟩) m hc)∧W.cell? ⟨hb,i*5+4,none⟩=some (.slice (some ⟨rb,0,none⟩) N cp))∧(W.cell? ⟨rb,j*4,none⟩=some (.int .i64 x.s)∧W.cell? ⟨rb,j*4+1,none⟩=some (.slice x.A x.n x.c)∧W.cell? ⟨rb,j*4+2,none⟩=some (.int .i64 x.t)∧W.cell? ⟨rb,j*4+3,none⟩=some (.slice x.B x.m x.d))∧((∀x∈Dd,x∈D)→St w0 L (⟨rdP x.B x.m x.d x.k,rdS x.B x.m⟩::⟨rdP x.A x.n x.c x.l,rdS x.A x.n⟩::D) W):=by
 obtain ⟨hR,hO,hF,gv,hd,Y,V,Xr,Xo,Xf,Xs,h1,h2,h3,h4,h5,rfl,rfl⟩:=h
 have hmem:=hs.subset List.mem_cons_self
 obtain ⟨hb,hc,J,e,rfl,hcap⟩:=h1.blk ZO
 injection e with e1 e2 e3
 obtain ⟨rb,cp,J2,f,g,hcp⟩:=(h4 i ZO).blk ZO
 injection f with f1 f2 f3
 have hm2:((rb,rwA N (V i) J2,29):Blk)∈L:=hs.subset (List.mem_cons_of_mem _ (List.mem_append_right _ (List.mem_append_right _ (List.mem_append_right _ (jgZ (X:=Xs) (i:=i) ZO (by rw [g];exact List.mem_cons_self))))))
 refine ⟨hb,hc,rb,cp,V i j,h5.2.1 i j hi hj,hcap,hcp,fun W D K=>⟨⟨?_,?_⟩,?_,fun hD=>?_⟩⟩
 ·rw [←e1,←e2,←e3]
  exact (K.blk hmem).cell (j:=1) rfl
 ·rw [←f1,←f2,←f3]
  exact (K.cellL (n:=m) (Y:=Y) (h:=hd) (J:=J) (g:=hb) (t:=90) hi (hs.subset (List.mem_cons_of_mem _ List.mem_cons_self))).2
 ·exact ZQ95
 ·exact K.famRd (M:=⟨N,fun _=>0,fun _=>0,fun _=>[],V⟩) (n:=m+1) (i:=i) (j:=j) (hD _ List.mem_cons_self) ZO hj
theorem DicL.goal (h:DicL m N db b G Ld Dd) (hs:Ld.Sublist L) {j:Nat} (hj:j<N):∃rb cp x,isQ x (G.c j)∧(N≤cp∧cp≤9223372036854775807)∧∀(W:World) (D:List Hl),St w0 L D W→W.cell? ⟨db,6,none⟩=some (.slice (some ⟨rb,0,none⟩) N cp)∧(W.cell? ⟨rb,j*4,none⟩=some (.int .i64 x.s)∧W.cell? ⟨rb,j*4+1,none⟩=some (.slice x.A x.n x.c)∧W.cell? ⟨rb,j*4+2,none⟩=some (.int .i64 x.t)∧W.cell? ⟨rb,j*4+3,none⟩=some (.slice x.B x.m x.d))∧((∀x∈Dd,x∈D)→St w0 L (⟨rdP x.B x.m x.d x.k,rdS x.B x.m⟩::⟨rdP x.A x.n x.c x.l,rdS x.A x.n⟩::D) W):=by
 obtain ⟨hR,hO,hF,gv,hd,Y,V,Xr,Xo,Xf,Xs,h1,h2,h3,h4,h5,rfl,rfl⟩:=h
 have hmem:=hs.subset List.mem_cons_self
 obtain ⟨rb,cp,J2,f,g,hcp⟩:=(h4 m ZO).blk ZO
 injection f with f1 f2 f3
 have hm2:((rb,rwA N (V m) J2,29):Blk)∈L:=hs.subset (List.mem_cons_of_mem _ (List.mem_append_right _ (List.mem_append_right _ (List.mem_append_right _ (jgZ (X:=Xs) (i:=m) ZO (by rw [g];exact List.mem_cons_self))))))
 refine ⟨rb,cp,V m j,h5.2.2 j hj,hcp,fun W D K=>⟨?_,?_,fun hD=>?_⟩⟩
 ·rw [←f1,←f2,←f3]
  exact (K.blk hmem).cell (j:=6) rfl
 ·exact ZQ95
 ·exact K.famRd (M:=⟨N,fun _=>0,fun _=>0,fun _=>[],V⟩) (n:=m+1) (i:=m) (j:=j) (hD _ List.mem_cons_self) ZO hj
end
theorem OwL.blk2 {e:TypeId} {val:Value} {sz n:Nat} {α:Type} {enc:α→List Value} {f:Nat→α} {X:List Blk} (hs:jbq sz enc) (h:OwL sz enc e val (ofF n f) X) (hn:0<n):∃g cap J,val=.slice (some ⟨g,0,none⟩) n cap∧X=[(g,recA enc n f J,e)]∧(n≤cap∧cap≤9223372036854775807)∧∀f',OwL sz enc e val (ofF n f') [(g,recA enc n f' J,e)]:=by
 rcases h with ⟨rfl,h0,rfl⟩|⟨g,cap,J,rfl,rfl,h1,h2,h3⟩
 ·have:n=0:=by rw [←jag (n:=n) (f:=f),h0];rfl
  omega
 ·rw [jag] at h1
  refine ⟨g,cap,J,by rw [jag],rfl,⟨h1,by unfold maxLen at h2;exact h2⟩,fun f'=>Or.inr ⟨g,cap,J,by rw [jag,jag],rfl,by rw [jag];exact h1,h2,?_⟩⟩
  rw [List.length_append,jdf hs] at h3 ⊢
  exact h3
theorem Dc.Eqv.fitX {m n r s:Nat} {D D':Dc} (h:D.Eqv m n D') (hr:r<m) (hs:s<n):D.fitX m n r s=D'.fitX m n r s:=by
 refine Bool.eq_iff_iff.2 ?_
 rw [Dc.fitX_iff,Dc.fitX_iff,h.v r hr,h.a r s hr hs,h.c s hs]
 refine and_congr Iff.rfl (and_congr (forall_congr' fun j=>forall_congr' fun hj=>?_) (and_congr (forall_congr' fun i=>forall_congr' fun hi=>forall_congr' fun hne=>?_) (forall_congr' fun j=>forall_congr' fun hj=>?_)))
 ·rw [h.a r j hr hj]
 ·rw [h.v i hi,h.a i s hi hs]
  refine and_congr Iff.rfl (forall_congr' fun j=>forall_congr' fun hj=>?_)
  rw [h.a i j hi hj,h.a r j hr hj]
 ·rw [h.c j hj,h.a r j hr hj]
theorem Dc.Eqv.xch {m n r s:Nat} {D D':Dc} (h:D.Eqv m n D') (hr:r<m) (hs:s<n):(D.xch r s).Eqv m n (D'.xch r s):=by
 refine ⟨fun i hi=>?_,fun i j hi hj=>?_,fun j hj=>?_,fun i hi=>?_,fun j hj=>?_⟩
 ·show (if i=r then D.v r / D.a r s else D.v i-D.a i s*(D.v r / D.a r s))=if i=r then D'.v r / D'.a r s else D'.v i-D'.a i s*(D'.v r / D'.a r s)
  rw [h.v r hr,h.a r s hr hs,h.v i hi,h.a i s hi hs]
 ·show (if i=r then (if j=s then 1 / D.a r s else D.a r j / D.a r s) else (if j=s then 0-D.a i s*(1 / D.a r s) else D.a i j-D.a i s*(D.a r j / D.a r s)))=if i=r then (if j=s then 1 / D'.a r s else D'.a r j / D'.a r s) else (if j=s then 0-D'.a i s*(1 / D'.a r s) else D'.a i j-D'.a i s*(D'.a r j / D'.a r s))
  rw [h.a r s hr hs,h.a i s hi hs,h.a r j hr hj,h.a i j hi hj]
 ·show (if j=s then 0-D.c s*(1 / D.a r s) else D.c j-D.c s*(D.a r j / D.a r s))=if j=s then 0-D'.c s*(1 / D'.a r s) else D'.c j-D'.c s*(D'.a r j / D'.a r s)
  rw [h.a r s hr hs,h.c s hs,h.a r j hr hj,h.c j hj]
 ·show (if i=r then D.free s else D.own i)=if i=r then D'.free s else D'.own i
  rw [h.free s hs,h.own i hi]
 ·show (if j=s then D.own r else D.free j)=if j=s then D'.own r else D'.free j
  rw [h.own r hr,h.free j hj]
theorem Dc.Eqv.trans {m n:Nat} {D D' D'':Dc} (h:D.Eqv m n D') (h':D'.Eqv m n D''):D.Eqv m n D'' :=
 ⟨fun i hi=>(h.v i hi).trans (h'.v i hi),fun i j hi hj=>(h.a i j hi hj).trans (h'.a i j hi hj),fun j hj=>(h.c j hj).trans (h'.c j hj),fun i hi=>(h.own i hi).trans (h'.own i hi),fun j hj=>(h.free j hj).trans (h'.free j hj)⟩
theorem Agr.eqv {m N:Nat} {Y:Nat→Rw} {V:Nat→Nat→Rw} {G:Dc} (h:Agr m N Y V G):(dcOf m Y V G.own G.free).Eqv m N G :=
 ⟨fun i hi=>(h.1 i hi).q,fun i j hi hj=>(h.2.1 i j hi hj).q,fun j hj=>(h.2.2 j hj).q,fun _ _=>rfl,fun _ _=>rfl⟩
theorem Agr.of {m N:Nat} {Y:Nat→Rw} {V:Nat→Nat→Rw} {G:Dc} {own free:Nat→Nat} (hY:jdE m Y) (hV:jdj (m+1) N V) (h:(dcOf m Y V own free).Eqv m N G):Agr m N Y V G:=by
 refine ⟨fun i hi=>?_,fun i j hi hj=>?_,fun j hj=>?_⟩
 ·rw [←h.v i hi];exact hY i hi
 ·rw [←h.a i j hi hj];exact hV i j ZO hj
 ·rw [←h.c j hj];exact hV m j ZO hj
def XdP (w0:World) (L1:List Blk) (D:List Hl) (m N db r s:Nat) (b:Bool) (G:Dc) (e:Ending) (W':World):Prop :=
 ∃(b':Bool) (G':Dc) (Ld:List Blk) (Dd:List Hl),e=.returned (.tuple #[])∧Hid (DicL m N db b' G' Ld Dd)∧Hid (FulK b b' (G.fitX m N r s=true))∧Hid (G.fitX m N r s=true→G'=G.xch r s)∧St w0 (Ld++L1) (Dd++D) W'
theorem jfx {w0 w:World} {L1:List Blk} {D:List Hl} {m N db r s:Nat} {b:Bool} {G:Dc} {Ld:List Blk} {Dd:List Hl} (h:DicL m N db b G Ld Dd) (K:St w0 (Ld++L1) (Dd++D) w) (hr:r<m) (hs:s<N) (hm:m≤1000) (hN:N≤1000) (hp:G.a r s≠0) :
 Calls Tryz.prog 112 #[.pointer (some ⟨db,0,none⟩),.int .i64 r,.int .i64 s] w (XdP w0 L1 D m N db r s b G):=by
 obtain ⟨hR,hO,hF,gv,hd,Y,V,Xr,Xo,Xf,Xs,h1,h2,h3,h4,h5,rfl,rfl⟩:=h
 obtain ⟨hb,hc,HJ,e,rfl,hcap,h1'⟩:=h1.blk2 jbD ZO
 obtain ⟨ob,oc,OJ,eo,rfl,hoc,h2'⟩:=h2.blk2 jap ZO
 obtain ⟨fb,fc,FJ,ef,rfl,hfc,h3'⟩:=h3.blk2 jap ZO
 have h4':∀i,∃g cap J,i<m+1→Value.slice (hd i).A (hd i).n (hd i).c=.slice (some ⟨g,0,none⟩) N cap∧Xs i=[(g,recA Rw.cs N (V i) J,29)]∧(N≤cap∧cap≤9223372036854775807)∧∀V',OwL 4 Rw.cs 29 (Value.slice (hd i).A (hd i).n (hd i).c) (ofF N V') [(g,recA Rw.cs N V' J,29)]:=fun i=>by
  by_cases hi:i<m+1
  ·obtain ⟨g,cap,J,k1,k2,k3⟩:=(h4 i hi).blk2 ja4 ZO
   exact ⟨g,cap,J,fun _=>⟨k1,k2,k3⟩⟩
  ·exact ⟨0,0,[],fun h=>absurd h hi⟩
 obtain ⟨rb,h4'⟩:=Classical.axiomOfChoice h4'
 obtain ⟨cp,h4'⟩:=Classical.axiomOfChoice h4'
 obtain ⟨J,h4'⟩:=Classical.axiomOfChoice h4'
 obtain ⟨M,hM⟩:∃M:Mm,M=⟨N,rb,cp,J,V⟩:=⟨_,rfl⟩
 have hMN:M.N=N:=by rw [hM]
 have hMV:∀V',vfam (m+1) N V'=(M.wV V').fam (m+1):=fun V'=>by rw [hM];rfl
 have hhd:∀i,i<m+1→hd i=M.hd (m+1) i:=fun i hi=>by
  obtain ⟨k1,-,-⟩:=h4' i hi
  injection k1 with k1 k2 k3
  rw [hM]
  show hd i=⟨some ⟨rb i,0,none⟩,N,cp i⟩
  rw [←k1,←k2,←k3]
 have hrows:∀V':Nat→Nat→Rw,(ofF (m+1) fun i=>[((rb i,recA Rw.cs N (V' i) (J i),29):Blk)]).flatten=(M.wV V').rows (m+1):=fun V'=>by
  have hf:∀(F:Nat→Blk) n,(ofF n fun i=>[F i]).flatten=ofF n F:=fun F n=>by
   induction n with
   | zero=>rfl
   | succ n ih=>rw [jcN,jcN,List.flatten_append,ih];rfl
  rw [hf,hM]
  rfl
 have hXs:(ofF (m+1) Xs).flatten=(M.wV V).rows (m+1):=by
  rw [←hrows V,jaD (f:=Xs) (g:=fun i=>[((rb i,recA Rw.cs N (V i) (J i),29):Blk)]) fun i hi=>(h4' i hi).2.1]
 have hln:∀Y',recA Ln.cs m (lnF Y' hd) HJ=recA Ln.cs m (lnF Y' (M.hd (m+1))) HJ:=fun Y'=>jhy fun i hi=>by
  show (⟨Y' i,hd i⟩:Ln)=⟨Y' i,M.hd (m+1) i⟩
  rw [hhd i ZO]
 injection e with e1 e2 e3
 injection eo with o1 o2 o3
 injection ef with f1 f2 f3
 have hperm:∀(A B C D E:List Blk) (x:Blk),(x::(A++(E++(B++(C++D))))).Perm (x::(A++(B++(C++E)))++D):=fun A B C D E x=>by
  rw [List.cons_append]
  refine List.Perm.cons _ ?_
  rw [List.append_assoc]
  refine List.Perm.append_left _ ?_
  rw [List.append_assoc,List.append_assoc]
  exact (List.perm_append_comm_assoc E B (C++D)).trans (List.Perm.append_left _ (List.perm_append_comm_assoc E C D))
 obtain ⟨q,hq⟩:∃q,q=m+1:=⟨_,rfl⟩
 have key:∀(b':Bool) (Y':Nat→Rw) (V':Nat→Nat→Rw) (o f:Nat→Int),((db,(Value.bool b'::[Value.slice hR.A hR.n hR.c,.int .i64 gv.s,.slice gv.A gv.n gv.c,.int .i64 gv.t,.slice gv.B gv.m gv.d,Value.slice (hd m).A (hd m).n (hd m).c,Value.slice hO.A hO.n hO.c,Value.slice hF.A hF.n hF.c]).toArray,92):Blk)::([(hb,recA Ln.cs m (lnF Y' hd) HJ,90)]++((M.wV V').rows (m+1)++([(ob,recA iEnc m o OJ,3)]++([(fb,recA iEnc N f FJ,3)]++L1))))=((db,(Value.bool b'::[.slice (some ⟨hb,0,none⟩) m hc,.int .i64 gv.s,.slice gv.A gv.n gv.c,.int .i64 gv.t,.slice gv.B gv.m gv.d,.slice (some ⟨M.rb m,0,none⟩) M.N (M.cp m),.slice (some ⟨ob,0,none⟩) m oc,.slice (some ⟨fb,0,none⟩) M.N fc]).toArray,92)::(hb,recA Ln.cs m (lnF Y' (M.hd q)) HJ,90)::((M.wV V').rows q++((ob,recA iEnc m o OJ,3)::(fb,recA iEnc M.N f FJ,3)::L1))):=fun b' Y' V' o f=>by
  have hdn:M.hd (m+1) m=⟨some ⟨M.rb m,0,none⟩,N,M.cp m⟩:=by unfold Mm.hd;rw [hMN]
  rw [hln Y',e1,e2,e3,o1,o2,o3,f1,f2,f3,hhd m ZO,hdn,hq,hMN]
  rfl
 have K1:=K.perm (hperm [_] [_] [_] L1 (ofF (m+1) Xs).flatten _)
 rw [hXs,key,hMV] at K1
 have hEq:=h5.eqv
 have HC:=jfC w0 w M L1 D m q r s db hb hc ob oc fb fc gv HJ OJ FJ b Y V G.own G.free (by rw [hq] at K1 ⊢;exact K1) hr hq (by rw [hMN];exact hs) hm (by rw [hMN];exact hN) (fun i hi=>by
  rw [hMN,hM]
  exact (h4' i ZO).2.2.1) hcap hoc (by rw [hMN];exact hfc) (fun i hi=>(h5.1 i hi).self) (fun i j hi hj=>by
  rw [hMN] at hj
  by_cases em:i=m
  ·rw [em];exact (h5.2.2 j hj).self
  ·exact (h5.2.1 i j ZO hj).self) (by rw [(h5.2.1 r s hr hs).q];exact hp)
 refine HC.mono ?_
 rintro e w5 ⟨b',Y',V',rfl,⟨hY',hV'⟩,⟨hf,hx⟩,K5⟩
 rw [hMN] at hV' hf hx
 obtain ⟨G',hG1,hG2⟩:∃G':Dc,(G.fitX m N r s=true→G'=G.xch r s)∧(dcOf m Y' V' (putF G.own r (G.free s)) (putF G.free s (G.own r))).Eqv m N G':=by
  by_cases hfit:G.fitX m N r s=true
  ·exact ⟨G.xch r s,fun _=>rfl,(hx (by rw [hEq.fitX hr hs];exact hfit)).trans (hEq.xch hr hs)⟩
  ·exact ⟨_,fun h=>absurd h hfit,⟨fun _ _=>rfl,fun _ _ _ _=>rfl,fun _ _=>rfl,fun _ _=>rfl,fun _ _=>rfl⟩⟩
 rw [hEq.fitX hr hs] at hf
 have eo:ofF m (fun i=>((G'.own i:Nat):Int))=ofF m (fun i=>((putF G.own r (G.free s) i:Nat):Int)):=jaD fun i hi=>by rw [←hG2.own i hi];rfl
 have ef:ofF N (fun i=>((G'.free i:Nat):Int))=ofF N (fun i=>((putF G.free s (G.own r) i:Nat):Int)):=jaD fun j hj=>by rw [←hG2.free j hj];rfl
 rw [←key] at K5
 rw [hq] at K5 hV'
 have K6:=K5.perm (hperm [_] [_] [_] L1 ((M.wV V').rows (m+1)) _).symm
 rw [←hrows,←hMV] at K6
 exact ⟨b',G',_,_,rfl,jpk ⟨hR,hO,hF,gv,hd,Y',V',_,_,_,_,h1' _,by rw [eo];exact h2' _,by rw [ef];exact h3' _,fun i hi=>(h4' i hi).2.2.2 (V' i),Agr.of hY' hV' hG2,rfl,rfl⟩,jpk hf,jpk hG1,K6⟩
def PutX (f:Nat→Nat) (val:Nat→Rat) (n lo k:Nat) (x0 x:Nat→Rat):Prop:=∀u,u<n→x u=match idxP f (lo+u) k with
 | some i=>val i
 | none=>x0 u
theorem PutX.zero (f:Nat→Nat) (val:Nat→Rat) (n lo:Nat) (x0:Nat→Rat):PutX f val n lo 0 x0 x0:=fun u _=>rfl
theorem PutX.skip {f:Nat→Nat} {val:Nat→Rat} {n lo k:Nat} {x0 x:Nat→Rat} (h:PutX f val n lo k x0 x) (hf:¬(lo≤f k∧f k<lo+n)):PutX f val n lo (k+1) x0 x:=fun u hu=>by
 rw [h u hu,idxP]
 cases e:idxP f (lo+u) k with
 | some i=>rfl
 | none =>
  rw [if_neg ZO]
theorem PutX.put {f:Nat→Nat} {val:Nat→Rat} {n lo k:Nat} {x0 x:Nat→Rat} (h:PutX f val n lo k x0 x) (hinj:∀i,i<k→f i≠f k) {v:Nat} (hv:f k=lo+v):PutX f val n lo (k+1) x0 (putF x v (val k)):=fun u hu=>by
 rw [idxP]
 by_cases e:u=v
 ·subst e
  rw [jaf,jcc (fun i hi=>by rw [←hv];exact hinj i hi),←hv,if_pos rfl]
 ·rw [jad e,h u hu]
  cases e2:idxP f (lo+u) k with
  | some i=>rfl
  | none=>rw [if_neg ZO]
section
variable {m N db:Nat} {b:Bool} {G:Dc} {Ld:List Blk} {Dd:List Hl} {w0 W:World} {L1:List Blk} {D:List Hl}
theorem DicL.ownA (h:DicL m N db b G Ld Dd) (hm:m≤1000):∃A c,∀(L:List Blk) (W:World) (D:List Hl),Ld.Sublist L→St w0 L D W→W.cell? ⟨db,7,none⟩=some (.slice A m c)∧RdI W W.heap.size A m c (ofF m (fun i=>((G.own i:Nat):Int))):=by
 obtain ⟨hR,hO,hF,gv,hd,Y,V,Xr,Xo,Xf,Xs,h1,h2,h3,h4,h5,rfl,-⟩:=h
 refine ⟨hO.A,hO.c,fun L W D hs K=>?_⟩
 have hmem:=hs.subset List.mem_cons_self
 have hsub:Xo.Sublist L:=((List.sublist_append_left Xo _).trans ((List.sublist_append_right Xr _).trans (List.sublist_cons_self _ _))).trans hs
 exact ZQ83
theorem DicL.freeA (h:DicL m N db b G Ld Dd) (hN:N≤1000):∃A c,∀(L:List Blk) (W:World) (D:List Hl),Ld.Sublist L→St w0 L D W→W.cell? ⟨db,8,none⟩=some (.slice A N c)∧RdI W W.heap.size A N c (ofF N (fun i=>((G.free i:Nat):Int))):=by
 obtain ⟨hR,hO,hF,gv,hd,Y,V,Xr,Xo,Xf,Xs,h1,h2,h3,h4,h5,rfl,-⟩:=h
 refine ⟨hF.A,hF.c,fun L W D hs K=>?_⟩
 have hmem:=hs.subset List.mem_cons_self
 have hsub:Xf.Sublist L:=((List.sublist_append_left Xf _).trans ((List.sublist_append_right Xo _).trans ((List.sublist_append_right Xr _).trans (List.sublist_cons_self _ _)))).trans hs
 exact ZQ82
def ConP (w0:World) (Ld L1:List Blk) (Dd D:List Hl) (n:Nat) (x:Nat→Rat) (e:Ending) (W':World):Prop :=
 ∃(g:Nat) (v:Nat→Rw),e=Ending.returned (.slice (some ⟨g,0,none⟩) n n)∧Hid (∀j,j<n→isQ (v j) (x j))∧St w0 ((g,rwA n v [],29)::(Ld++L1)) (⟨rwP n v,rwS n v⟩::(Dd++D)) W'
theorem jdp (HL:DicL m N db b G Ld Dd) (K:St w0 (Ld++L1) (Dd++D) W) (hOk:G.Ok m N) (hm:m≤1000) (hN:N≤1000) {rr:Nat} (hr:rr<m) :
 Calls Tryz.prog 63 #[.pointer (some ⟨db,0,none⟩),.int .i64 N,.int .i64 rr] W (ConP w0 Ld L1 Dd D m (yC N G rr)):=by
 have HD:=jpk HL
 have HOk:=jpk hOk
 have Hrm:=jpk hr
 obtain ⟨A0,k0,hrows⟩:=HL.rowsR (L:=Ld++L1) Zb18
 have cr:=hrows _ _ K
 have hri:(rr:Int)<(m:Int):=by omega
 have hr0:(0:Int)≤(rr:Int):=by omega
 clear hOk HL hrows
 go_enter Tryz.func63,Tryz.ntmps63
 go_wp2_with fail
 refine (jcB m w0 W _ _ K hm).mono ?_
 rintro e W1 ⟨g,v,rfl,hv,K1⟩
 clear K cr
 have K:=K1
 clear K1
 obtain ⟨A1,k1,hown⟩:=HD.out.ownR (L:=((g,rwA m v [],29)::(Ld++L1))) Zb18 hm
 have co:=(hown _ _ K).1
 obtain ⟨vb,vo,hA,hvb,hcc⟩:=RdI.cellAt (hown _ _ K).2 Hrm.out
 subst hA
 rw [jcS Hrm.out] at hcc
 have hcp1:=(hown _ _ K).2.caps
 have hlo:=HOk.out.lo rr Hrm.out
 clear hown hvb
 obtain ⟨x0,hx0⟩:∃x0:Nat→Rat,x0=fun u=>if G.own rr=N+u then 1 else 0:=⟨_,rfl⟩
 have HX0:=jpk hx0
 have HEND:=jpk (fun (v:Nat→Rw) (x:Nat→Rat) (h1:∀u,u<m→isQ (v u) (x u)) (h2:PutX G.free (G.a rr) m N N x0 x)=>(show ∀u,u<m→isQ (v u) (yC N G rr u) from fun u hu=>by
  have h3:=h1 u hu
  rw [h2 u hu] at h3
  unfold yC
  by_cases e0:G.own rr=N+u
  ·rw [if_pos e0]
   rw [jcc (fun j hj e2=>HOk.out.ne rr j Hrm.out hj (by rw [e0,e2]))] at h3
   rw [hx0] at h3
   simp only [if_pos e0] at h3
   exact h3
  ·rw [if_neg e0]
   cases e2:idxP G.free (N+u) N with
   | some j=>rw [e2] at h3;exact h3
   | none =>
    rw [e2,hx0] at h3
    simp only [if_neg e0] at h3
    exact h3))
 clear hx0
 obtain ⟨A2,k2,hfree⟩:=HD.out.freeA (w0:=w0) hN
 have HFR:=jpk hfree
 have cf:=(hfree _ _ _ Zb18 K).1
 clear hfree
 by_cases hge:N≤G.own rr
 ·obtain ⟨u,hu⟩:∃u,G.own rr=N+u:=⟨G.own rr-N,by omega⟩
  have hum:u<m:=by omega
  have hws:IntKind.i64.wrap (((G.own rr:Nat):Int)-(N:Int))=(u:Int):=by
   rw [IntWalk.i64_in _ ZO]
   omega
  have hui:(u:Int)<(m:Int):=by omega
  have hu0:(0:Int)≤(u:Int):=by omega
  have hgd:decide ((u:Int)≥0)=true:=decide_eq_true hu0
  have HNu:=jpk (fun V L5 D5 (h:St w0 L5 D5 V)=>(jce 1 V Zb4).mono fun e W6 ⟨s7,A7,n7,c7,l7,t7,B7,m7,d7,k7,he,⟨hra,hrb⟩,ho,⟨hfa,hfb⟩,hbl⟩=>(⟨⟨s7,A7,n7,c7,l7,t7,B7,m7,d7,k7⟩,he,jpk (⟨ho,by decide +kernel⟩:isQ ⟨s7,A7,n7,c7,l7,t7,B7,m7,d7,k7⟩ 1),h.retF hbl hra hrb hfa hfb⟩:∃z:Rw,e=Ending.returned (.agg #[.int .i64 z.s,.slice z.A z.n z.c,.int .i64 z.t,.slice z.B z.m z.d])∧Hid (isQ z 1)∧St w0 L5 (⟨rdP z.B z.m z.d z.k,rdS z.B z.m⟩::⟨rdP z.A z.n z.c z.l,rdS z.A z.n⟩::D5) W6))
  have HV0:=jpk (show ∀z:Rw,isQ z 1→∀i,i<m→isQ (putF v u z i) (x0 i) from fun z hz i hi=>by
   rw [HX0.out]
   by_cases e:i=u
   ·rw [e,jaf]
    simp only [hu,if_true]
    exact hz
   ·rw [jad e]
    simp only [hu]
    rw [if_neg ZO]
    exact hv.out i hi)
  have Hum:=jpk hum
  clear hu hlo hv HX0
  go_wp2_with (first
   | (go_at_call 105;refine (HNu.out _ _ _ K).mono ?_;rintro e w3 ⟨z,rfl,gz,K3⟩)
   | (refine K3.storeR rfl rfl _ _ _ rfl g u m z rfl rfl Hum.out ZUA jar ?_;clear co cf;intro W8 K8;have cf:=(HFR.out _ _ _ Zb18 K8).1))
  have HV1:=jpk (HV0.out z gz.out)
  replace K:=((K8.rwPut (v:=v) z u ZMB ZMB ZMB).lessS (D':=⟨rwP m (putF v u z),rwS m (putF v u z)⟩::(Dd++D)) Zb10)
  obtain ⟨v1,hv1⟩:∃v1,v1=putF v u z:=⟨_,rfl⟩
  rw [←hv1] at K HV1
  clear hv1 K3 K8 HV0 HNu gz hcc
  exact ZQ7
 ·have hws:IntKind.i64.wrap (((G.own rr:Nat):Int)-(N:Int))=((G.own rr:Nat):Int)-(N:Int):=IntWalk.i64_in _ ZO
  have hgi:¬((G.own rr:Nat):Int)-(N:Int)≥0:=by omega
  have hgd:decide (((G.own rr:Nat):Int)-(N:Int)≥0)=false:=decide_eq_false hgi
  have hgn:decide (N≤G.own rr)=false:=decide_eq_false hge
  have HV1:=jpk (show ∀i,i<m→isQ (v i) (x0 i) from fun i hi=>by
   rw [HX0.out]
   show isQ (v i) (if G.own rr=N+i then 1 else 0)
   rw [if_neg ZO]
   exact hv.out i hi)
  obtain ⟨v1,hv1⟩:∃v1,v1=v:=⟨_,rfl⟩
  rw [←hv1] at K HV1
  clear hv1 hlo hv HX0
  go_wp2_with fail
  exact ZQ7
end
section
variable {w0 W:World} {L:List Blk} {D:List Hl}
theorem callMulG {Y Z:Rw} {f q:Rat} (K:St w0 L D W) (hY:isQ Y f) (hZ:isQ Z q) (m1:(⟨rdP Y.A Y.n Y.c Y.l,rdS Y.A Y.n⟩:Hl)∈D) (m2:(⟨rdP Y.B Y.m Y.d Y.k,rdS Y.B Y.m⟩:Hl)∈D) (m3:(⟨rdP Z.A Z.n Z.c Z.l,rdS Z.A Z.n⟩:Hl)∈D) (m4:(⟨rdP Z.B Z.m Z.d Z.k,rdS Z.B Z.m⟩:Hl)∈D) :
 Calls Tryz.prog 86 #[.agg #[.int .i64 Y.s,.slice Y.A Y.n Y.c,.int .i64 Y.t,.slice Y.B Y.m Y.d],.agg #[.int .i64 Z.s,.slice Z.A Z.n Z.c,.int .i64 Z.t,.slice Z.B Z.m Z.d]] W (FrT w0 L D (MulS f q)):=by
 obtain ⟨o,ho⟩:∃o,o=jfQ f q:=⟨_,rfl⟩
 obtain ⟨er,her⟩:∃er,er=jfP f q:=⟨_,rfl⟩
 have h:=jmr Y.s Y.t Z.s Z.t Y.A Y.B Z.A Z.B Y.n Y.c Y.m Y.d Z.n Z.c Z.m Z.d Y.l Y.k Z.l Z.k W (K.rd m1) (K.rd m2) (K.rd m3) (K.rd m4)
 rw [hY.1.right hY.2,hZ.1.right hZ.2,hY.1.rat,hZ.1.rat] at h
 have e1:binO (true&&true) (mulK f q) (f*q)=o:=by
  rw [ho]
  unfold jfQ binO
  simp
 have e2:binE (true&&true) (mulK f q)=er:=by
  rw [her]
  unfold jfP binE
  simp
 rw [e1,e2] at h
 have HS:=fun y:Rw=>mulS (y:=y) ho her
 clear ho her e1 e2
 exact h.mono fun e W' ⟨s31,A31,n31,c31,l31,t31,B31,m31,d31,k31,he,⟨hra,hrb⟩,hop,⟨hfa,hfb⟩,hbb⟩=>⟨⟨s31,A31,n31,c31,l31,t31,B31,m31,d31,k31⟩,er,he,jpk (HS _ hop),K.retF hbb hra hrb hfa hfb⟩
theorem jgB {Y Z:Rw} {f q:Rat} (K:St w0 L D W) (hY:isQ Y f) (hZ:isQ Z q) (m1:(⟨rdP Y.A Y.n Y.c Y.l,rdS Y.A Y.n⟩:Hl)∈D) (m2:(⟨rdP Y.B Y.m Y.d Y.k,rdS Y.B Y.m⟩:Hl)∈D) (m3:(⟨rdP Z.A Z.n Z.c Z.l,rdS Z.A Z.n⟩:Hl)∈D) (m4:(⟨rdP Z.B Z.m Z.d Z.k,rdS Z.B Z.m⟩:Hl)∈D) :
 Calls Tryz.prog 40 #[.agg #[.int .i64 Y.s,.slice Y.A Y.n Y.c,.int .i64 Y.t,.slice Y.B Y.m Y.d],.agg #[.int .i64 Z.s,.slice Z.A Z.n Z.c,.int .i64 Z.t,.slice Z.B Z.m Z.d]] W (fun e W'=>∃y er,e=Ending.returned (.tuple #[.agg #[.int .i64 y.s,.slice y.A y.n y.c,.int .i64 y.t,.slice y.B y.m y.d],.int .i64 er])∧Hid (AddS f q y er∧FrA w0.heap.size y.A∧FrA w0.heap.size y.B)∧St w0 L (⟨rdP y.B y.m y.d y.k,rdS y.B y.m⟩::⟨rdP y.A y.n y.c y.l,rdS y.A y.n⟩::D) W'):=by
 obtain ⟨o,ho⟩:∃o,o=binO true (addK f q) (f+q):=⟨_,rfl⟩
 obtain ⟨er,her⟩:∃er,er=binE true (addK f q):=⟨_,rfl⟩
 have h:=jmq Y.s Y.t Z.s Z.t Y.A Y.B Z.A Z.B Y.n Y.c Y.m Y.d Z.n Z.c Z.m Z.d Y.l Y.k Z.l Z.k W (K.rd m1) (K.rd m2) (K.rd m3) (K.rd m4)
 rw [hY.1.right hY.2,hZ.1.right hZ.2,hY.1.rat,hZ.1.rat,Bool.and_true,←ho,←her] at h
 have HS:=fun y:Rw=>addS (y:=y) ho her
 clear ho her
 exact h.mono fun e W' ⟨s31,A31,n31,c31,l31,t31,B31,m31,d31,k31,he,⟨hra,hrb⟩,hop,⟨hfa,hfb⟩,hbb⟩=>⟨⟨s31,A31,n31,c31,l31,t31,B31,m31,d31,k31⟩,er,he,jpk ⟨HS _ hop,fun a ha=>Nat.le_trans K.1.size (hfa a ha),fun a ha=>Nat.le_trans K.1.size (hfb a ha)⟩,K.retF hbb hra hrb hfa hfb⟩
theorem jdV (p:Int) (hp: -9223372036854775808≤p∧p≤9223372036854775807) (hf:jaF ((p:Int):Rat)=true) (h:St w0 L D W):Calls Tryz.prog 22 #[.int .i64 p] W fun e W6=>∃z:Rw,e=Ending.returned (.agg #[.int .i64 z.s,.slice z.A z.n z.c,.int .i64 z.t,.slice z.B z.m z.d])∧Hid (isQ z ((p:Int):Rat)∧FrA w0.heap.size z.A∧FrA w0.heap.size z.B)∧St w0 L (⟨rdP z.B z.m z.d z.k,rdS z.B z.m⟩::⟨rdP z.A z.n z.c z.l,rdS z.A z.n⟩::D) W6 :=
 (jjT p W hp).mono fun e W6 ⟨s7,A7,n7,c7,l7,t7,B7,m7,d7,k7,he,⟨hra,hrb⟩,ho,⟨hfa,hfb⟩,hbl⟩=>⟨⟨s7,A7,n7,c7,l7,t7,B7,m7,d7,k7⟩,he,jpk ⟨(⟨ho,hf⟩:isQ ⟨s7,A7,n7,c7,l7,t7,B7,m7,d7,k7⟩ _),fun a ha=>Nat.le_trans h.1.size (hfa a ha),fun a ha=>Nat.le_trans h.1.size (hfb a ha)⟩,h.retF hbl hra hrb hfa hfb⟩
end
end Go.Proofs.YtgikfcjndiohjaaGreat
