/- Laws and walks; conditions stand in each theorem. -/
import Derived.Test.YtgikfcjndiohjaaGreatP30
import Derived.Test.YtgikfcjndiohjaaGreatP28
set_option linter.unusedSimpArgs false
set_option linter.unusedVariables false
set_option maxHeartbeats 8000000
set_option maxRecDepth 100000
namespace Go.Proofs.YtgikfcjndiohjaaGreat
open Go.RowKit
def fvR (l:List Fv) (j:Nat):Rat:=((l[j]?).map Fv.rat).getD 0
theorem isQ.fv {x:Rw} {q:Rat} (h:isQ x q):x.fv=fvQ q:=by
 obtain ⟨⟨⟨h1,h2⟩,h3,h4⟩,-⟩:=h
 unfold Rw.fv fvQ
 rw [h1,h2,h3,h4]
theorem St.fxOwn {w W:World} {L:List Blk} {D:List Hl} {g n:Nat} {v:Nat→Rw} {t:TypeId} (K:St w ((g,rwA n v [],t)::L) (⟨rwP n v,rwS n v⟩::D) W) (hn:n≤1000):St w L (⟨fxP (some ⟨g,0,none⟩) n n v,fxS (some ⟨g,0,none⟩) n v⟩::D) W:=by
 have hB:=K.blk (b:=g) (cs:=rwA n v []) (t:=t) List.mem_cons_self
 have hP:=K.okAt (x:=⟨rwP n v,rwS n v⟩) List.mem_cons_self
 have h1:fxP (some ⟨g,0,none⟩) n n v W:=by
  refine ⟨⟨jag,Nat.le_refl _,⟨by omega,by omega⟩,fun _=>⟨g,0,rfl,hB.lt,fun k hk=>?_⟩⟩,fun i hi=>hP.1 i hi⟩
  rw [jag] at hk
  refine ⟨(v k).cs,?_,rfl,fun j u hu=>?_⟩
  ·have e:(ofF n v)[k]'(by rw [jag];exact hk)=v k:=by
    have:=jaJ (f:=v) hk
    exact ZQ41
   rw [e]
   rfl
  ·have hj:j<4:=(List.getElem?_eq_some_iff.1 hu).1
   rw [Nat.zero_add]
   exact hB.cell ((jaW (J:=[]) hk hj).trans hu)
 have hpw:=List.pairwise_cons.1 K.2.2.1
 refine ((K.part (List.sublist_cons_self _ _)).less (D':=D) (fun x hx=>List.mem_cons_of_mem _ hx)).fxAdd h1 fun b hS p hp e=>?_
 rcases hS with ⟨-,a,ha,rfl⟩|⟨i,hi,hS⟩
 ·injection ha with ha
  subst ha
  exact hpw.1 p hp e.symm
 ·exact (hP.2.1 b ⟨i,hi,hS⟩).2 p (List.mem_cons_of_mem _ hp) e
theorem St.rdOwn {w W:World} {L:List Blk} {D:List Hl} {g n:Nat} {v:Nat→Rw} {t:TypeId} {x:Nat→Rat} (K:St w ((g,rwA n v [],t)::L) D W) (hm:(⟨rwP n v,rwS n v⟩:Hl)∈D) (hn:n≤1000) (hx:∀j,j<n→isQ (v j) (x j)):RdF W W.heap.size (some ⟨g,0,none⟩) n n (ofF n fun i=>fvQ (x i)):=by
 have ho:OwL 4 Rw.cs t (.slice (some ⟨g,0,none⟩) n n) (ofF n v) [(g,rwA n v [],t)]:=Or.inr ⟨g,n,[],by rw [jag],rfl,by rw [jag];exact Nat.le_refl _,by unfold maxLen;omega,by rw [List.append_nil,jd9]⟩
 obtain ⟨A,cap,e,h⟩:=ho.rdF (L:=L) K hm ZO
 injection e with e1 e2 e3
 subst e1 e3
 rw [jaD (g:=fun i=>fvQ (x i)) (fun i hi=>(hx i hi).fv)] at h
 exact h
theorem nx_row {p:Nxt} {r s:Int} (h:NxI p r s):(∃i,p=.contra i∧r=(i:Int))∨(∀i,p≠.contra i)∧r= -1:=by
 cases p with
 | best=>exact Or.inr ⟨(fun i e=>by cases e),h.1⟩
 | contra i=>exact Or.inl ⟨i,rfl,h.1⟩
 | endless j=>exact Or.inr ⟨(fun i e=>by cases e),h.1⟩
 | swap _ _=>exact h.elim
theorem nx_col {m n:Nat} {D:Dc} {r s:Int} (h:NxI (D.pick m n) r s):(∃j,D.pick m n=.endless j∧s=(j:Int)∧je4 m n D=.ray (xR m D j))∨s= -1∧je4 m n D=.best (xB m D) (yB n D):=by
 unfold je4
 cases hp:D.pick m n with
 | best=>rw [hp] at h;exact Or.inr ⟨h.2,rfl⟩
 | contra i=>rw [hp] at h;exact Or.inr ⟨h.2,rfl⟩
 | endless j=>rw [hp] at h;exact Or.inl ⟨j,rfl,h.2,rfl⟩
 | swap _ _=>rw [hp] at h;exact h.elim
def solO (w':World) (m n:Nat) (e:Ending):jem→Prop
 | .full=>e=.returned (.tuple #[.slice none 0 0,.slice none 0 0,.int .i64 6])
 | .none y=>∃A c,e=.returned (.tuple #[.slice none 0 0,.slice A m c,.int .i64 4])∧RdF w' w'.heap.size A m c (ofF m fun i=>fvQ (y i))∧∀i,i<m→jaF (y i)=true
 | .ray x=>∃A c,e=.returned (.tuple #[.slice A n c,.slice none 0 0,.int .i64 3])∧RdF w' w'.heap.size A n c (ofF n fun i=>fvQ (x i))∧∀i,i<n→jaF (x i)=true
 | .best x y=>∃A c A' c',e=.returned (.tuple #[.slice A n c,.slice A' m c',.int .i64 0])∧RdF w' w'.heap.size A n c (ofF n fun i=>fvQ (x i))∧RdF w' w'.heap.size A' m c' (ofF m fun i=>fvQ (y i))∧(∀i,i<n→jaF (x i)=true)∧∀i,i<m→jaF (y i)=true
def SolP (w:World) (m n:Nat) (l:List Fv) (ls:List Rv) (e:Ending) (w':World):Prop :=
 ∃E,jaZ m n (rwA2 ls) (rwB2 ls false) (fvR l) E∧solO w' m n e E∧Below w.heap.size w w'
theorem jkr (A A':Option Addr) (n cap m cap':Nat) (l:List Fv) (ls:List Rv) (w:World) (hl:RdF w w.heap.size A n cap l) (hr:RdR w w.heap.size A' m cap' ls) (hn:n≤20) (hm:m≤40) (hok:(l.all Fv.ok&&ls.all (rowF n))=true) :
 Calls Tryz.prog 29 #[.agg #[.slice A n cap,.slice A' m cap']] w (SolP w m n l ls):=by
 have HR:=jpk (fun W (h:Below w.heap.size w W)=>jeD A A' n cap m cap' l ls W (hl.up jan h) (hr.up jg5 h) hn hm)
 rw [hok] at HR
 rw [Bool.and_eq_true] at hok
 have hrow:∀(k:Nat) (X:Rv),ls[k]?=some X→rowF n X=true:=fun k X h=>List.all_eq_true.1 hok.2 _ (List.mem_of_getElem? h)
 have hlen:=hl.len
 have hcap:=hl.caps
 have hcap':=hr.caps
 obtain ⟨vg,hvg,K⟩:=(St.start w).fxOld hl
 have hc:∀j,j<n→isQ (vg j) (fvR l j):=fun j hj=>by
  have h1:=hvg j hj
  have h2:(vg j).fv.ok=true:=List.all_eq_true.1 hok.1 _ (List.mem_of_getElem? h1)
  unfold fvR
  rw [h1,Option.map_some,Option.getD_some]
  exact jbW h2
 have HC:=jpk hc
 have HOp:=jpk (fun W L D B cg v c (K:St w L D W) hg hc=>jhx w W L D A A' B n cap m cap' cg ls v c K hr hrow hg hc ZO ZO)
 clear hl hok hc hvg hlen hrow
 go_enter Tryz.func29,Tryz.ntmps29
 go_upto_region 4 with (first|(first|(apply K.box;rfl;rfl;rfl;clear K;intro W b0 K;have c0:=(K.blk (b:=b0) (cs:=#[.slice A n cap,.slice A' m cap']) (t:=57) List.mem_cons_self).cell (j:=0) rfl;have c1:=(K.blk (b:=b0) (cs:=#[.slice A n cap,.slice A' m cap']) (t:=57) List.mem_cons_self).cell (j:=1) rfl))|(go_at_call 59;refine (HR.out _ K.1).mono ?_;rintro e W' ⟨rfl,hb⟩;replace K:=K.keep hb;clear c0 c1;have c0:=(K.blk (b:=b0) (cs:=#[.slice A n cap,.slice A' m cap']) (t:=57) List.mem_cons_self).cell (j:=0) rfl;have c1:=(K.blk (b:=b0) (cs:=#[.slice A n cap,.slice A' m cap']) (t:=57) List.mem_cons_self).cell (j:=1) rfl))
 clear c0 c1 HR
 have K0:=K.drew
 have HZ1:=jpk (fun V L D (h:St w L D V)=>jcB n w V L D h ZO)
 have HSA:=jpk (fun V L D (h:St w L D V) (hm:((b0,#[.slice A n cap,.slice A' m cap'],57):Blk)∈L)=>(⟨(h.blk hm).cell (j:=0) rfl,(h.blk hm).cell (j:=1) rfl⟩:V.cell? ⟨b0,0,none⟩=some (.slice A n cap)∧V.cell? ⟨b0,1,none⟩=some (.slice A' m cap')))
 have s0:=HSA.out _ _ _ K0 List.mem_cons_self
 clear K hb
 refine jak 100 (fun V=>V.cell? ⟨b0,0,none⟩=some (.slice A n cap)∧V.cell? ⟨b0,1,none⟩=some (.slice A' m cap')) Zb9 s0 (fun hSh=>?_)
 clear s0
 refine jaa.tkA 0 rfl ?_
 refine jaa.tkA 1 rfl ?_
 refine jaa.on 2 rfl fun KK hKK=>?_
 go_simp
 go_at_call 61;refine (HZ1.out _ _ _ K0).mono ?_;rintro e w3 ⟨gz,vz,rfl,hvz,k1⟩
 go_wp2_with fail
 refine hKK.out _ _ ?_ (fun hSh=>?_)
 ·exact HSA.out _ _ _ k1 ZMB
 clear hKK KK
 refine ZPT ?_
 have k2:=k1.fxOwn ZO
 refine jaa.on 3 rfl fun KK hKK=>?_
 go_simp
 go_at_call 60;refine (HOp.out _ _ _ _ _ _ _ k2 List.mem_cons_self hvz.out).mono ?_;rintro e w4 ⟨db1,Ld1,Dd1,rfl,hD1,k3⟩
 go_wp2_with fail
 refine hKK.out _ _ ?_ (fun hSh=>?_)
 ·exact HSA.out _ _ _ k3 (List.mem_append_right _ List.mem_cons_self)
 clear hKK KK
 refine ZPT ?_
 refine jaa.tkA 4 rfl ?_
 refine jaa.done Zb9 ?_
 have K:=k3
 clear k3 k2 k1 K0 hSh HZ1 hvz
 obtain ⟨G0,hG0⟩:∃G0,G0=opnD n (rwA2 ls) (rwB2 ls false) (fun _=>0):=⟨_,rfl⟩
 have hOk0:G0.Ok m n:=by rw [hG0];exact jdc m n _ _ _
 have HG0:=jpk hG0
 change Hid (DicL m n db1 false (opnD n (rwA2 ls) (rwB2 ls false) (fun _=>0)) Ld1 Dd1) at hD1
 rw [←hG0] at hD1
 clear hG0
 have HS1:=jpk (jeH w _ _ _ m n db1 G0 Ld1 Dd1 hD1.out K hOk0 ZO ZO)
 go_upto_region 6 with (go_at_call 62;refine HS1.out.mono ?_;rintro e w5 ⟨r1,s1,b1,G1,Ld2,Dd2,rfl,hD2,hS,k4⟩)
 have K:=k4
 clear k4 HS1
 obtain ⟨R1,hR1,hfl⟩:=hD2.out.flag (w0:=w) (L:=Ld2++[(b0,#[.slice A n cap,.slice A' m cap'],57)]) Zb18
 have cf:=hfl _ _ K
 clear hR1
 cases b1
 ·obtain ⟨hq1,hq2⟩:=hS.out.2 rfl
  have HOk1:=jpk (hq1.like hOk0 _ rfl).1
  rw [HG0.out] at hq1
  have HQ1:=jpk hq1
  rcases nx_row hq2 with ⟨i,hp,rfl⟩|⟨hp,rfl⟩
  ·
   have him:i<m:=(Dc.pick_contra hp).1
   have hi0:((i:Nat):Int)≥0:=by omega
   have hi1:decide (((i:Nat):Int)≥0)=true:=decide_eq_true hi0
   have HCo:=jpk (jdp (L1:=[(b0,#[.slice A n cap,.slice A' m cap'],57)]) hD2.out K HOk1.out ZO ZO him)
   have HE:=jpk (jaZ.none (c:=fvR l) HQ1.out hp)
   clear hS hq1 hq2 hp hfl K
   go_wp2_with (go_at_call 63;refine HCo.out.mono ?_;rintro e w6 ⟨g,v,rfl,hv,k5⟩)
   have HP:=jpk (show SolP w m n l ls (.returned (.tuple #[.slice none 0 0,.slice (some ⟨g,0,none⟩) m m,.int .i64 4])) w6 from ⟨_,HE.out,⟨_,_,rfl,k5.rdOwn List.mem_cons_self ZO hv.out,fun i hi=>(hv.out i hi).2⟩,k5.1⟩)
   clear k5 hv HE HCo
   go_wp2_with fail
   exact bodyPost_ret (v:=.tuple #[.slice none 0 0,.slice (some ⟨g,0,none⟩) m m,.int .i64 4]) (by simp [results,Tryz.results29,go_sem]) rfl HP.out
  ·have HNC:=jpk hp
   have K2:=(K.part (L':=[(b0,#[.slice A n cap,.slice A' m cap'],57)]) (List.sublist_append_right _ _)).less (D':=[⟨fxP A n cap vg,fxS A n vg⟩]) (fun x hx=>List.mem_append_right _ (List.mem_cons_of_mem _ (by simpa using hx)))
   have c0:=(K2.blk (b:=b0) (cs:=#[.slice A n cap,.slice A' m cap']) (t:=57) List.mem_cons_self).cell (j:=0) rfl
   have c1:=(K2.blk (b:=b0) (cs:=#[.slice A n cap,.slice A' m cap']) (t:=57) List.mem_cons_self).cell (j:=1) rfl
   have HO2:=jpk (HOp.out _ _ _ _ _ _ _ K2 List.mem_cons_self HC.out)
   obtain ⟨G3,hG3⟩:∃G3,G3=opnD n (rwA2 ls) (rwB2 ls false) (fvR l):=⟨_,rfl⟩
   have hOk3:G3.Ok m n:=by rw [hG3];exact jdc m n _ _ _
   have HG3:=jpk hG3
   clear hS hq1 hq2 hp hfl K
   go_upto_region 11 with (go_at_call 60;refine HO2.out.mono ?_;rintro e w6 ⟨db3,Ld3,Dd3,rfl,hD3,k5⟩)
   rw [←HG3.out] at hD3
   have HS2:=jpk (jeH w _ _ _ m n db3 G3 Ld3 Dd3 hD3.out k5 hOk3 ZO ZO)
   clear k5 K2 c0 c1 cf HO2 HOp
   go_upto_region 12 with (go_at_call 62;refine HS2.out.mono ?_;rintro e w7 ⟨r4,s4,b4,G4,Ld4,Dd4,rfl,hD4,hS4,k6⟩)
   have K:=k6
   clear k6 HS2
   obtain ⟨R4,hR4,hfl4⟩:=hD4.out.flag (w0:=w) (L:=Ld4++[(b0,#[.slice A n cap,.slice A' m cap'],57)]) Zb18
   have cf:=hfl4 _ _ K
   clear hR4 hfl4
   cases b4
   ·obtain ⟨hq4,hq5⟩:=hS4.out.2 rfl
    have HOk4:=jpk (hq4.like hOk3 _ rfl).1
    rw [HG3.out] at hq4
    have HE:=jpk (jaZ.fin HQ1.out HNC.out hq4)
    rcases nx_col hq5 with ⟨j,hp,rfl,he⟩|⟨rfl,he⟩
    ·
     rw [he] at HE
     have hjn:j<n:=(Dc.pick_endless hp).1
     have hj0:((j:Nat):Int)≥0:=by omega
     have hj1:decide (((j:Nat):Int)≥0)=true:=decide_eq_true hj0
     have hj2:¬((j:Nat):Int)<0:=by omega
     have hj3:decide (((j:Nat):Int)<0)=false:=decide_eq_false hj2
     have HRa:=jpk (jpb (L1:=[(b0,#[.slice A n cap,.slice A' m cap'],57)]) hD4.out K HOk4.out ZO ZO hjn)
     clear hS4 hq4 hq5 hp he K
     go_wp2_with (go_at_call 65;refine HRa.out.mono ?_;rintro e w8 ⟨g,v,rfl,hv,k7⟩;obtain ⟨R8,-,hfl8⟩:=hD4.out.flag (w0:=w) (L:=((g,rwA n v [],29)::(Ld4++[(b0,#[.slice A n cap,.slice A' m cap'],57)]))) Zb18;have c8:=hfl8 _ _ k7;clear hfl8)
     have HP:=jpk (show SolP w m n l ls (.returned (.tuple #[.slice (some ⟨g,0,none⟩) n n,.slice none 0 0,.int .i64 3])) w8 from ⟨_,HE.out,⟨_,_,rfl,k7.rdOwn List.mem_cons_self ZO hv.out,fun i hi=>(hv.out i hi).2⟩,k7.1⟩)
     clear k7 hv HE HRa
     go_wp2_with fail
     exact bodyPost_ret (v:=.tuple #[.slice (some ⟨g,0,none⟩) n n,.slice none 0 0,.int .i64 3]) (by simp [results,Tryz.results29,go_sem]) rfl HP.out
    ·rw [he] at HE
     have HBe:=jpk (jkN (L1:=[(b0,#[.slice A n cap,.slice A' m cap'],57)]) hD4.out K HOk4.out ZO ZO)
     clear hS4 hq4 hq5 he K
     go_wp2_with (go_at_call 64;refine HBe.out.mono ?_;rintro e w8 ⟨gx,gy,vx,vy,rfl,hvx,hvy,k7⟩;obtain ⟨R8,-,hfl8⟩:=hD4.out.flag (w0:=w) (L:=((gy,rwA m vy [],29)::(gx,rwA n vx [],29)::(Ld4++[(b0,#[.slice A n cap,.slice A' m cap'],57)]))) Zb18;have c8:=hfl8 _ _ k7;clear hfl8)
     have HP:=jpk (show SolP w m n l ls (.returned (.tuple #[.slice (some ⟨gx,0,none⟩) n n,.slice (some ⟨gy,0,none⟩) m m,.int .i64 0])) w8 from ⟨_,HE.out,⟨_,_,_,_,rfl,(k7.part (List.sublist_cons_self _ _)).rdOwn (List.mem_cons_of_mem _ List.mem_cons_self) ZO hvx.out,k7.rdOwn List.mem_cons_self ZO hvy.out,fun i hi=>(hvx.out i hi).2,fun i hi=>(hvy.out i hi).2⟩,k7.1⟩)
     clear k7 hvx hvy HE HBe
     go_wp2_with fail
     exact bodyPost_ret (v:=.tuple #[.slice (some ⟨gx,0,none⟩) n n,.slice (some ⟨gy,0,none⟩) m m,.int .i64 0]) (by simp [results,Tryz.results29,go_sem]) rfl HP.out
   ·obtain ⟨hq4,rfl,rfl⟩:=hS4.out.1 rfl
    rw [HG3.out] at hq4
    have HP:=jpk (show SolP w m n l ls (.returned (.tuple #[.slice none 0 0,.slice none 0 0,.int .i64 6])) w7 from ⟨_,jaZ.full2 HQ1.out HNC.out hq4,rfl,K.1⟩)
    clear hS4 hq4 K
    exact ZQ113
 ·obtain ⟨hq1,rfl,rfl⟩:=hS.out.1 rfl
  rw [HG0.out] at hq1
  have HP:=jpk (show SolP w m n l ls (.returned (.tuple #[.slice none 0 0,.slice none 0 0,.int .i64 6])) w5 from ⟨_,jaZ.full1 hq1,rfl,K.1⟩)
  clear hS hq1 K
  exact ZQ113
theorem St.fxOwL {w W:World} {L X:List Blk} {D:List Hl} {n:Nat} {v:Nat→Rw} {e:TypeId} {val:Value} (K:St w (X++L) D W) (ho:OwL 4 Rw.cs e val (ofF n v) X) (hm:(⟨rwP n v,rwS n v⟩:Hl)∈D) (hn:n≤1000000):∃A cap,val=.slice A n cap∧St w L (⟨fxP A n cap v,fxS A n v⟩::D) W:=by
 have hP:=K.okAt hm
 obtain ⟨A,cap,hv,hr⟩:=(ho.own ja4 K).rd ja4 Zb3
 rw [jag] at hv hr
 refine ⟨A,cap,hv,(K.part (List.sublist_append_right _ _)).fxAdd ⟨hr,fun i hi=>hP.1 i hi⟩ fun b hS p hp e=>?_⟩
 rcases hS with ⟨hn0,a,ha,rfl⟩|⟨i,hi,hS⟩
 ·rcases ho with ⟨rfl,-,-⟩|⟨g,cap2,J,rfl,rfl,-⟩
  ·injection hv with h1 h2 h3
   omega
  ·injection hv with h1 h2 h3
   subst h1
   injection ha with ha
   subst ha
   exact (List.pairwise_cons.1 K.2.2.1).1 p hp e.symm
 ·exact (hP.2.1 b ⟨i,hi,hS⟩).2 p (List.mem_append_right _ hp) e
theorem jeT {x y:Rat}:¬cmpQ x y<0↔y≤x:=by
 have h:=jcm (x:=y) (y:=x)
 rw [jkY] at h
 constructor
 ·intro h1;exact h.1 ZO
 ·intro h1;have:=h.2 h1;omega
theorem jhq (w0 W:World) (L:List Blk) (D:List Hl) (mb:Nat) (b:Bool) (R:List Value) (T:TypeId) (A A' B:Option Addr) (n cap m cap' capx:Nat) (l:List Fv) (ls:List Rv) (v:Nat→Rw) (y:Nat→Rat)
 (K:St w0 L D W) (hmb:(mb,(Value.bool b::R).toArray,T)∈L) (hl:RdF w0 w0.heap.size A n cap l) (hr:RdR w0 w0.heap.size A' m cap' ls) (hok:l.all Fv.ok=true) (hrow:∀(k:Nat) (X:Rv),ls[k]?=some X→rowF n X=true) (m2:(⟨fxP B m capx v,fxS B m v⟩:Hl)∈D) (hm:m≤1000) (hy:∀i,i<m→isQ (v i) (y i)) :
 Calls Tryz.prog 81 #[.pointer (some ⟨mb,0,none⟩),.agg #[.slice A n cap,.slice A' m cap'],.slice B m capx,.bool false] W (SumP w0 mb R T b L D (covB m n (rwA2 ls) (fvR l) y)):=by
 have HY:=jpk hy
 have HZ:=jpk jbc
 have M2:=jpk m2
 have HL:=jpk hr
 have HG:=jpk hl
 have HRow:=jpk hrow
 have HOk:=jpk hok
 have hcap:=hl.caps
 have hcap':=hr.caps
 have hcapx:=K.fxCap m2
 obtain ⟨L9,hU9,rfl⟩:=Upd.same hmb
 have HU0:=jpk hU9
 clear hy hr hl hrow hok hmb hU9 m2
 have r:=K.raw
 go_enter Tryz.func81,Tryz.ntmps81
 go_wp2_with (apply K.box;rfl;rfl;rfl;clear K r;intro W b0 K;have r:=K.rawS)
 go_loopg [17] n (fun gk s17 wr=>∃(j:Nat) (bk:Bool) (Lk:List Blk),j≤n∧gk=n-j∧s17=.int .i64 j∧Hid (Upd mb (Value.bool b::R).toArray T (Value.bool bk::R).toArray L9 Lk)∧Hid ((!bk)=(!b&&jbZ (fun k=>prdK y (fun i=>rwA2 ls i k) m) (fun k=>decide ((fvR l) k≤smQ (fun i=>y i*rwA2 ls i k) m)) j))∧St w0 ((b0,#[.slice A n cap,.slice A' m cap'],57)::Lk) D wr)
 case atStart=>exact ⟨0,b,L9,Nat.zero_le _,rfl,rfl,HU0,jpk (by simp [jbZ]),K⟩
 case round =>
  clear K r HU0
  obtain ⟨j,bk,Lk,hj,rfl,rfl,HU,HS,K⟩:=hrel
  by_cases hlt:j<n
  ·obtain ⟨gb,go,A1,n1,c1,B1,m1,d1,X,hA,hbB,hX,⟨z0,z1,z2,z3⟩,r1,r2⟩:=HG.out.atF hlt
   subst hA
   have hji:(j:Int)<(n:Int):=by omega
   have hj0:(0:Int)≤(j:Int):=by omega
   have y0:=(K.1.cell (p:=⟨gb,go+j*4,none⟩) hbB).trans z0
   have y1:=(K.1.cell (p:=⟨gb,go+j*4+1,none⟩) hbB).trans z1
   have y2:=(K.1.cell (p:=⟨gb,go+j*4+2,none⟩) hbB).trans z2
   have y3:=(K.1.cell (p:=⟨gb,go+j*4+3,none⟩) hbB).trans z3
   have hc1:=r1.caps
   have hc2:=r2.caps
   obtain ⟨g1,hg1⟩:∃g1:Rw,g1=⟨X.s,A1,n1,c1,X.l,X.t,B1,m1,d1,X.m⟩:=⟨_,rfl⟩
   have HQ1:=jpk (show isQ g1 (fvR l j) from by
    exact ZQ129)
   replace K:St w0 ((b0,#[.slice (some ⟨gb,go,none⟩) n cap,.slice A' m cap'],57)::Lk) (⟨rdP g1.B g1.m g1.d g1.k,rdS g1.B g1.m⟩::⟨rdP g1.A g1.n g1.c g1.l,rdS g1.A g1.n⟩::D) wr:=by rw [hg1];exact (K.rdOld r1).rdOld r2
   replace y0:wr.cell? ⟨gb,go+j*4,none⟩=some (.int .i64 g1.s):=by rw [hg1];exact y0
   replace y1:wr.cell? ⟨gb,go+j*4+1,none⟩=some (.slice g1.A g1.n g1.c):=by rw [hg1];exact y1
   replace y2:wr.cell? ⟨gb,go+j*4+2,none⟩=some (.int .i64 g1.t):=by rw [hg1];exact y2
   replace y3:wr.cell? ⟨gb,go+j*4+3,none⟩=some (.slice g1.B g1.m g1.d):=by rw [hg1];exact y3
   replace hc1:g1.n≤g1.c∧g1.c≤9223372036854775807∧g1.n≤140737488351232:=by rw [hg1];exact hc1
   replace hc2:g1.m≤g1.d∧g1.d≤9223372036854775807∧g1.m≤140737488351232:=by rw [hg1];exact hc2
   clear hX z0 z1 z2 z3 r1 r2 hg1
   have r:=K.rawS
   go_wp2_with (first
    | (apply K.alloc;rfl;rfl;exact jbh;clear K r;intro W b1 K;have r:=K.rawS)
    | (apply K.storeA;rfl;rfl;rfl;rfl;rfl;(exact ZUP);exact jar;rfl;rfl;rfl;clear K r;intro W K;have r:=K.rawS))
   replace K:St w0 ([]++(((b1,#[.int .i64 g1.s,.slice g1.A g1.n g1.c,.int .i64 g1.t,.slice g1.B g1.m g1.d],29):Blk)::((b0,#[.slice (some ⟨gb,go,none⟩) n cap,.slice A' m cap'],57):Blk)::Lk)) _ _:=K.rwNew 0
   clear r y0 y1 y2 y3
   go_loopg [11,25] m (fun gk s11 s25 wr=>∃(k:Nat) (u:Nat→Rw) (val:Value) (X:List Blk),k≤m∧gk=m-k∧s11=val∧s25=.int .i64 k∧Hid (∀i,i<k→isQ (u i) (rwA2 ls i j))∧Hid (OwL 4 Rw.cs 29 val (ofF k u) X)∧St w0 (X++(((b1,#[.int .i64 g1.s,.slice g1.A g1.n g1.c,.int .i64 g1.t,.slice g1.B g1.m g1.d],29):Blk)::((b0,#[.slice (some ⟨gb,go,none⟩) n cap,.slice A' m cap'],57):Blk)::Lk)) (⟨rwP k u,rwS k u⟩::⟨rdP g1.B g1.m g1.d g1.k,rdS g1.B g1.m⟩::⟨rdP g1.A g1.n g1.c g1.l,rdS g1.A g1.n⟩::D) wr)
   case atStart=>exact ⟨0,fun _=>Rw.zero,_,[],Nat.zero_le _,rfl,rfl,rfl,jpk (fun i h=>absurd h ZO),jpk OwL.nil,K⟩
   case round =>
    clear K
    obtain ⟨k,u,val,X,hk,rfl,rfl,rfl,HA,Ho,K⟩:=hrel
    by_cases hlk:k<m
    ·exact ZQ12
    ·have e:m=k:=by omega
     subst e
     have hlkd:decide (m<m)=false:=decide_eq_false hlk
     obtain ⟨Ac,cc,hv,K⟩:=K.fxOwL Ho.out ZMB ZO
     subst hv
     clear Ho hlk
     have r:=K.rawS
     obtain ⟨g,hg⟩:∃g:Rw,g=g1:=⟨_,rfl⟩
     subst hg
     have HQ:=HQ1
     go_upto_region 12 with fail
     clear HQ1
     have hcc:=K.fxCap (A:=Ac) (n:=m) (cap:=cc) (v:=u) ZMB
     have K0:=K.drew
     obtain ⟨bn,hbn⟩:∃bn,bn=(bk|| !prdK y (fun i=>rwA2 ls i j) m):=⟨_,rfl⟩
     obtain ⟨Ln,hU1,hU2⟩:=HU.out.next (Value.bool bn::R).toArray
     have HU2:=jpk hU2
     have HBn:=jpk hbn
     have HPr:=jpk (jbB w0 _ _ (((b1,#[.int .i64 g.s,.slice g.A g.n g.c,.int .i64 g.t,.slice g.B g.m g.d],29):Blk)::((b0,#[.slice (some ⟨gb,go,none⟩) n cap,.slice A' m cap'],57):Blk)::Ln) _ mb bk bn R T B Ac m capx m cc v u y (fun i=>rwA2 ls i j) K0 Zb12 ZMB ⟨Nat.le_refl _,by omega⟩ HY.out HA.out hbn (.tail _ (.tail _ hU1)))
     have HCm:=jpk (fun V (y2:Rw) (z2:Rat) (hz:isQ y2 z2) (h:St w0 (((b1,#[.int .i64 g.s,.slice g.A g.n g.c,.int .i64 g.t,.slice g.B g.m g.d],29):Blk)::((b0,#[.slice (some ⟨gb,go,none⟩) n cap,.slice A' m cap'],57):Blk)::Ln) (⟨rdP y2.B y2.m y2.d y2.k,rdS y2.B y2.m⟩::⟨rdP y2.A y2.n y2.c y2.l,rdS y2.A y2.n⟩::(⟨fxP Ac m cc u,fxS Ac m u⟩:Hl)::⟨rwP m u,rwS m u⟩::⟨rdP g.B g.m g.d g.k,rdS g.B g.m⟩::⟨rdP g.A g.n g.c g.l,rdS g.A g.n⟩::D) V)=>jcX h hz HQ.out ZMB ZMB ZMB ZMB)
     have HSA:=jpk (fun V D2 Lx (h:St w0 (((b1,#[.int .i64 g.s,.slice g.A g.n g.c,.int .i64 g.t,.slice g.B g.m g.d],29):Blk)::Lx) D2 V)=>(show (V.cell? ⟨b1,0,none⟩=some (.int .i64 g.s)∧V.cell? ⟨b1,1,none⟩=some (.slice g.A g.n g.c)∧V.cell? ⟨b1,2,none⟩=some (.int .i64 g.t)∧V.cell? ⟨b1,3,none⟩=some (.slice g.B g.m g.d)) from ⟨(h.blk ZMB).cell (j:=0) rfl,(h.blk ZMB).cell (j:=1) rfl,(h.blk ZMB).cell (j:=2) rfl,(h.blk ZMB).cell (j:=3) rfl⟩))
     have s0:=HSA.out _ _ _ K0
     clear hU1 hU2 hbn HU K r
     refine jak 100 (fun V=>(V.cell? ⟨b1,0,none⟩=some (.int .i64 g.s)∧V.cell? ⟨b1,1,none⟩=some (.slice g.A g.n g.c)∧V.cell? ⟨b1,2,none⟩=some (.int .i64 g.t)∧V.cell? ⟨b1,3,none⟩=some (.slice g.B g.m g.d))) Zb9 s0 (fun hSh=>?_)
     clear s0
     refine jaa.tkA 0 rfl ?_
     refine jaa.tkA 1 rfl ?_
     refine jaa.tkA 2 rfl ?_
     refine jaa.tkA 4 rfl ?_
     refine jaa.on 3 rfl fun KK hKK=>?_
     go_simp
     go_at_call 82;refine HPr.out.mono ?_;rintro e w5 ⟨y2,z2,rfl,g2,k5⟩
     go_wp2_with fail
     refine hKK.out _ _ ?_ (fun hSh=>?_)
     ·exact HSA.out _ _ _ k5
     clear hKK KK
     refine ZPT ?_
     refine jaa.on 5 rfl fun KK hKK=>?_
     go_simp
     go_at_call 23;refine (HCm.out _ _ _ g2.out.1 k5).mono ?_;rintro e w6 ⟨rfl,k6⟩
     go_wp2_with fail
     refine hKK.out _ _ ?_ (fun hSh=>?_)
     ·exact HSA.out _ _ _ k6
     clear hKK KK
     refine ZPT ?_
     have hst:=jdg (q:=decide ((fvR l) j≤z2)) HS.out HBn.out (p:=fun k=>decide ((fvR l) k≤smQ (fun i=>y i*rwA2 ls i k) m)) (t:=fun k=>prdK y (fun i=>rwA2 ls i k) m) (fun h=>by rw [g2.out.2 h])
     have Hst:=jpk hst
     have HK:=jpk ((k6.lessS (D':=D) Zb13).part (List.sublist_cons_self _ _))
     clear hst k5 K0 HPr HCm HSA g2 HBn HS HA HQ HY HRow
     by_cases hle:(fvR l) j≤z2
     ·have hc:¬cmpQ z2 ((fvR l) j)<0:=jeT.2 hle
      have hcd:decide (cmpQ z2 ((fvR l) j)<0)=false:=decide_eq_false hc
      exact ZQ72
     ·have hc:cmpQ z2 ((fvR l) j)<0:=by
       have:¬¬cmpQ z2 ((fvR l) j)<0:=fun h=>hle (jeT.1 h)
       omega
      have hcd:decide (cmpQ z2 ((fvR l) j)<0)=true:=decide_eq_true hc
      exact ZQ54
  ·have e:n=j:=by omega
   subst e
   have HE:=jpk (⟨true,bk,Lk,rfl,HU,jpk (by rw [Bool.true_and];exact HS.out),K.part (List.sublist_cons_self _ _)⟩:SumP w0 mb R T b L9 D (covB m n (rwA2 ls) (fvR l) y) (.returned (.bool true)) wr)
   exact jkD
def jcA (_:Nat):Rat:=0
theorem jf7 (w0 W:World) (L:List Blk) (D:List Hl) (mb:Nat) (b:Bool) (R:List Value) (T:TypeId) (A A' B:Option Addr) (n cap m cap' capx:Nat) (l:List Fv) (ls:List Rv) (v:Nat→Rw) (y:Nat→Rat)
 (K:St w0 L D W) (hmb:(mb,(Value.bool b::R).toArray,T)∈L) (hl:RdF w0 w0.heap.size A n cap l) (hr:RdR w0 w0.heap.size A' m cap' ls) (hok:l.all Fv.ok=true) (hrow:∀(k:Nat) (X:Rv),ls[k]?=some X→rowF n X=true) (m2:(⟨fxP B m capx v,fxS B m v⟩:Hl)∈D) (hm:m≤1000) (hy:∀i,i<m→isQ (v i) (y i)) :
 Calls Tryz.prog 81 #[.pointer (some ⟨mb,0,none⟩),.agg #[.slice A n cap,.slice A' m cap'],.slice B m capx,.bool true] W (SumP w0 mb R T b L D (covB m n (rwA2 ls) jcA y)):=by
 have HY:=jpk hy
 have HZ:=jpk jbc
 have M2:=jpk m2
 have HL:=jpk hr
 have HG:=jpk hl
 have HRow:=jpk hrow
 have HOk:=jpk hok
 have hcap:=hl.caps
 have hcap':=hr.caps
 have hcapx:=K.fxCap m2
 obtain ⟨L9,hU9,rfl⟩:=Upd.same hmb
 have HU0:=jpk hU9
 clear hy hr hl hrow hok hmb hU9 m2
 have r:=K.raw
 go_enter Tryz.func81,Tryz.ntmps81
 go_wp2_with (apply K.box;rfl;rfl;rfl;clear K r;intro W b0 K;have r:=K.rawS)
 go_loopg [17] n (fun gk s17 wr=>∃(j:Nat) (bk:Bool) (Lk:List Blk),j≤n∧gk=n-j∧s17=.int .i64 j∧Hid (Upd mb (Value.bool b::R).toArray T (Value.bool bk::R).toArray L9 Lk)∧Hid ((!bk)=(!b&&jbZ (fun k=>prdK y (fun i=>rwA2 ls i k) m) (fun k=>decide (jcA k≤smQ (fun i=>y i*rwA2 ls i k) m)) j))∧St w0 ((b0,#[.slice A n cap,.slice A' m cap'],57)::Lk) D wr)
 case atStart=>exact ⟨0,b,L9,Nat.zero_le _,rfl,rfl,HU0,jpk (by simp [jbZ]),K⟩
 case round =>
  clear K r HU0
  obtain ⟨j,bk,Lk,hj,rfl,rfl,HU,HS,K⟩:=hrel
  by_cases hlt:j<n
  ·obtain ⟨gb,go,A1,n1,c1,B1,m1,d1,X,hA,hbB,hX,⟨z0,z1,z2,z3⟩,r1,r2⟩:=HG.out.atF hlt
   subst hA
   have hji:(j:Int)<(n:Int):=by omega
   have hj0:(0:Int)≤(j:Int):=by omega
   have y0:=(K.1.cell (p:=⟨gb,go+j*4,none⟩) hbB).trans z0
   have y1:=(K.1.cell (p:=⟨gb,go+j*4+1,none⟩) hbB).trans z1
   have y2:=(K.1.cell (p:=⟨gb,go+j*4+2,none⟩) hbB).trans z2
   have y3:=(K.1.cell (p:=⟨gb,go+j*4+3,none⟩) hbB).trans z3
   have hc1:=r1.caps
   have hc2:=r2.caps
   obtain ⟨g1,hg1⟩:∃g1:Rw,g1=⟨X.s,A1,n1,c1,X.l,X.t,B1,m1,d1,X.m⟩:=⟨_,rfl⟩
   have HQ1:=jpk (show isQ g1 (fvR l j) from by
    exact ZQ129)
   replace K:St w0 ((b0,#[.slice (some ⟨gb,go,none⟩) n cap,.slice A' m cap'],57)::Lk) (⟨rdP g1.B g1.m g1.d g1.k,rdS g1.B g1.m⟩::⟨rdP g1.A g1.n g1.c g1.l,rdS g1.A g1.n⟩::D) wr:=by rw [hg1];exact (K.rdOld r1).rdOld r2
   replace y0:wr.cell? ⟨gb,go+j*4,none⟩=some (.int .i64 g1.s):=by rw [hg1];exact y0
   replace y1:wr.cell? ⟨gb,go+j*4+1,none⟩=some (.slice g1.A g1.n g1.c):=by rw [hg1];exact y1
   replace y2:wr.cell? ⟨gb,go+j*4+2,none⟩=some (.int .i64 g1.t):=by rw [hg1];exact y2
   replace y3:wr.cell? ⟨gb,go+j*4+3,none⟩=some (.slice g1.B g1.m g1.d):=by rw [hg1];exact y3
   replace hc1:g1.n≤g1.c∧g1.c≤9223372036854775807∧g1.n≤140737488351232:=by rw [hg1];exact hc1
   replace hc2:g1.m≤g1.d∧g1.d≤9223372036854775807∧g1.m≤140737488351232:=by rw [hg1];exact hc2
   clear hX z0 z1 z2 z3 r1 r2 hg1
   have r:=K.rawS
   go_wp2_with (first
    | (apply K.alloc;rfl;rfl;exact jbh;clear K r;intro W b1 K;have r:=K.rawS)
    | (apply K.storeA;rfl;rfl;rfl;rfl;rfl;(exact ZUP);exact jar;rfl;rfl;rfl;clear K r;intro W K;have r:=K.rawS))
   replace K:St w0 ([]++(((b1,#[.int .i64 g1.s,.slice g1.A g1.n g1.c,.int .i64 g1.t,.slice g1.B g1.m g1.d],29):Blk)::((b0,#[.slice (some ⟨gb,go,none⟩) n cap,.slice A' m cap'],57):Blk)::Lk)) _ _:=K.rwNew 0
   clear r y0 y1 y2 y3
   go_loopg [11,25] m (fun gk s11 s25 wr=>∃(k:Nat) (u:Nat→Rw) (val:Value) (X:List Blk),k≤m∧gk=m-k∧s11=val∧s25=.int .i64 k∧Hid (∀i,i<k→isQ (u i) (rwA2 ls i j))∧Hid (OwL 4 Rw.cs 29 val (ofF k u) X)∧St w0 (X++(((b1,#[.int .i64 g1.s,.slice g1.A g1.n g1.c,.int .i64 g1.t,.slice g1.B g1.m g1.d],29):Blk)::((b0,#[.slice (some ⟨gb,go,none⟩) n cap,.slice A' m cap'],57):Blk)::Lk)) (⟨rwP k u,rwS k u⟩::⟨rdP g1.B g1.m g1.d g1.k,rdS g1.B g1.m⟩::⟨rdP g1.A g1.n g1.c g1.l,rdS g1.A g1.n⟩::D) wr)
   case atStart=>exact ⟨0,fun _=>Rw.zero,_,[],Nat.zero_le _,rfl,rfl,rfl,jpk (fun i h=>absurd h ZO),jpk OwL.nil,K⟩
   case round =>
    clear K
    obtain ⟨k,u,val,X,hk,rfl,rfl,rfl,HA,Ho,K⟩:=hrel
    by_cases hlk:k<m
    ·exact ZQ12
    ·have e:m=k:=by omega
     subst e
     have hlkd:decide (m<m)=false:=decide_eq_false hlk
     obtain ⟨Ac,cc,hv,K⟩:=K.fxOwL Ho.out ZMB ZO
     subst hv
     clear Ho hlk
     have r:=K.rawS
     go_wp2_with fail
     refine (HZ.out _).mono ?_
     rintro e W5 ⟨s7,A7,n7,c7,l7,t7,B7,m7,d7,k7,rfl,⟨hra,hrb⟩,ho,⟨hfa,hfb⟩,hb⟩
     replace K:=K.retF hb hra hrb hfa hfb
     have HO:=jpk ho
     clear r hra hrb hfa hfb hb ho
     have r:=K.rawS
     go_upto_region 12 with (apply K.storeA;rfl;rfl;rfl;rfl;rfl;(exact ZUP);exact jar;rfl;rfl;rfl;clear K r;intro W K)
     obtain ⟨g,hg⟩:∃g:Rw,g=⟨s7,A7,n7,c7,l7,t7,B7,m7,d7,k7⟩:=⟨_,rfl⟩
     have HQ:Hid (isQ g (jcA j)):=jpk (by rw [hg];exact ⟨HO.out,jbe⟩)
     replace K:St w0 (((b1,#[.int .i64 g.s,.slice g.A g.n g.c,.int .i64 g.t,.slice g.B g.m g.d],29):Blk)::((b0,#[.slice (some ⟨gb,go,none⟩) n cap,.slice A' m cap'],57):Blk)::Lk) (⟨rdP g.B g.m g.d g.k,rdS g.B g.m⟩::⟨rdP g.A g.n g.c g.l,rdS g.A g.n⟩::(⟨fxP Ac m cc u,fxS Ac m u⟩:Hl)::⟨rwP m u,rwS m u⟩::⟨rdP g1.B g1.m g1.d g1.k,rdS g1.B g1.m⟩::⟨rdP g1.A g1.n g1.c g1.l,rdS g1.A g1.n⟩::D) W:=by rw [hg];exact K
     have r:=K.rawS
     clear HQ1 HO hg
     have hcc:=K.fxCap (A:=Ac) (n:=m) (cap:=cc) (v:=u) ZMB
     have K0:=K.drew
     obtain ⟨bn,hbn⟩:∃bn,bn=(bk|| !prdK y (fun i=>rwA2 ls i j) m):=⟨_,rfl⟩
     obtain ⟨Ln,hU1,hU2⟩:=HU.out.next (Value.bool bn::R).toArray
     have HU2:=jpk hU2
     have HBn:=jpk hbn
     have HPr:=jpk (jbB w0 _ _ (((b1,#[.int .i64 g.s,.slice g.A g.n g.c,.int .i64 g.t,.slice g.B g.m g.d],29):Blk)::((b0,#[.slice (some ⟨gb,go,none⟩) n cap,.slice A' m cap'],57):Blk)::Ln) _ mb bk bn R T B Ac m capx m cc v u y (fun i=>rwA2 ls i j) K0 Zb12 ZMB ⟨Nat.le_refl _,by omega⟩ HY.out HA.out hbn (.tail _ (.tail _ hU1)))
     have HCm:=jpk (fun V (y2:Rw) (z2:Rat) (hz:isQ y2 z2) (h:St w0 (((b1,#[.int .i64 g.s,.slice g.A g.n g.c,.int .i64 g.t,.slice g.B g.m g.d],29):Blk)::((b0,#[.slice (some ⟨gb,go,none⟩) n cap,.slice A' m cap'],57):Blk)::Ln) (⟨rdP y2.B y2.m y2.d y2.k,rdS y2.B y2.m⟩::⟨rdP y2.A y2.n y2.c y2.l,rdS y2.A y2.n⟩::⟨rdP g.B g.m g.d g.k,rdS g.B g.m⟩::⟨rdP g.A g.n g.c g.l,rdS g.A g.n⟩::(⟨fxP Ac m cc u,fxS Ac m u⟩:Hl)::⟨rwP m u,rwS m u⟩::⟨rdP g1.B g1.m g1.d g1.k,rdS g1.B g1.m⟩::⟨rdP g1.A g1.n g1.c g1.l,rdS g1.A g1.n⟩::D) V)=>jcX h hz HQ.out ZMB ZMB ZMB ZMB)
     have HSA:=jpk (fun V D2 Lx (h:St w0 (((b1,#[.int .i64 g.s,.slice g.A g.n g.c,.int .i64 g.t,.slice g.B g.m g.d],29):Blk)::Lx) D2 V)=>(show (V.cell? ⟨b1,0,none⟩=some (.int .i64 g.s)∧V.cell? ⟨b1,1,none⟩=some (.slice g.A g.n g.c)∧V.cell? ⟨b1,2,none⟩=some (.int .i64 g.t)∧V.cell? ⟨b1,3,none⟩=some (.slice g.B g.m g.d)) from ⟨(h.blk ZMB).cell (j:=0) rfl,(h.blk ZMB).cell (j:=1) rfl,(h.blk ZMB).cell (j:=2) rfl,(h.blk ZMB).cell (j:=3) rfl⟩))
     have s0:=HSA.out _ _ _ K0
     clear hU1 hU2 hbn HU K r
     refine jak 100 (fun V=>(V.cell? ⟨b1,0,none⟩=some (.int .i64 g.s)∧V.cell? ⟨b1,1,none⟩=some (.slice g.A g.n g.c)∧V.cell? ⟨b1,2,none⟩=some (.int .i64 g.t)∧V.cell? ⟨b1,3,none⟩=some (.slice g.B g.m g.d))) Zb9 s0 (fun hSh=>?_)
     clear s0
     refine jaa.tkA 0 rfl ?_
     refine jaa.tkA 1 rfl ?_
     refine jaa.tkA 2 rfl ?_
     refine jaa.tkA 4 rfl ?_
     refine jaa.on 3 rfl fun KK hKK=>?_
     go_simp
     go_at_call 82;refine HPr.out.mono ?_;rintro e w5 ⟨y2,z2,rfl,g2,k5⟩
     go_wp2_with fail
     refine hKK.out _ _ ?_ (fun hSh=>?_)
     ·exact HSA.out _ _ _ k5
     clear hKK KK
     refine ZPT ?_
     refine jaa.on 5 rfl fun KK hKK=>?_
     go_simp
     go_at_call 23;refine (HCm.out _ _ _ g2.out.1 k5).mono ?_;rintro e w6 ⟨rfl,k6⟩
     go_wp2_with fail
     refine hKK.out _ _ ?_ (fun hSh=>?_)
     ·exact HSA.out _ _ _ k6
     clear hKK KK
     refine ZPT ?_
     have hst:=jdg (q:=decide (jcA j≤z2)) HS.out HBn.out (p:=fun k=>decide (jcA k≤smQ (fun i=>y i*rwA2 ls i k) m)) (t:=fun k=>prdK y (fun i=>rwA2 ls i k) m) (fun h=>by rw [g2.out.2 h])
     have Hst:=jpk hst
     have HK:=jpk ((k6.lessS (D':=D) Zb13).part (List.sublist_cons_self _ _))
     clear hst k5 K0 HPr HCm HSA g2 HBn HS HA HQ HY HRow
     by_cases hle:jcA j≤z2
     ·have hc:¬cmpQ z2 (jcA j)<0:=jeT.2 hle
      have hcd:decide (cmpQ z2 (jcA j)<0)=false:=decide_eq_false hc
      exact ZQ72
     ·have hc:cmpQ z2 (jcA j)<0:=by
       have:¬¬cmpQ z2 (jcA j)<0:=fun h=>hle (jeT.1 h)
       omega
      have hcd:decide (cmpQ z2 (jcA j)<0)=true:=decide_eq_true hc
      exact ZQ54
  ·have e:n=j:=by omega
   subst e
   have HE:=jpk (⟨true,bk,Lk,rfl,HU,jpk (by rw [Bool.true_and];exact HS.out),K.part (List.sublist_cons_self _ _)⟩:SumP w0 mb R T b L9 D (covB m n (rwA2 ls) jcA y) (.returned (.bool true)) wr)
   exact jkD
theorem jj4:(Tryz.prog.info? 57).map (fun i=>i.zero.map (·.cells))=some (some #[.slice none 0 0,.slice none 0 0]):=by kernel_rfl
theorem jj3:(Tryz.prog.info? 57).map (·.size)=some 2:=by kernel_rfl
theorem jnM {n i:Nat} {f:Nat→Fv} (hi:i<n):fvR (ofF n f) i=(f i).rat:=by
 unfold fvR
 rw [jaJ hi,Option.map_some,Option.getD_some]
theorem jfj {n:Nat} {f:Nat→Fv} (h:∀i,i<n→(f i).ok=true):(ofF n f).all Fv.ok=true:=List.all_eq_true.2 fun x hx=>by
 exact ZQ89
theorem jnK {x:Fv} (hk:x.ok=true) (h:fewV 1 x=true):Pt 1 x.rat:=by
 unfold fewV fewF at h
 rw [Bool.and_eq_true] at h
 have h1:x.l.length≤1:=by have:=of_decide_eq_true h.1;omega
 have h2:x.m.length≤1:=by have:=of_decide_eq_true h.2;omega
 have e:=jnN hk
 rw [e] at h1 h2
 exact ⟨jbs.1 h1,jbs.1 h2⟩
theorem jpc {ls:List Rv} {i:Nat} {X:Rv} (h:ls[i]?=some X) (j:Nat):rwA2 ls i j=fvR X.a j:=by
 unfold rwA2 fvR
 rw [h,Option.bind_some]
theorem jpd {ls:List Rv} {i:Nat} {X:Rv} (h:ls[i]?=some X):rwB2 ls false i=X.b.rat:=by
 unfold rwB2
 rw [if_neg Zb4,h,Option.map_some,Option.getD_some]
theorem jfU {α:Type} {p:α→Bool} {n:Nat} {f:Nat→α} (h:∀i,i<n→p (f i)=true):(ofF n f).all p=true:=List.all_eq_true.2 fun x hx=>by
 exact ZQ89
section
variable {m n k u t:Nat} {l:List Fv} {ls:List Rv} {V:Nat→Rv}
theorem fvR_pt (h:∀x∈l,fewV 1 x=true) (ho:l.all Fv.ok=true) (hl:l.length=n):∀i,i<n→Pt 1 (fvR l i):=fun i hi=>by
 have hm:l[i]?=some l[i]:=List.getElem?_eq_getElem ZO
 unfold fvR
 rw [hm,Option.map_some,Option.getD_some]
 exact jnK (List.all_eq_true.1 ho _ (List.getElem_mem _)) (h _ (List.getElem_mem _))
end
section
variable {m n:Nat} {A:Nat→Nat→Rat} {b c:Nat→Rat} {l:List Fv} {ls:List Rv}
theorem jcq {f:Nat→Rat}:∀u,u<n→fvR (ofF n fun i=>fvQ (f i)) u=f u:=fun u hu=>by rw [jnM hu,jga]
theorem jdH {f:Nat→Rat} (h:∀u,u<n→0≤f u) (hf:∀u,u<n→jaF (f u)=true):(ofF n fun i=>fvQ (f i)).all fnF=true:=jfU fun i hi=>by
 have ho:=jew (hf i hi)
 unfold fnF
 rw [ho,Bool.true_and,Bool.not_eq_true']
 have h5:=isQ.neg_iff (x:=⟨(fvQ (f i)).s,none,0,0,(fvQ (f i)).l,(fvQ (f i)).t,none,0,0,(fvQ (f i)).m⟩) (q:=f i) (by have:=jbW ho;rw [jga] at this;exact this)
 have h6:decide ((fvQ (f i)).s<0)=decide (f i<0):=h5
 rw [h6]
 exact decide_eq_false (Rat.not_lt.2 (h i hi))
end
end Go.Proofs.YtgikfcjndiohjaaGreat
