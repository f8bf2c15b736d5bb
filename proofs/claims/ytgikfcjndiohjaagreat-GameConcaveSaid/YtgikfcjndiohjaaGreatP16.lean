/- Laws and walks; conditions stand in each theorem. -/
import Derived.Laws.BitsAllLaws
import Derived.Laws.BitsLemmas
import Derived.Deep.RegionHeld3
import Derived.Test.YtgikfcjndiohjaaGreatP15
set_option linter.unusedSimpArgs false
set_option linter.unusedVariables false
set_option maxHeartbeats 2000000
set_option maxRecDepth 100000
namespace Go.Proofs.YtgikfcjndiohjaaGreat
open Go.RowKit
def fxP (A:Option Addr) (n cap:Nat) (v:Nat→Rw):World→Prop:=fun W=>Rd 4 (flat Rw.cs) W W.heap.size A n cap (ofF n v)∧rwP n v W
def fxS (A:Option Addr) (n:Nat) (v:Nat→Rw):Nat→Prop:=fun b=>rdS A n b∨rwS n v b
theorem Rd.only {α:Type} {sz:Nat} {enc:α→List Value} {W W':World} {A:Option Addr} {n cap:Nat} {l:List α} (h:Rd sz (flat enc) W W.heap.size A n cap l) (hs:W.heap.size≤W'.heap.size) (hb:∀b,rdS A n b→W'.heap[b]?=W.heap[b]?):Rd sz (flat enc) W' W'.heap.size A n cap l:=by
 refine ⟨h.1,h.2.1,h.2.2.1,fun hn=>?_⟩
 obtain ⟨b',off,e,hlt,hc⟩:=h.2.2.2 hn
 refine ⟨b',off,e,Nat.lt_of_lt_of_le hlt hs,fun k hk=>?_⟩
 obtain ⟨cs,hr,hlen,hj⟩:=hc k hk
 exact ⟨cs,hr,hlen,fun j u hu=>(jb9 (p:=⟨b',off+k*sz+j,none⟩) (hb b' ⟨hn,_,e,rfl⟩)).trans (hj j u hu)⟩
theorem jgc {A:Option Addr} {n cap:Nat} {v:Nat→Rw} {W W':World} (h:fxP A n cap v W) (hs:W.heap.size≤W'.heap.size) (hb:∀b,fxS A n v b→W'.heap[b]?=W.heap[b]?):fxP A n cap v W' :=
 ⟨h.1.only hs fun b hS=>hb b (Or.inl hS),fun i hi=>⟨jbg (h.2 i hi).1 hs fun b hS=>hb b (Or.inr ⟨i,hi,Or.inl hS⟩),jbg (h.2 i hi).2 hs fun b hS=>hb b (Or.inr ⟨i,hi,Or.inr hS⟩)⟩⟩
theorem Rd.sup {α:Type} {sz:Nat} {R:Enc α} {W:World} {B:Nat} {A:Option Addr} {n cap:Nat} {l:List α} (h:Rd sz R W B A n cap l) {b:Nat} (hS:rdS A n b):b<B:=by
 obtain ⟨hn,a,rfl,rfl⟩:=hS
 obtain ⟨b',off,e,hlt,-⟩:=h.2.2.2 hn
 rw [Option.some.inj e]
 exact hlt
theorem jjy {A:Option Addr} {n cap:Nat} {v:Nat→Rw} {W:World} (h:fxP A n cap v W) {b:Nat} (hS:fxS A n v b):b<W.heap.size:=by
 rcases hS with hS|⟨i,hi,hS|hS⟩
 ·exact h.1.sup hS
 ·exact Rd.sup (h.2 i hi).1 hS
 ·exact Rd.sup (h.2 i hi).2 hS
section
variable {w0 w W:World} {L:List Blk} {D:List Hl} {A:Option Addr} {n cap i:Nat} {v:Nat→Rw}
theorem St.fxAdd (K:St w0 L D W) (h:fxP A n cap v W) (hd:∀b,fxS A n v b→∀p∈L,p.1≠b):St w0 L (⟨fxP A n cap v,fxS A n v⟩::D) W :=
 K.add ⟨h,fun b hS=>⟨jjy h hS,hd b hS⟩,fun W' h1 h2=>jgc h h1 h2⟩
theorem St.fxOld (K:St w L D W) {l:List Fv} (h:RdF w w.heap.size A n cap l):∃v:Nat→Rw,(∀i,i<n→l[i]?=some (v i).fv)∧St w L (⟨fxP A n cap v,fxS A n v⟩::D) W:=by
 obtain ⟨v,h1,h2,h3⟩:=jka h
 have h0:fxP A n cap v w:=⟨h1,fun i hi=>h2 i hi⟩
 have hs:∀b,fxS A n v b→b<w.heap.size:=fun b hS=>jjy h0 hS
 refine ⟨v,h3,K.fxAdd (jgc h0 K.1.size fun b hS=>K.1.block b (hs b hS)) fun b hS p hp e=>?_⟩
 have g1:=(K.2.1 p hp).1
 have g2:=hs b hS
 omega
theorem St.fxRd (K:St w0 L D W) (hm:(⟨fxP A n cap v,fxS A n v⟩:Hl)∈D) (hi:i<n):St w0 L (⟨rdP (v i).B (v i).m (v i).d (v i).k,rdS (v i).B (v i).m⟩::⟨rdP (v i).A (v i).n (v i).c (v i).l,rdS (v i).A (v i).n⟩::D) W:=by
 have h:=K.okAt hm
 have h1:(⟨rdP (v i).A (v i).n (v i).c (v i).l,rdS (v i).A (v i).n⟩:Hl).ok L W:=⟨(h.1.2 i hi).1,fun b hS=>h.2.1 b (Or.inr ⟨i,hi,Or.inl hS⟩),fun W' g1 g2=>jbg (h.1.2 i hi).1 g1 g2⟩
 have h2:(⟨rdP (v i).B (v i).m (v i).d (v i).k,rdS (v i).B (v i).m⟩:Hl).ok L W:=⟨(h.1.2 i hi).2,fun b hS=>h.2.1 b (Or.inr ⟨i,hi,Or.inr hS⟩),fun W' g1 g2=>jbg (h.1.2 i hi).2 g1 g2⟩
 exact (K.add h1).add h2
theorem St.fxAt (K:St w0 L D W) (hm:(⟨fxP A n cap v,fxS A n v⟩:Hl)∈D) (hn:0<n):∃b off,A=some ⟨b,off,none⟩:=by
 obtain ⟨b,off,e,-⟩:=(K.okAt hm).1.1.2.2.2 hn
 exact ⟨b,off,e⟩
theorem St.fxCell {b off:Nat} (K:St w0 L D W) (hm:(⟨fxP (some ⟨b,off,none⟩) n cap v,fxS (some ⟨b,off,none⟩) n v⟩:Hl)∈D) (hi:i<n) :
 W.cell? ⟨b,off+i*4,none⟩=some (.int .i64 (v i).s)∧W.cell? ⟨b,off+i*4+1,none⟩=some (.slice (v i).A (v i).n (v i).c)∧W.cell? ⟨b,off+i*4+2,none⟩=some (.int .i64 (v i).t)∧W.cell? ⟨b,off+i*4+3,none⟩=some (.slice (v i).B (v i).m (v i).d):=by
 obtain ⟨b',off',e,hlt,hc⟩:=(K.okAt hm).1.1.2.2.2 ZO
 cases e
 obtain ⟨cs,hr,hlen,hj⟩:=hc i (by rw [jag];exact hi)
 have e2:(ofF n v)[i]'(by rw [jag];exact hi)=v i:=by
  have:=jaJ (f:=v) hi
  rw [List.getElem?_eq_getElem (by rw [jag];exact hi)] at this
  exact Option.some.inj this
 rw [e2] at hr
 have hr:cs=(v i).cs:=hr
 subst hr
 exact ⟨hj 0 _ rfl,hj 1 _ rfl,hj 2 _ rfl,hj 3 _ rfl⟩
theorem St.fxCap (K:St w0 L D W) (hm:(⟨fxP A n cap v,fxS A n v⟩:Hl)∈D):n≤cap∧cap≤9223372036854775807:=⟨(K.okAt hm).1.1.2.1,(K.okAt hm).1.1.2.2.1.1⟩
end
def Dc.nxt (m n:Nat) (D:Dc):Dc:=match D.pick m n with
 | .swap r s=>D.xch r s
 | _=>D
def Dc.live (m n:Nat) (D:Dc):Prop:=∃r s,D.pick m n=.swap r s
def Dc.seq (m n:Nat):Nat→Dc→Dc
 | 0,D=>D
 | t+1,D=>Dc.seq m n t (D.nxt m n)
theorem Dc.seq_succ (m n:Nat):∀(t:Nat) (D:Dc),Dc.seq m n (t+1) D=(Dc.seq m n t D).nxt m n
 | 0,D=>rfl
 | t+1,D=>by
  show Dc.seq m n (t+1) (D.nxt m n)=_
  rw [Dc.seq_succ m n t]
  rfl
def Dc.bas (m:Nat) (D:Dc) (u:Nat):Prop:=∃i,i<m∧D.own i=u
def Dc.great (m n:Nat) (D:Dc) (q:Nat):Prop:=∃r s,D.pick m n=.swap r s∧D.own r≤q∧D.free s≤q
def Dc.pair (m n:Nat) (D:Dc) (q:Nat):Prop:=∃r s,D.pick m n=.swap r s∧max (D.own r) (D.free s)<q
theorem jgS {P:Nat→Prop} (h:∃t,P t):∃t,P t∧∀k,k<t→¬P k:=by
 obtain ⟨t,ht⟩:=h
 induction t using Nat.strongRecOn with
 | _ t ih =>
  by_cases hd:∃k,k<t∧P k
  ·obtain ⟨k,hk,hp⟩:=hd
   exact ih k hk hp
  ·exact ⟨t,ht,fun k hk hp=>hd ⟨k,hk,hp⟩⟩
section
variable {m n:Nat} {D:Dc}
theorem jg0 (h:D.Ok m n):(D.nxt m n).Ok m n:=by
 unfold Dc.nxt
 split
 ·rename_i r s he
  obtain ⟨h1,h2,-⟩:=Dc.pick_swap h he
  exact h.xch h1 h2
 ·exact h
theorem jdw (h:D.Ok m n) {r s:Nat} (he:D.pick m n=.swap r s):D.a r s≠0:=by
 obtain ⟨h1,h2,h3|h3⟩:=Dc.pick_swap h he
 ·have:=h3.2.1
  intro e
  rw [e] at this
  exact absurd this Zb4
 ·have:=h3.2.1
  intro e
  rw [e] at this
  exact absurd this Zb4
theorem jmG (h:D.Ok m n):D.Like m n (D.nxt m n):=by
 unfold Dc.nxt
 split
 ·rename_i r s he
  obtain ⟨h1,h2,-⟩:=Dc.pick_swap h he
  exact Dc.like_xch h1 h2 (jdw h he)
 ·exact Dc.Like.refl m n D
theorem jfV:∀(t:Nat) {D:Dc},D.Ok m n→(Dc.seq m n t D).Ok m n
 | 0,D,h=>h
 | t+1,D,h=>jfV t (jg0 h)
theorem jhc:∀(t:Nat) {D:Dc},D.Ok m n→D.Like m n (Dc.seq m n t D)
 | 0,D,h=>Dc.Like.refl m n D
 | t+1,D,h=>(jmG h).trans (jhc t (jg0 h))
theorem jgm (a:Nat):∀(t:Nat) (D:Dc),Dc.seq m n (a+t) D=Dc.seq m n t (Dc.seq m n a D)
 | 0,D=>rfl
 | t+1,D=>by
  rw [←Nat.add_assoc,Dc.seq_succ,Dc.seq_succ,jgm a t]
theorem jn2 (h:D.Ok m n) {q u:Nat} (hg:D.great m n q) (hu:q<u):(D.nxt m n).bas m u↔D.bas m u:=by
 obtain ⟨r,s,he,h1,h2⟩:=hg
 obtain ⟨hr,hs,-⟩:=Dc.pick_swap h he
 have e:D.nxt m n=D.xch r s:=by unfold Dc.nxt;rw [he]
 rw [e]
 constructor
 ·rintro ⟨i,hi,ei⟩
  change (if i=r then D.free s else D.own i)=u at ei
  by_cases e:i=r
  ·rw [if_pos e] at ei;omega
  ·rw [if_neg e] at ei;exact ⟨i,hi,ei⟩
 ·rintro ⟨i,hi,ei⟩
  have e:i≠r:=fun e=>by rw [e] at ei;omega
  exact ⟨i,hi,by show (if i=r then D.free s else D.own i)=u;rw [if_neg e];exact ei⟩
theorem jgn {u:Nat}:∀(t:Nat) {D:Dc},D.Ok m n→(∀k,k<t→∃q,q<u∧(Dc.seq m n k D).great m n q)→((Dc.seq m n t D).bas m u↔D.bas m u)
 | 0,D,_,_=>Iff.rfl
 | t+1,D,h,hk=>by
  have h0:=hk 0 ZO
  obtain ⟨q,hq,hg⟩:=h0
  exact (jgn t (jg0 h) (fun k hkt=>hk (k+1) ZO)).trans (jn2 h hg hq)
theorem jc5 (h:D.Ok m n) {u:Nat} (hu:u<n+m):¬D.bas m u↔∃j,j<n∧D.free j=u:=by
 constructor
 ·intro hb
  rcases h.all u hu with h1|h1
  ·exact absurd h1 hb
  ·exact h1
 ·rintro ⟨j,hj,e⟩ ⟨i,hi,e2⟩
  exact h.ne i j hi hj (by rw [e,e2])
theorem twice (h:D.Ok m n) {q t:Nat} (ht:0<t) (hb:∀k,k<t→0<k→∃p,p<q∧(Dc.seq m n k D).great m n p)
 {r s r' s':Nat} (he:D.pick m n=.swap r s) (hm:max (D.own r) (D.free s)=q) (he':(Dc.seq m n t D).pick m n=.swap r' s') (hm':max ((Dc.seq m n t D).own r') ((Dc.seq m n t D).free s')=q):False:=by
 obtain ⟨t,rfl⟩:∃k,t=k+1:=⟨t-1,by omega⟩
 have h1:=jg0 h
 have hT:=jfV (t+1) h
 have hl:=jhc (t+1) h
 obtain ⟨hr,hs,hc⟩:=Dc.pick_swap h he
 obtain ⟨hr',hs',hc'⟩:=Dc.pick_swap hT he'
 have hg:D.great m n q:=⟨r,s,he,by omega,by omega⟩
 have hst:∀u,q<u→((Dc.seq m n (t+1) D).bas m u↔D.bas m u):=fun u hu=>jgn (t+1) h (fun k hk=>by
  by_cases e:k=0
  ·subst e;exact ⟨q,hu,hg⟩
  ·obtain ⟨p,hp,hg⟩:=hb k hk ZO
   exact ⟨p,by omega,hg⟩)
 have hbig:∀j,j<n→q<D.free j→∃k,k<n∧(Dc.seq m n (t+1) D).free k=D.free j:=fun j hj hlt=>(jc5 hT (h.lf j hj)).1 fun hx=>(jc5 h (h.lf j hj)).2 ⟨j,hj,rfl⟩ ((hst _ hlt).1 hx)
 have hbig':∀j,j<n→q<(Dc.seq m n (t+1) D).free j→∃k,k<n∧D.free k=(Dc.seq m n (t+1) D).free j:=fun j hj hlt=>(jc5 h (hT.lf j hj)).1 fun hx=>(jc5 hT (hT.lf j hj)).2 ⟨j,hj,rfl⟩ ((hst _ hlt).2 hx)
 have hsame:(Dc.seq m n (t+1) D).bas m q↔(D.nxt m n).bas m q:=jgn t h1 (fun k hk=>hb (k+1) ZO ZO)
 have e:D.nxt m n=D.xch r s:=by unfold Dc.nxt;rw [he]
 rw [e] at hsame
 have hne:=h.ne r s hr hs
 have hne':=hT.ne r' s' hr' hs'
 by_cases hfq:D.free s=q
 ·have hb1:(D.xch r s).bas m q:=⟨r,hr,by show (if r=r then D.free s else D.own r)=q;rw [if_pos rfl];exact hfq⟩
  have hb2:=hsame.2 hb1
  have hfn:(Dc.seq m n (t+1) D).free s'≠q:=fun e2=>(jc5 hT (by rw [←e2];exact hT.lf s' hs')).2 ⟨s',hs',e2⟩ hb2
  exact Dc.cross h hT hl hr hs hr' hs' hfq ZO ZO ZO hbig hbig' hc hc'
 ·have hoq:D.own r=q:=by omega
  have hb1:¬(D.xch r s).bas m q:=by
   rintro ⟨i,hi,ei⟩
   change (if i=r then D.free s else D.own i)=q at ei
   by_cases e2:i=r
   ·rw [if_pos e2] at ei;exact hfq ei
   ·rw [if_neg e2] at ei
    exact e2 (h.io i r hi hr (by rw [ei,hoq]))
  have hb2:¬(Dc.seq m n (t+1) D).bas m q:=fun hx=>hb1 (hsame.1 hx)
  have hon:(Dc.seq m n (t+1) D).own r'≠q:=fun e2=>hb2 ⟨r',hr',e2⟩
  exact Dc.cross hT h hl.symm hr' hs' hr hs ZO hoq ZO ZO hbig' hbig hc' hc
theorem runs:∀(q len:Nat) {D:Dc},D.Ok m n→(∀t,t<len→(Dc.seq m n t D).pair m n q)→len<2 ^ q
 | 0,len,D,h,hall=>by
  by_cases e:len=0
  ·subst e;decide
  ·obtain ⟨r,s,-,h2⟩:=hall 0 ZO
   omega
 | q+1,len,D,h,hall=>by
  by_cases hex:∃t,t<len∧¬(Dc.seq m n t D).pair m n q
  ·obtain ⟨t,⟨ht,hn⟩,hmin⟩:=jgS hex
   have l1:=runs q t h (fun k hk=>Classical.byContradiction fun hx=>hmin k hk ⟨by omega,hx⟩)
   obtain ⟨r,s,he,h2⟩:=hall t ht
   have hm:max ((Dc.seq m n t D).own r) ((Dc.seq m n t D).free s)=q:=by
    apply Classical.byContradiction
    intro hx
    exact hn ⟨r,s,he,by omega⟩
   have hT:=jfV (m:=m) (n:=n) t h
   have l2:=runs q (len-(t+1)) (D:=Dc.seq m n (t+1) D) (jfV (t+1) h) (fun k hk=>by
    apply Classical.byContradiction
    intro hx
    obtain ⟨u,⟨hu,hux⟩,humin⟩:=jgS (P:=fun u=>u≤k∧¬(Dc.seq m n u (Dc.seq m n (t+1) D)).pair m n q) ⟨k,Nat.le_refl _,hx⟩
    have eq1:∀v,Dc.seq m n (v+1) (Dc.seq m n t D)=Dc.seq m n (t+1+v) D:=fun v=>by
     rw [←jgm,show t+(v+1)=t+1+v by omega]
    have eq2:∀v,Dc.seq m n v (Dc.seq m n (t+1) D)=Dc.seq m n (t+1+v) D:=fun v=>(jgm (t+1) v D).symm
    rw [eq2] at hux
    obtain ⟨r',s',he',h2'⟩:=hall (t+1+u) ZO
    have hm':max ((Dc.seq m n (t+1+u) D).own r') ((Dc.seq m n (t+1+u) D).free s')=q:=by
     apply Classical.byContradiction
     intro hx
     exact hux ⟨r',s',he',by omega⟩
    refine twice hT (q:=q) (t:=u+1) ZO (fun v hv hv0=>?_) he hm (by rw [eq1];exact he') (by rw [eq1];exact hm')
    have hlt:=humin (v-1) ZO
    rw [eq2] at hlt
    have e3:Dc.seq m n v (Dc.seq m n t D)=Dc.seq m n (t+1+(v-1)) D:=by
     rw [←eq1,show v-1+1=v by omega]
    rw [e3]
    have hpr:(Dc.seq m n (t+1+(v-1)) D).pair m n q:=Classical.byContradiction fun hx=>hlt ⟨by omega,hx⟩
    obtain ⟨r3,s3,he3,h3⟩:=hpr
    exact ⟨q-1,by omega,r3,s3,he3,by omega,by omega⟩)
   rw [Nat.pow_succ]
   omega
  ·have:=runs q len h (fun t ht=>Classical.byContradiction fun hx=>hex ⟨t,ht,hx⟩)
   rw [Nat.pow_succ]
   omega
theorem ends (h:D.Ok m n):∃t,¬(Dc.seq m n t D).live m n:=by
 apply Classical.byContradiction
 intro hx
 have:=runs (n+m) (2 ^ (n+m)) h (fun t _=>by
  have hl:(Dc.seq m n t D).live m n:=Classical.byContradiction fun hy=>hx ⟨t,hy⟩
  obtain ⟨r,s,he⟩:=hl
  have hT:=jfV (m:=m) (n:=n) t h
  obtain ⟨hr,hs,-⟩:=Dc.pick_swap hT he
  have:=hT.lo r hr
  have:=hT.lf s hs
  exact ⟨r,s,he,by omega⟩)
 omega
end
theorem jcg {f:Nat→Rat} {n a:Nat} (ha:a<n) (h:∀k,k<n→k≠a→f k=0):smQ f n=f a:=by
 rw [jc3 (f:=fun _=>0) (g:=f) (b:=a) (c:=f a) ha (by grind) h,jaL (fun _ _=>rfl)]
 grind
def opnD (n:Nat) (A:Nat→Nat→Rat) (b c:Nat→Rat):Dc:=⟨b,A,c,fun i=>n+i,fun j=>j⟩
theorem jdc (m n:Nat) (A:Nat→Nat→Rat) (b c:Nat→Rat):(opnD n A b c).Ok m n :=
 ⟨fun i hi=>by show n+i<_;omega,fun j hj=>by show j<_;omega,fun i k _ _ e=>by have e:n+i=n+k:=e;omega,fun j k _ _ e=>e,fun i j _ hj e=>by have e:n+i=j:=e;omega,fun u hu=>by
  by_cases h:u<n
  ·exact Or.inr ⟨u,h,rfl⟩
  ·exact Or.inl ⟨u-n,by omega,by show n+(u-n)=u;omega⟩⟩
def dlt (u:Nat):Nat→Rat:=fun k=>if k=u then 1 else 0
structure Lin (φ:(Nat→Rat)→Rat):Prop where
 add:∀x y,φ (fun k=>x k+y k)=φ x+φ y
 mul:∀(t:Rat) x,φ (fun k=>t*x k)=t*φ x
theorem Lin.zero {φ:(Nat→Rat)→Rat} (h:Lin φ):φ (fun _=>0)=0:=by
 have e:=h.mul 0 (fun _=>0)
 have e2:(fun k:Nat=>(0:Rat)*(fun _:Nat=>(0:Rat)) k)=fun _=>0:=by funext k;grind
 rw [e2] at e
 rw [e];grind
theorem Lin.cut {φ:(Nat→Rat)→Rat} (h:Lin φ) (x:Nat→Rat):∀K:Nat,φ (fun k=>if k<K then x k else 0)=smQ (fun u=>x u*φ (dlt u)) K
 | 0=>by
  have e:(fun k:Nat=>if k<0 then x k else 0)=fun _=>0:=by funext k;rw [if_neg ZO]
  rw [e,h.zero,smQ]
 | K+1=>by
  have e:(fun k:Nat=>if k<K+1 then x k else 0)=fun k=>(fun k=>if k<K then x k else 0) k+(fun k=>x K*dlt K k) k:=by
   funext k
   unfold dlt
   by_cases e1:k=K
   ·rw [if_pos ZO]
    show _=(if k<K then x k else 0)+x K*(if k=K then 1 else 0)
    rw [if_neg ZO,if_pos e1,e1];grind
   ·by_cases e2:k<K
    ·rw [if_pos ZO]
     show _=(if k<K then x k else 0)+x K*(if k=K then 1 else 0)
     rw [if_pos e2,if_neg e1];grind
    ·rw [if_neg ZO]
     show _=(if k<K then x k else 0)+x K*(if k=K then 1 else 0)
     rw [if_neg e2,if_neg e1];grind
  rw [e,h.add,h.cut x K,smQ,h.mul]
theorem jnT (l:Nat→Rat) (f:Nat→Nat) (n:Nat):Lin (fun x=>smQ (fun j=>l j*x (f j)) n) :=
 ⟨fun x y=>by
  show smQ (fun j=>l j*(x (f j)+y (f j))) n=_
  rw [←jea]
  exact jaj fun j _=>by grind,fun t x=>by
  show smQ (fun j=>l j*(t*x (f j))) n=t*smQ (fun j=>l j*x (f j)) n
  have:smQ (fun j=>l j*(t*x (f j))) n=smQ (fun j=>(l j*x (f j))*t) n:=jaj fun j _=>by grind
  rw [this,ja6];grind⟩
def cof (n:Nat) (l:Nat→Rat) (f:Nat→Nat) (u:Nat):Rat:=smQ (fun j=>l j*dlt u (f j)) n
theorem jh3 {n j:Nat} {l:Nat→Rat} {f:Nat→Nat} (hj:j<n) (hf:∀i k,i<n→k<n→f i=f k→i=k):cof n l f (f j)=l j:=by
 unfold cof
 rw [jcg hj (fun k hk hne=>by
  unfold dlt
  rw [if_neg (fun e=>hne (hf k j hk hj e))];grind)]
 unfold dlt
 rw [if_pos rfl];grind
theorem jeU {n u:Nat} {l:Nat→Rat} {f:Nat→Nat} (h:∀j,j<n→f j≠u):cof n l f u=0:=jaL fun j hj=>by
 unfold dlt
 rw [if_neg (h j hj)];grind
theorem jh4 {n N:Nat} {l:Nat→Rat} {f:Nat→Nat} (x:Nat→Rat) (h:∀j,j<n→f j<N):smQ (fun j=>l j*x (f j)) n=smQ (fun u=>x u*cof n l f u) N:=by
 have:=(jnT l f n).cut x N
 have e:smQ (fun j=>l j*(if f j<N then x (f j) else 0)) n=smQ (fun j=>l j*x (f j)) n:=jaj fun j hj=>by rw [if_pos (h j hj)]
 exact e.symm.trans this
theorem jfW (f:Nat→Rat) (n:Nat):∀m:Nat,smQ f (n+m)=smQ f n+smQ (fun i=>f (n+i)) m
 | 0=>by
  show smQ f n=smQ f n+smQ _ 0
  rw [smQ];grind
 | m+1=>by
  show smQ f (n+m+1)=_
  rw [smQ,jfW f n m,smQ];grind
def ext (n:Nat) (A:Nat→Nat→Rat) (b:Nat→Rat) (f:Rat) (x:Nat→Rat):Nat→Rat:=fun u=>if u<n then x u else b (u-n)*f-smQ (fun j=>A (u-n) j*x j) n
theorem jjg {n:Nat} {A:Nat→Nat→Rat} {b:Nat→Rat} {f:Rat} {x:Nat→Rat} {u:Nat} (h:u<n):ext n A b f x u=x u:=if_pos h
theorem jm5 {n:Nat} {A:Nat→Nat→Rat} {b:Nat→Rat} {f:Rat} {x:Nat→Rat} {i:Nat}:ext n A b f x (n+i)=b i*f-smQ (fun j=>A i j*x j) n:=by
 unfold ext
 rw [if_neg ZO,show n+i-n=i by omega]
section
variable {m n:Nat} {A:Nat→Nat→Rat} {b c:Nat→Rat} {D:Dc}
theorem jm6 (f:Rat) (x:Nat→Rat):(opnD n A b c).on m n (ext n A b f x) f:=fun i hi=>by
 show ext n A b f x (n+i)=b i*f-smQ (fun j=>A i j*ext n A b f x j) n
 rw [jm5]
 congr 1
 exact jaj fun j hj=>by rw [jjg hj]
theorem jng {f:Rat} {x:Nat→Rat} (h:(opnD n A b c).on m n x f) {i:Nat} (hi:i<m):x (n+i)=b i*f-smQ (fun j=>A i j*x j) n:=h i hi
theorem jgf (x:Nat→Rat):(opnD n A b c).gol n x=smQ (fun j=>c j*x j) n:=rfl
theorem jnQ (f:Rat) (x:Nat→Rat):(opnD n A b c).gol n (ext n A b f x)=smQ (fun j=>c j*x j) n:=jaj fun j hj=>by
 show c j*ext n A b f x j=_
 rw [jjg hj]
theorem jd4 {γ:Nat→Rat} {f:Rat} {x:Nat→Rat}:smQ (fun u=>ext n A b f x u*γ u) (n+m)=smQ (fun k=>x k*(γ k-smQ (fun i=>γ (n+i)*A i k) m)) n+f*smQ (fun i=>γ (n+i)*b i) m:=by
 rw [jfW]
 have e1:smQ (fun u=>ext n A b f x u*γ u) n=smQ (fun k=>x k*γ k) n:=jaj fun k hk=>by rw [jjg hk]
 have e2:smQ (fun i=>ext n A b f x (n+i)*γ (n+i)) m=f*smQ (fun i=>γ (n+i)*b i) m-smQ (fun i=>γ (n+i)*smQ (fun j=>A i j*x j) n) m:=by
  have e3:smQ (fun i=>ext n A b f x (n+i)*γ (n+i)) m=smQ (fun i=>(γ (n+i)*b i)*f-γ (n+i)*smQ (fun j=>A i j*x j) n) m:=jaj fun i _=>by rw [jm5];grind
  rw [e3,jec,ja6];grind
 have e4:∀m:Nat,smQ (fun i=>γ (n+i)*smQ (fun j=>A i j*x j) n) m=smQ (fun k=>x k*smQ (fun i=>γ (n+i)*A i k) m) n:=fun m=>by
  induction m with
  | zero =>
   rw [smQ]
   exact (jaL fun k _=>by rw [smQ];grind).symm
  | succ m ih =>
   rw [smQ,ih]
   have e5:γ (n+m)*smQ (fun j=>A m j*x j) n=smQ (fun k=>(A m k*x k)*γ (n+m)) n:=by rw [ja6];grind
   rw [e5,←jea]
   exact jaj fun k _=>by rw [smQ];grind
 have e6:smQ (fun k=>x k*(γ k-smQ (fun i=>γ (n+i)*A i k) m)) n=smQ (fun k=>x k*γ k) n-smQ (fun k=>x k*smQ (fun i=>γ (n+i)*A i k) m) n:=by
  rw [←jec]
  exact jaj fun k _=>by grind
 rw [e1,e2,e4,e6];grind
theorem jhU (hD:D.Ok m n) (hl:(opnD n A b c).Like m n D) (hv:∀i,i<m→0≤D.v i) (hc:∀j,j<n→D.c j≤0) :
 ∃x y:Nat→Rat,(∀u,u<n→0≤x u)∧(∀i,i<m→0≤y i)∧(∀i,i<m→smQ (fun j=>A i j*x j) n≤b i)∧(∀k,k<n→c k≤smQ (fun i=>y i*A i k) m)∧smQ (fun i=>y i*b i) m=smQ (fun j=>c j*x j) n ∧
  (∀i,i<m→D.own i<n→x (D.own i)=D.v i)∧(∀j,j<n→D.free j<n→x (D.free j)=0)∧(∀i,i<m→n≤D.own i→y (D.own i-n)=0)∧(∀j,j<n→n≤D.free j→y (D.free j-n)= -(D.c j)):=by
 obtain ⟨κ,hκ⟩:=hl.gol
 obtain ⟨x,x1,x2,x3⟩:=hD.basic
 have xo:=(hl.on x 1).2 x1
 have hx0:∀u,u<n+m→0≤x u:=fun u hu=>by
  rcases hD.all u hu with ⟨i,hi,ei⟩|⟨j,hj,ej⟩
  ·rw [←ei,x2 i hi];exact hv i hi
  ·rw [←ej,x3 j hj];exact Rat.le_refl
 let γ:=cof n D.c D.free
 have hγ:∀y:Nat→Rat,D.gol n y=smQ (fun u=>y u*γ u) (n+m):=fun y=>jh4 y (fun j hj=>hD.lf j hj)
 have hγ0:∀u,u<n+m→γ u≤0:=fun u hu=>by
  rcases hD.all u hu with ⟨i,hi,ei⟩|⟨j,hj,ej⟩
  ·have:γ u=0:=jeU (fun j hj e=>hD.ne i j hi hj (by rw [ei,e]))
   rw [this];exact Rat.le_refl
  ·have:γ u=D.c j:=by rw [←ej];exact jh3 hj (fun i k hi hk e=>hD.jf i k hi hk e)
   rw [this];exact hc j hj
 have line:∀(f:Rat) (z:Nat→Rat),smQ (fun j=>c j*z j) n=smQ (fun k=>z k*(γ k-smQ (fun i=>γ (n+i)*A i k) m)) n+f*smQ (fun i=>γ (n+i)*b i) m+κ*f:=fun f z=>by
  have h1:=hκ _ f (jm6 (m:=m) (c:=c) (A:=A) (b:=b) f z)
  rw [jnQ,hγ,jd4] at h1
  exact h1
 have ek:∀k,k<n→c k=γ k-smQ (fun i=>γ (n+i)*A i k) m:=fun k hk=>by
  have h1:=line 0 (dlt k)
  rw [jcg (f:=fun j=>c j*dlt k j) hk (fun j hj hne=>by unfold dlt;rw [if_neg hne];grind),jcg (f:=fun j=>dlt k j*(γ j-smQ (fun i=>γ (n+i)*A i j) m)) hk (fun j hj hne=>by unfold dlt;rw [if_neg hne];grind)] at h1
  unfold dlt at h1
  rw [if_pos rfl] at h1
  grind
 have ef:κ= - smQ (fun i=>γ (n+i)*b i) m:=by
  have h1:=line 1 (fun _=>0)
  rw [jaL (fun j hj=>by grind),jaL (fun j hj=>by grind)] at h1
  grind
 have neg:∀(g:Nat→Rat),smQ (fun i=> -(γ (n+i))*g i) m= - smQ (fun i=>γ (n+i)*g i) m:=fun g=>by
  have:smQ (fun i=> -(γ (n+i))*g i) m=smQ (fun i=>(γ (n+i)*g i)*(-1)) m:=jaj fun i _=>by grind
  rw [this,ja6];grind
 refine ⟨x,fun i=> -(γ (n+i)),fun u hu=>hx0 u ZO,fun i hi=>?_,fun i hi=>?_,fun k hk=>?_,?_,fun i hi _=>x2 i hi,fun j hj _=>x3 j hj,fun i hi hn=>?_,fun j hj hn=>?_⟩
 ·have:=hγ0 (n+i) ZO
  grind
 ·have h1:=jng xo hi
  have h2:=hx0 (n+i) ZO
  grind
 ·rw [neg,ek k hk]
  have:=hγ0 k ZO
  grind
 ·rw [neg,←ef]
  have h1:=hκ x 1 xo
  have h2:D.gol n x=0:=jaL fun j hj=>by rw [x3 j hj];grind
  rw [jgf,h2] at h1
  grind
 ·show -(γ (n+(D.own i-n)))=0
  have:γ (n+(D.own i-n))=0:=jeU (fun j hj e=>hD.ne i j hi hj ZO)
  rw [this];grind
 ·show -(γ (n+(D.free j-n)))=_
  have e:n+(D.free j-n)=D.free j:=by omega
  have:γ (D.free j)=D.c j:=jh3 hj (fun i k hi hk e=>hD.jf i k hi hk e)
  rw [e,this]
theorem jjQ {r:Nat} (hD:D.Ok m n) (hl:(opnD n A b c).Like m n D) (hr:r<m) (hv:D.v r<0) (ha:∀j,j<n→0≤D.a r j) :
 ∃y:Nat→Rat,(∀i,i<m→0≤y i)∧(∀k,k<n→0≤smQ (fun i=>y i*A i k) m)∧smQ (fun i=>y i*b i) m<0 ∧
  (∀i,i<m→i≠r→n≤D.own i→y (D.own i-n)=0)∧(n≤D.own r→y (D.own r-n)=1)∧(∀j,j<n→n≤D.free j→y (D.free j-n)=D.a r j):=by
 let γ:=fun u=>dlt (D.own r) u+cof n (D.a r) D.free u
 have hrow:∀(y:Nat→Rat) (f:Rat),D.on m n y f→smQ (fun u=>y u*γ u) (n+m)=D.v r*f:=fun y f h=>by
  have e1:smQ (fun u=>y u*γ u) (n+m)=smQ (fun u=>y u*dlt (D.own r) u) (n+m)+smQ (fun u=>y u*cof n (D.a r) D.free u) (n+m):=by
   rw [←jea]
   exact jaj fun u _=>by show y u*(dlt (D.own r) u+cof n (D.a r) D.free u)=_;grind
  have e2:smQ (fun u=>y u*dlt (D.own r) u) (n+m)=y (D.own r):=by
   rw [jcg (a:=D.own r) (hD.lo r hr) (fun u hu hne=>by unfold dlt;rw [if_neg hne];grind)]
   unfold dlt
   rw [if_pos rfl];grind
  rw [e1,e2,←jh4 y (fun j hj=>hD.lf j hj),h r hr]
  grind
 have gO:∀i,i<m→i≠r→γ (D.own i)=0:=fun i hi hne=>by
  show dlt (D.own r) (D.own i)+cof n (D.a r) D.free (D.own i)=0
  rw [jeU (fun j hj e=>hD.ne i j hi hj e.symm)]
  unfold dlt
  rw [if_neg (fun e=>hne (hD.io i r hi hr e))];grind
 have gR:γ (D.own r)=1:=by
  show dlt (D.own r) (D.own r)+cof n (D.a r) D.free (D.own r)=1
  rw [jeU (fun j hj e=>hD.ne r j hr hj e.symm)]
  unfold dlt
  rw [if_pos rfl];grind
 have gF:∀j,j<n→γ (D.free j)=D.a r j:=fun j hj=>by
  show dlt (D.own r) (D.free j)+cof n (D.a r) D.free (D.free j)=_
  rw [jh3 hj (fun i k hi hk e=>hD.jf i k hi hk e)]
  unfold dlt
  rw [if_neg (fun e=>hD.ne r j hr hj e.symm)];grind
 have g0:∀u,u<n+m→0≤γ u:=fun u hu=>by
  rcases hD.all u hu with ⟨i,hi,ei⟩|⟨j,hj,ej⟩
  ·by_cases e:i=r
   ·rw [←ei,e,gR];decide
   ·rw [←ei,gO i hi e];exact Rat.le_refl
  ·rw [←ej,gF j hj];exact ha j hj
 have line:∀(f:Rat) (z:Nat→Rat),smQ (fun k=>z k*(γ k-smQ (fun i=>γ (n+i)*A i k) m)) n+f*smQ (fun i=>γ (n+i)*b i) m=D.v r*f:=fun f z=>by
  have h1:=hrow _ f ((hl.on _ f).1 (jm6 (m:=m) (c:=c) (A:=A) (b:=b) f z))
  rw [jd4] at h1
  exact h1
 refine ⟨fun i=>γ (n+i),fun i hi=>g0 _ ZO,fun k hk=>?_,?_,fun i hi hne hn=>?_,fun hn=>?_,fun j hj hn=>?_⟩
 ·have h1:=line 0 (dlt k)
  rw [jcg (f:=fun j=>dlt k j*(γ j-smQ (fun i=>γ (n+i)*A i j) m)) hk (fun j hj hne=>by unfold dlt;rw [if_neg hne];grind)] at h1
  unfold dlt at h1
  rw [if_pos rfl] at h1
  have h2:=g0 k ZO
  show 0≤smQ (fun i=>γ (n+i)*A i k) m
  grind
 ·have h1:=line 1 (fun _=>0)
  rw [jaL (fun j hj=>by grind)] at h1
  show smQ (fun i=>γ (n+i)*b i) m<0
  grind
 ·show γ (n+(D.own i-n))=0
  rw [show n+(D.own i-n)=D.own i by omega]
  exact gO i hi hne
 ·show γ (n+(D.own r-n))=1
  rw [show n+(D.own r-n)=D.own r by omega]
  exact gR
 ·show γ (n+(D.free j-n))=_
  rw [show n+(D.free j-n)=D.free j by omega]
  exact gF j hj
theorem jmP {s:Nat} (hD:D.Ok m n) (hl:(opnD n A b c).Like m n D) (hs:s<n) (hc:0<D.c s) (ha:∀i,i<m→D.a i s≤0) :
 ∃x:Nat→Rat,(∀u,u<n→0≤x u)∧(∀i,i<m→smQ (fun j=>A i j*x j) n≤0)∧0<smQ (fun j=>c j*x j) n ∧
  (∀i,i<m→D.own i<n→x (D.own i)= -(D.a i s))∧(D.free s<n→x (D.free s)=1)∧(∀j,j<n→j≠s→D.free j<n→x (D.free j)=0):=by
 obtain ⟨κ,hκ⟩:=hl.gol
 obtain ⟨x,x1,x2,x3,x4,x5⟩:=hD.ray hs
 have xo:=(hl.on x 0).2 x1
 have hx0:∀u,u<n+m→0≤x u:=fun u hu=>by
  rcases hD.all u hu with ⟨i,hi,ei⟩|⟨j,hj,ej⟩
  ·rw [←ei,x2 i hi]
   have:=ha i hi
   grind
  ·by_cases e:j=s
   ·rw [←ej,e,x3];decide
   ·rw [←ej,x4 j hj e];exact Rat.le_refl
 refine ⟨x,fun u hu=>hx0 u ZO,fun i hi=>?_,?_,fun i hi _=>x2 i hi,fun _=>x3,fun j hj hne _=>x4 j hj hne⟩
 ·have h1:=jng xo hi
  have h2:=hx0 (n+i) ZO
  grind
 ·have h1:=hκ x 0 xo
  rw [jgf,x5] at h1
  grind
end
def ixI:Option Nat→Int
 | none=> -1
 | some i=>(i:Int)
theorem jnX {f:Nat→Nat} {ch:Nat→Bool} {k:Nat} (h:ch k=false):lstP f ch (k+1)=lstP f ch k:=by
 rw [lstP]
 cases lstP f ch k <;> simp [h]
theorem jmD {f:Nat→Nat} {ch:Nat→Bool} {k:Nat} (h:ch k=true) (hp:lstP f ch k=none):lstP f ch (k+1)=some k:=by
 rw [lstP,hp]
 simp [h]
theorem jfN {f:Nat→Nat} {ch:Nat→Bool} {k i:Nat} (h:ch k=true) (hp:lstP f ch k=some i):lstP f ch (k+1)=if f k<f i then some k else some i:=by
 rw [lstP,hp]
 simp [h]
theorem jk9:∀(args:Array Value) (V:World),(callFunc 108 args).run Tryz.prog V=.ok (.enter 108 args) V:=fun args V=>by go_simp
theorem jma:∀(args:Array Value) (V:World),(callFunc 109 args).run Tryz.prog V=.ok (.enter 109 args) V:=fun args V=>by go_simp
theorem jgK:∀(args:Array Value) (V:World),(callFunc 110 args).run Tryz.prog V=.ok (.enter 110 args) V:=fun args V=>by go_simp
theorem jgL:∀(args:Array Value) (V:World),(callFunc 111 args).run Tryz.prog V=.ok (.enter 111 args) V:=fun args V=>by go_simp
theorem jcS {f:Nat→Int} {n i:Nat} (h:i<n):gi (ofF n f) i=f i:=by
 unfold gi
 rw [List.getD_eq_getElem?_getD,jaJ h]
 rfl
theorem jb3 (F:FuncId) (caps:Array Value) (A:Option Addr) (n cap:Nat) (f:Nat→Nat) (ch:Nat→Bool) (w0 W:World) (L:List Blk) (D:List Hl) (K:St w0 L D W) (hn:n≤1000000)
 (hF:∀(args:Array Value) (V:World),(callFunc F args).run Tryz.prog V=.ok (.enter F args) V)
 (hR:∀V,St w0 L D V→RdI V V.heap.size A n cap (ofF n fun i=>((f i:Nat):Int)))
 (HC:∀V,St w0 L D V→∀i,i<n→Calls Tryz.prog F (#[.int .i64 (i:Int)]++caps) V fun e V'=>e=.returned (.bool (ch i))∧St w0 L D V') :
 Calls Tryz.prog 107 #[.slice A n cap,.func (.func F) #[] caps] W fun e W'=>e=.returned (.int .i64 (ixI (lstP f ch n)))∧St w0 L D W':=by
 have HCm:=jpk HC
 have HF:=jpk hF
 have HR:=jpk hR
 have hcap:=(hR W K).caps
 clear HC hR hF
 go_enter Tryz.func107,Tryz.ntmps107
 go_wp2_with fail
 go_loopg [5,10] n (fun gk s5 s10 wr=>∃(k:Nat) (o:Option Nat),k≤n∧gk=n-k∧s5=.int .i64 (ixI o)∧s10=.int .i64 k∧Hid (lstP f ch k=o)∧St w0 L D wr)
 case atStart=>exact ⟨0,none,Nat.zero_le _,rfl,rfl,rfl,jpk rfl,K⟩
 case round =>
  clear K
  obtain ⟨k,o,hk,rfl,rfl,rfl,HO,K⟩:=hrel
  by_cases hlt:k<n
  ·have hki:(k:Int)<(n:Int):=by omega
   have hk0:(0:Int)≤(k:Int):=by omega
   obtain ⟨vb,vo,hA,hvb,hc⟩:=RdI.cellAt (HR.out _ K) hlt
   subst hA
   rw [jcS hlt] at hc
   cases hch:ch k
   ·have HO2:=jpk ((jnX hch).trans HO.out)
    have HC1:=jpk (fun V (h:St w0 L D V)=>by
     have:=HCm.out V h k hlt
     rw [hch] at this
     exact this)
    clear HCm hch
    go_wp2_with (rw [HF.out,Oper.upon_enter];refine (HC1.out _ K).mono ?_;rintro e W1 ⟨rfl,K1⟩)
    go_roundg (n-(k+1))
    case rel=>exact ⟨k+1,o,hlt,rfl,rfl,by go_num,HO2,K1⟩
    case measure=>omega
   ·have HC1:=jpk (fun V (h:St w0 L D V)=>by
     have:=HCm.out V h k hlt
     rw [hch] at this
     exact this)
    clear HCm
    cases o with
    | none =>
     have HO2:=jpk (jmD hch HO.out)
     rw [show ixI none= -1 from rfl]
     clear hch HO
     go_wp2_with (rw [HF.out,Oper.upon_enter];refine (HC1.out _ K).mono ?_;rintro e W1 ⟨rfl,K1⟩)
     go_roundg (n-(k+1))
     case rel=>exact ⟨k+1,some k,hlt,rfl,rfl,by go_num,HO2,K1⟩
     case measure=>omega
    | some i =>
     have hin:i<n:=by have:=(jaB HO.out).1;omega
     have HCi:=jpk (fun V (h:St w0 L D V)=>by
      obtain ⟨vb',vo',hA',hvb',hc'⟩:=RdI.cellAt (HR.out _ h) hin
      cases hA'
      rw [jcS hin] at hc'
      exact hc')
     have hi0:¬(i:Int)<0:=by omega
     have hi1:(0:Int)≤(i:Int):=by omega
     have hi2:(i:Int)<(n:Int):=by omega
     have hi3:decide ((i:Int)<0)=false:=decide_eq_false hi0
     rw [show ixI (some i)=(i:Int) from rfl]
     by_cases hc2:f k<f i
     ·have HO2:=jpk ((jfN hch HO.out).trans (if_pos hc2))
      have hc3:(f k:Int)<(f i:Int):=by omega
      clear hch HO hc2
      go_wp2_with (rw [HF.out,Oper.upon_enter];refine (HC1.out _ K).mono ?_;rintro e W1 ⟨rfl,K1⟩;have hc1:=HCi.out _ K1)
      go_roundg (n-(k+1))
      case rel=>exact ⟨k+1,some k,hlt,rfl,rfl,by go_num,HO2,K1⟩
      case measure=>omega
     ·have HO2:=jpk ((jfN hch HO.out).trans (if_neg hc2))
      have hc3:¬(f k:Int)<(f i:Int):=by omega
      have hc4:decide ((f k:Int)<(f i:Int))=false:=decide_eq_false hc3
      clear hch HO hc2
      go_wp2_with (rw [HF.out,Oper.upon_enter];refine (HC1.out _ K).mono ?_;rintro e W1 ⟨rfl,K1⟩;have hc1:=HCi.out _ K1)
      go_roundg (n-(k+1))
      case rel=>exact ⟨k+1,some i,hlt,rfl,rfl,by go_num,HO2,K1⟩
      case measure=>omega
  ·have e:n=k:=by omega
   subst e
   have HE:=jpk (show Ending.returned (.int .i64 (ixI o))=.returned (.int .i64 (ixI (lstP f ch n)))∧St w0 L D wr from ⟨by rw [HO.out],K⟩)
   clear HO K hlt HCm HR
   go_wp2_with fail
   go_ret
   exact HE.out
def Rw.q (x:Rw):Rat:=ratF x.s x.l x.t x.k
theorem isQ.q {x:Rw} {z:Rat} (h:isQ x z):x.q=z:=h.1.rat
theorem isQ.self {x:Rw} {z:Rat} (h:isQ x z):isQ x x.q:=by rw [h.q];exact h
structure Ln where
 y:Rw
 h:Hd
def Ln.cs (x:Ln):List Value:=[.int .i64 x.y.s,.slice x.y.A x.y.n x.y.c,.int .i64 x.y.t,.slice x.y.B x.y.m x.y.d,.slice x.h.A x.h.n x.h.c]
theorem jbD:jbq 5 Ln.cs:=⟨by omega,fun x=>⟨rfl,by
 intro u hu
 simp [Ln.cs] at hu
 rcases hu with rfl|rfl|rfl|rfl|rfl <;> rfl⟩⟩
abbrev lnF (Y:Nat→Rw) (h:Nat→Hd):Nat→Ln:=fun i=>⟨Y i,h i⟩
theorem jnW {Y:Nat→Rw} {h:Nat→Hd} {i:Nat} (z:Rw):putF (lnF Y h) i ⟨z,h i⟩=lnF (putF Y i z) h:=by
 funext k
 by_cases e:k=i
 ·subst e
  rw [jaf]
  show _=(⟨putF Y k z k,h k⟩:Ln)
  rw [jaf]
 ·rw [jad e]
  show _=(⟨putF Y i z k,h k⟩:Ln)
  rw [jad e]
theorem jnU {n i:Nat} {Y:Nat→Rw} {h:Nat→Hd} {J:List Value} (hi:i<n) (z:Rw):spl (recA Ln.cs n (lnF Y h) J) (i*5) z.cs=recA Ln.cs n (lnF (putF Y i z) h) J:=by
 rw [←jnW,←jg7 jbD hi ⟨z,h i⟩]
 apply Array.ext_getElem?
 intro q
 have hsz:=jd8 (n:=n) (v:=lnF Y h) (J:=J) jbD
 have hin:=jcL (sz:=5) hi
 have l1:z.cs.length=4:=rfl
 have l2:(Ln.cs ⟨z,h i⟩).length=5:=rfl
 rw [jdz _ _ _ _ (by rw [hsz,l1];omega),jdz _ _ _ _ (by rw [hsz,l2];omega),l1,l2]
 by_cases h1:i*5≤q∧q<i*5+4
 ·rw [if_pos h1,if_pos ZO]
  obtain ⟨j,hj⟩:∃j,j=q-i*5:=⟨_,rfl⟩
  rw [←hj]
  have hj4:j<4:=by omega
  match j,hj4 with
  | 0,_=>rfl
  | 1,_=>rfl
  | 2,_=>rfl
  | 3,_=>rfl
 ·rw [if_neg h1]
  by_cases h2:q=i*5+4
  ·subst h2
   rw [if_pos ZO,jcP jbD hi ZO,show i*5+4-i*5=4 by omega]
   rfl
  ·rw [if_neg ZO]
section
variable {P:Program} {ops:Array Oper} {rest:List Oper} {o:Oper} {a:Act} {Q:Exit→Act→World→Prop}
theorem St.storeL {w W:World} {L L':List Blk} {D:List Hl} (K:St w L D W) (hgd:o.guard=none) (hd:o.dst=none) (ty:TypeId) (x y:Operand) (ho:o.op=.store ty x y) (g i N:Nat) {Y:Nat→Rw} {h:Nat→Hd} {J:List Value} {t:TypeId} (z:Rw)
 (hx:a.eval x=.pointer (some ⟨g,i*5,none⟩)) (hy:a.eval y=.agg #[.int .i64 z.s,.slice z.A z.n z.c,.int .i64 z.t,.slice z.B z.m z.d]) (hi:i<N) (hU:Upd g (recA Ln.cs N (lnF Y h) J) t (recA Ln.cs N (lnF (putF Y i z) h) J) L L') (hz:(P.info? ty).map (·.size)=some 4)
 (hk:∀W',St w L' D W'→wpList P ops Q rest a W'):wpList P ops Q (o::rest) a W :=
 K.store (off:=i*5) hgd hd ty x y ho _ hx hy z.cs rfl hU (jnU hi z) hz (by
  rw [jd8 jbD]
  have:=jcL (sz:=5) hi
  show i*5+4≤_
  omega) (fun u hu=>by
  simp [Rw.cs] at hu
  rcases hu with rfl|rfl|rfl|rfl <;> rfl) hk
end
section
variable {w W:World} {L L0:List Blk} {D:List Hl} {n i g:Nat} {Y:Nat→Rw} {h:Nat→Hd} {J:List Value} {t:TypeId}
theorem St.cellL (K:St w L D W) (hi:i<n) (hb:((g,recA Ln.cs n (lnF Y h) J,t):Blk)∈L):(W.cell? ⟨g,i*5,none⟩=some (.int .i64 (Y i).s)∧W.cell? ⟨g,i*5+1,none⟩=some (.slice (Y i).A (Y i).n (Y i).c)∧W.cell? ⟨g,i*5+2,none⟩=some (.int .i64 (Y i).t)∧W.cell? ⟨g,i*5+3,none⟩=some (.slice (Y i).B (Y i).m (Y i).d))∧W.cell? ⟨g,i*5+4,none⟩=some (.slice (h i).A (h i).n (h i).c):=by
 have hB:=K.blk hb
 have c:=fun j hj=>jcP (J:=J) (v:=lnF Y h) jbD hi (j:=j) hj
 exact ⟨⟨hB.cell ((c 0 ZO).trans rfl),hB.cell ((c 1 ZO).trans rfl),hB.cell ((c 2 ZO).trans rfl),hB.cell ((c 3 ZO).trans rfl)⟩,hB.cell ((c 4 ZO).trans rfl)⟩
theorem St.rwRd (K:St w L D W) (hm:(⟨rwP n Y,rwS n Y⟩:Hl)∈D) (hi:i<n):St w L (⟨rdP (Y i).B (Y i).m (Y i).d (Y i).k,rdS (Y i).B (Y i).m⟩::⟨rdP (Y i).A (Y i).n (Y i).c (Y i).l,rdS (Y i).A (Y i).n⟩::D) W:=by
 have hh:=K.okAt hm
 have h1:(⟨rdP (Y i).A (Y i).n (Y i).c (Y i).l,rdS (Y i).A (Y i).n⟩:Hl).ok L W:=⟨(hh.1 i hi).1,fun b hS=>hh.2.1 b ⟨i,hi,Or.inl hS⟩,fun W' g1 g2=>jbg (hh.1 i hi).1 g1 g2⟩
 have h2:(⟨rdP (Y i).B (Y i).m (Y i).d (Y i).k,rdS (Y i).B (Y i).m⟩:Hl).ok L W:=⟨(hh.1 i hi).2,fun b hS=>hh.2.1 b ⟨i,hi,Or.inr hS⟩,fun W' g1 g2=>jbg (hh.1 i hi).2 g1 g2⟩
 exact (K.add h1).add h2
end
def jdj (q N:Nat) (V:Nat→Nat→Rw):Prop:=∀i j,i<q→j<N→isQ (V i j) (V i j).q
def jdE (m:Nat) (Y:Nat→Rw):Prop:=∀i,i<m→isQ (Y i) (Y i).q
theorem jdj.put {q N r k:Nat} {V:Nat→Nat→Rw} {x:Rw} {z:Rat} (h:jdj q N V) (hx:isQ x z):jdj q N (put2 V r k x):=fun i j hi hj=>by
 by_cases e:i=r∧j=k
 ·rw [e.1,e.2,jfm]
  exact hx.self
 ·rw [jc2 V x e]
  exact h i j hi hj
theorem jdE.put {m r:Nat} {Y:Nat→Rw} {x:Rw} {z:Rat} (h:jdE m Y) (hx:isQ x z):jdE m (putF Y r x):=fun i hi=>by
 by_cases e:i=r
 ·rw [e,jaf]
  exact hx.self
 ·rw [jad e]
  exact h i hi
def FulK (b b':Bool) (P:Prop):Prop:=b'=false↔b=false∧P
theorem FulK.step {b b1 b2 k:Bool} {P Q:Prop} (h:FulK b b1 P) (h2:b2=(b1|| !k)) (hk:P→(k=true↔Q)):FulK b b2 (P∧Q):=by
 unfold FulK at *
 subst h2
 cases k
 ·rw [Bool.not_false,Bool.or_true]
  constructor
  ·intro e;cases e
  ·rintro ⟨-,hp,hq⟩
   have:=(hk hp).2 hq
   cases this
 ·rw [Bool.not_true,Bool.or_false,h]
  exact ⟨fun ⟨e,hp⟩=>⟨e,hp,(hk hp).1 rfl⟩,fun ⟨e,hp,_⟩=>⟨e,hp⟩⟩
theorem FulK.congr {b b':Bool} {P Q:Prop} (h:FulK b b' P) (hpq:P↔Q):FulK b b' Q:=by
 unfold FulK at *
 rw [h,hpq]
theorem FulK.trans {b b1 b2:Bool} {P Q:Prop} (h:FulK b b1 P) (h2:FulK b1 b2 Q):FulK b b2 (P∧Q):=by
 unfold FulK at *
 rw [h2,h,and_assoc]
def LpQ (i r s k:Nat) (b b':Bool) (V V':Nat→Nat→Rw):Prop :=
 FulK b b' (∀j,j<k→j≠s→jaP (V i j).q (V i s).q (V r j).q=true)∧(∀l j,¬(l=i∧j<k∧j≠s)→V' l j=V l j)∧∀j,j<k→j≠s→jaP (V i j).q (V i s).q (V r j).q=true→(V' i j).q=(V i j).q-(V i s).q*(V r j).q
theorem LpQ.zero (i r s:Nat) (b:Bool) (V:Nat→Nat→Rw):LpQ i r s 0 b b V V :=
 ⟨⟨fun h=>⟨h,fun j hj=>absurd hj ZO⟩,fun h=>h.1⟩,fun l j _=>rfl,fun j hj=>absurd hj ZO⟩
theorem LpQ.skip {i r s:Nat} {b b':Bool} {V V':Nat→Nat→Rw} (h:LpQ i r s s b b' V V'):LpQ i r s (s+1) b b' V V':=by
 exact ZQ85
theorem LpQ.same {i r s k:Nat} {b b':Bool} {V V':Nat→Nat→Rw} (h:LpQ i r s k b b' V V') (hir:i≠r):V' i k=V i k∧V' r k=V r k∧V' i s=V i s∧V' r s=V r s :=
 ⟨h.2.1 i k ZO,h.2.1 r k ZO,h.2.1 i s ZO,h.2.1 r s ZO⟩
theorem LpQ.step {i r s k:Nat} {b b' b2:Bool} {V V':Nat→Nat→Rw} {x:Rw} {z:Rat} (h:LpQ i r s k b b' V V') (hks:k≠s) (h2:b2=(b'|| !jaP (V i k).q (V i s).q (V r k).q)) (hx:isQ x z) (hz:jaP (V i k).q (V i s).q (V r k).q=true→z=(V i k).q-(V i s).q*(V r k).q):LpQ i r s (k+1) b b2 V (put2 V' i k x):=by
 exact ZQ42
def TkV (N i r s:Nat) (V V':Nat→Nat→Rw):Prop:=(∀l j,l≠i→V' l j=V l j)∧∀j,j<N→jaP (if j=s then 0 else (V i j).q) (V i s).q (V r j).q=true→(V' i j).q=(if j=s then 0 else (V i j).q)-(V i s).q*(V r j).q
def TkF (N i r s:Nat) (V:Nat→Nat→Rw):Prop:=∀j,j<N→jaP (if j=s then 0 else (V i j).q) (V i s).q (V r j).q=true
theorem LpQ.last {i r s N:Nat} {b b' b2:Bool} {V V':Nat→Nat→Rw} {x:Rw} {z:Rat} (h:LpQ i r s N b b' V V') (hs:s<N) (h2:b2=(b'|| !jaP 0 (V i s).q (V r s).q)) (hx:isQ x z) (hz:jaP 0 (V i s).q (V r s).q=true→z=0-(V i s).q*(V r s).q):FulK b b2 (TkF N i r s V)∧TkV N i r s V (put2 V' i s x):=by
 obtain ⟨g1,g2,g3⟩:=h
 refine ⟨(g1.step h2 (fun _=>Iff.rfl)).congr ⟨fun h j hj=>?_,fun h=>⟨fun j hj hne=>?_,?_⟩⟩,fun l j hl=>?_,fun j hj hk=>?_⟩
 ·by_cases e:j=s
  ·rw [if_pos e,e];exact h.2
  ·rw [if_neg e];exact h.1 j hj e
 ·have:=h j hj
  rw [if_neg hne] at this
  exact this
 ·have:=h s hs
  rw [if_pos rfl] at this
  exact this
 ·rw [jc2 V' x (fun e=>hl e.1)]
  exact g2 l j (fun e=>hl e.1)
 ·by_cases e:j=s
  ·rw [if_pos e] at hk ⊢
   rw [e] at hk ⊢
   rw [jfm,hx.q]
   exact hz hk
  ·rw [if_neg e] at hk ⊢
   rw [jc2 V' x (fun h=>e h.2)]
   exact g3 j hj e hk
def DvQ (r s k:Nat) (p:Rat) (b b':Bool) (V V':Nat→Nat→Rw):Prop :=
 FulK b b' (∀j,j<k→j≠s→divK (V r j).q p=true)∧(∀l j,¬(l=r∧j<k∧j≠s)→V' l j=V l j)∧∀j,j<k→j≠s→divK (V r j).q p=true→(V' r j).q=(V r j).q / p
theorem DvQ.zero (r s:Nat) (p:Rat) (b:Bool) (V:Nat→Nat→Rw):DvQ r s 0 p b b V V :=
 ⟨⟨fun h=>⟨h,fun j hj=>absurd hj ZO⟩,fun h=>h.1⟩,fun l j _=>rfl,fun j hj=>absurd hj ZO⟩
theorem DvQ.skip {r s:Nat} {p:Rat} {b b':Bool} {V V':Nat→Nat→Rw} (h:DvQ r s s p b b' V V'):DvQ r s (s+1) p b b' V V':=by
 exact ZQ85
theorem DvQ.step {r s k:Nat} {p:Rat} {b b' b2:Bool} {V V':Nat→Nat→Rw} {x:Rw} {z:Rat} (h:DvQ r s k p b b' V V') (hks:k≠s) (h2:b2=(b'|| !divK (V r k).q p)) (hx:isQ x z) (hz:divK (V r k).q p=true→z=(V r k).q / p):DvQ r s (k+1) p b b2 V (put2 V' r k x):=by
 exact ZQ42
def DvF (N r s:Nat) (p:Rat) (V:Nat→Nat→Rw):Prop:=∀j,j<N→divK (if j=s then 1 else (V r j).q) p=true
def DvV (N r s:Nat) (p:Rat) (V V':Nat→Nat→Rw):Prop:=(∀l j,l≠r→V' l j=V l j)∧∀j,j<N→divK (if j=s then 1 else (V r j).q) p=true→(V' r j).q=(if j=s then 1 else (V r j).q) / p
theorem DvQ.last {r s N:Nat} {p:Rat} {b b' b2:Bool} {V V':Nat→Nat→Rw} {x:Rw} {z:Rat} (h:DvQ r s N p b b' V V') (hs:s<N) (h2:b2=(b'|| !divK 1 p)) (hx:isQ x z) (hz:divK 1 p=true→z=1 / p):FulK b b2 (DvF N r s p V)∧DvV N r s p V (put2 V' r s x):=by
 obtain ⟨g1,g2,g3⟩:=h
 refine ⟨(g1.step h2 (fun _=>Iff.rfl)).congr ⟨fun h j hj=>?_,fun h=>⟨fun j hj hne=>?_,?_⟩⟩,fun l j hl=>?_,fun j hj hk=>?_⟩
 ·by_cases e:j=s
  ·rw [if_pos e];exact h.2
  ·rw [if_neg e];exact h.1 j hj e
 ·have:=h j hj
  rw [if_neg hne] at this
  exact this
 ·have:=h s hs
  rw [if_pos rfl] at this
  exact this
 ·rw [jc2 V' x (fun e=>hl e.1)]
  exact g2 l j (fun e=>hl e.1)
 ·by_cases e:j=s
  ·rw [if_pos e] at hk ⊢
   rw [e,jfm,hx.q]
   exact hz hk
  ·rw [if_neg e] at hk ⊢
   rw [jc2 V' x (fun h=>e h.2)]
   exact g3 j hj e hk
structure Rr where
 A:Option Addr
 n:Nat
 c:Nat
 a:List Fv
 y:Rw
def Rr.cs (x:Rr):List Value:=.slice x.A x.n x.c::x.y.cs
def Rr.rv (x:Rr):Rv:=⟨x.a,x.y.fv⟩
def Rr.on (x:Rr):World→Prop:=fun W=>RdF W W.heap.size x.A x.n x.c x.a∧x.y.on W
theorem jg9:jbq 5 Rr.cs:=⟨by omega,fun x=>⟨rfl,by
 intro u hu
 rcases List.mem_cons.1 hu with rfl|hu
 ·rfl
 ·exact (ja4.2 x.y).2 u hu⟩⟩
def Rr.zero:Rr:=⟨none,0,0,[],Rw.zero⟩
abbrev rrF (n:Nat) (u:Nat→Rr) (S:Nat→Nat→Prop):Hl:=⟨famP (fun i=>i<n) (fun i=>(u i).on) S,famS (fun i=>i<n) S⟩
section
variable {w W W':World} {L L' X:List Blk} {D:List Hl} {n:Nat} {u:Nat→Rr} {S:Nat→Nat→Prop}
theorem St.rrNew (h:St w L D W):St w L (rrF 0 u S::D) W:=h.fam fun i hi=>absurd hi ZO
theorem St.rrAdd (h:St w L D W) (hm:rrF n u S∈D) (y:Rr) (T:Nat→Prop) (hy:(⟨y.on,T⟩:Hl).ok L W):St w L (rrF (n+1) (putF u n y) (putF S n T)::D) W :=
 h.fam fun i hi=>by
  by_cases e:i=n
  ·rw [e,jaf,jaf];exact hy
  ·rw [jad e,jad e];exact h.famAt hm (i:=i) ZO
theorem OwL.rdR {e:TypeId} {val:Value} (h:OwL 5 Rr.cs e val (ofF n u) X) (K:St w (X++L) D W) (hm:rrF n u S∈D) (hn:n≤1000000):∃A cap,val=.slice A n cap∧RdR W W.heap.size A n cap (ofF n fun i=>(u i).rv):=by
 rcases h with ⟨rfl,h0,rfl⟩|⟨g,cap,J,rfl,rfl,h1,h2,h3⟩
 ·have:n=0:=by rw [←jag (n:=n) (f:=u),h0];rfl
  subst this
  exact ⟨none,0,rfl,Rd.nil⟩
 ·rw [jag] at h1 ⊢
  have hB:=K.blk (b:=g) (List.mem_append_left _ (List.mem_singleton.2 rfl))
  refine ⟨_,cap,rfl,jag,h1,⟨by unfold maxLen at h2;exact h2,by omega⟩,fun hn=>⟨g,0,rfl,hB.lt,fun k hk=>?_⟩⟩
  rw [jag] at hk
  refine ⟨(u k).cs,?_,rfl,fun j v hv=>?_⟩
  ·have e:(ofF n fun i=>(u i).rv)[k]'(by rw [jag];exact hk)=(u k).rv:=by
    have:=jaJ (f:=fun i=>(u i).rv) hk
    exact ZQ41
   rw [e]
   have ho:=(K.famAt hm (i:=k) hk).1
   exact ⟨_,_,_,_,rfl,ho.1,_,_,_,_,_,_,rfl,ho.2.1,ho.2.2⟩
  ·have hj:j<5:=(List.getElem?_eq_some_iff.1 hv).1
   rw [Nat.zero_add]
   exact hB.cell ((jcP (J:=J) (v:=u) jg9 hk hj).trans hv)
end
section
variable {w W W':World} {D:List Hl}
def allS (W:World):Nat→Prop:=fun b=>b<W.heap.size
def rowP (x:Rr):World→Prop:=x.on
theorem St.addA (h:St w [] D W) {P:World→Prop} (hP:∀W':World,W.heap.size≤W'.heap.size→(∀b,b<W.heap.size→W'.heap[b]?=W.heap[b]?)→P W'):St w [] (⟨P,allS W⟩::D) W :=
 h.add ⟨hP W (Nat.le_refl _) (fun _ _=>rfl),fun b hb=>⟨hb,fun p hp=>by cases hp⟩,fun W' h1 h2=>hP W' h1 h2⟩
theorem St.addF (h:St w [] D W) {A:Option Addr} {n cap:Nat} {l:List Fv} (hl:RdF W W.heap.size A n cap l):St w [] (⟨rfQ A n cap l,allS W⟩::D) W:=h.addA fun W' h1 h2=>hl.keep jan h1 fun p hp=>jb9 (h2 _ hp)
theorem St.addI (h:St w [] D W) {A:Option Addr} {n cap:Nat} {l:List Int} (hl:RdI W W.heap.size A n cap l):St w [] (⟨rdP A n cap l,allS W⟩::D) W:=h.addA fun W' h1 h2=>hl.keep (jab _) h1 fun p hp=>jb9 (h2 _ hp)
end
theorem r0:rightL 0 []=true:=by decide +kernel
end Go.Proofs.YtgikfcjndiohjaaGreat
