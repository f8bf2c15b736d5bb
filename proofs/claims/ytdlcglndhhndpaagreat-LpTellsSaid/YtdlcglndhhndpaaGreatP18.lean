/- Laws and walks; conditions stand in each theorem. -/
import Derived.BigRegion
import Derived.Maps.RangeWalk
import Derived.Test.YtdlcglndhhndpaaGreatP17
set_option linter.unusedSimpArgs false
set_option linter.unusedVariables false
namespace Go.Proofs.YtdlcglndhhndpaaGreat
open Go.RowKit
theorem ja9:(Tryz.prog.info? 56).map (fun i=>i.zero.map (·.cells))=some (some #[.slice none 0 0,.int .i64 0,.slice none 0 0,.int .i64 0,.slice none 0 0]):=by kernel_rfl
theorem ja8:(Tryz.prog.info? 56).map (·.size)=some 5:=by kernel_rfl
theorem jkY:(Tryz.prog.info? 23).map (fun i=>(i.zero.map (·.cells),i.size,i.bytes))=some (some #[.slice none 0 0],1,24):=by kernel_rfl
theorem jg4 (s t:Int) (A B:Option Addr) (n c m d:Nat) (W:World):(Instr.buildSlice 23 1 #[(0,.agg #[.int .i64 s,.slice A n c,.int .i64 t,.slice B m d])]).run Tryz.prog W=.ok (.slice (some ⟨W.heap.size,0,none⟩) 1 1) (W.alloc (.cells #[.int .i64 s,.slice A n c,.int .i64 t,.slice B m d] 50)):=by kernel_rfl
theorem jkV (A:Option Addr) (n c:Nat) (W:World):(Instr.buildSlice 65 1 #[(0,.slice A n c)]).run Tryz.prog W=.ok (.slice (some ⟨W.heap.size,0,none⟩) 1 1) (W.alloc (.cells #[.slice A n c] 23)):=by kernel_rfl
section
variable {w W W':World} {L L' A B X:List Blk} {D:List Hl}
theorem St.mid {x:Blk} (K:St w (x::(A++B)) D W):St w (A++(x::B)) D W:=K.perm List.perm_middle
theorem St.cutm {x:Blk} (K:St w (A++(x::B)) D W):St w (A++B) D W:=K.part (List.Sublist.append_left (List.sublist_cons_self _ _) _)
end
theorem jjC:(Tryz.prog.info? 65).map (·.size)=some 1:=by kernel_rfl
theorem OwL.shapeL {α:Type} {sz:Nat} {enc:α→List Value} {e:TypeId} {v:Value} {l:List α} {X:List Blk} (h:OwL sz enc e v l X):∃A c,v=.slice A l.length c:=by
 rcases h with ⟨rfl,rfl,_⟩|⟨g,cap,J,rfl,_⟩
 ·exact ⟨_,_,rfl⟩
 ·exact ⟨_,_,rfl⟩
structure Dc where
 v:Nat→Rat
 a:Nat→Nat→Rat
 c:Nat→Rat
 own:Nat→Nat
 free:Nat→Nat
def Dc.xch (D:Dc) (r s:Nat):Dc :=
 ⟨fun i=>if i=r then D.v r / D.a r s else D.v i-D.a i s*(D.v r / D.a r s),
  fun i j=>if i=r then (if j=s then 1 / D.a r s else D.a r j / D.a r s) else (if j=s then 0-D.a i s*(1 / D.a r s) else D.a i j-D.a i s*(D.a r j / D.a r s)),
  fun j=>if j=s then 0-D.c s*(1 / D.a r s) else D.c j-D.c s*(D.a r j / D.a r s),
  fun i=>if i=r then D.free s else D.own i,
  fun j=>if j=s then D.own r else D.free j⟩
structure Dc.Ok (m n:Nat) (D:Dc):Prop where
 lo:∀i,i<m→D.own i<n+m
 lf:∀j,j<n→D.free j<n+m
 io:∀i k,i<m→k<m→D.own i=D.own k→i=k
 jf:∀j k,j<n→k<n→D.free j=D.free k→j=k
 ne:∀i j,i<m→j<n→D.own i≠D.free j
 all:∀u,u<n+m→(∃i,i<m∧D.own i=u)∨(∃j,j<n∧D.free j=u)
theorem Dc.Ok.xch {m n r s:Nat} {D:Dc} (h:D.Ok m n) (hr:r<m) (hs:s<n):(D.xch r s).Ok m n:=by
 refine ⟨fun i hi=>?_,fun j hj=>?_,fun i k hi hk e=>?_,fun j k hj hk e=>?_,fun i j hi hj e=>?_,fun u hu=>?_⟩
 ·show (if i=r then D.free s else D.own i)<n+m
  split
  ·exact h.lf s hs
  ·exact h.lo i hi
 ·show (if j=s then D.own r else D.free j)<n+m
  split
  ·exact h.lo r hr
  ·exact h.lf j hj
 ·change (if i=r then D.free s else D.own i)=(if k=r then D.free s else D.own k) at e
  by_cases e1:i=r
  ·by_cases e2:k=r
   ·omega
   ·rw [if_pos e1,if_neg e2] at e;exact absurd e.symm (h.ne k s hk hs)
  ·by_cases e2:k=r
   ·rw [if_neg e1,if_pos e2] at e;exact absurd e (h.ne i s hi hs)
   ·rw [if_neg e1,if_neg e2] at e;exact h.io i k hi hk e
 ·change (if j=s then D.own r else D.free j)=(if k=s then D.own r else D.free k) at e
  by_cases e1:j=s
  ·by_cases e2:k=s
   ·omega
   ·rw [if_pos e1,if_neg e2] at e;exact absurd e (h.ne r k hr hk)
  ·by_cases e2:k=s
   ·rw [if_neg e1,if_pos e2] at e;exact absurd e.symm (h.ne r j hr hj)
   ·rw [if_neg e1,if_neg e2] at e;exact h.jf j k hj hk e
 ·change (if i=r then D.free s else D.own i)=(if j=s then D.own r else D.free j) at e
  by_cases e1:i=r
  ·by_cases e2:j=s
   ·rw [if_pos e1,if_pos e2] at e;exact absurd e.symm (h.ne r s hr hs)
   ·rw [if_pos e1,if_neg e2] at e;exact e2 (h.jf j s hj hs e.symm)
  ·by_cases e2:j=s
   ·rw [if_neg e1,if_pos e2] at e;exact e1 (h.io i r hi hr e)
   ·rw [if_neg e1,if_neg e2] at e;exact h.ne i j hi hj e
 ·rcases h.all u hu with ⟨i,hi,e⟩|⟨j,hj,e⟩
  ·by_cases e1:i=r
   ·exact Or.inr ⟨s,hs,by show (if s=s then D.own r else D.free s)=u;rw [if_pos rfl,←e1];exact e⟩
   ·exact Or.inl ⟨i,hi,by show (if i=r then D.free s else D.own i)=u;rw [if_neg e1];exact e⟩
  ·by_cases e1:j=s
   ·exact Or.inl ⟨r,hr,by show (if r=r then D.free s else D.own r)=u;rw [if_pos rfl,←e1];exact e⟩
   ·exact Or.inr ⟨j,hj,by show (if j=s then D.own r else D.free j)=u;rw [if_neg e1];exact e⟩
def Dc.on (m n:Nat) (D:Dc) (x:Nat→Rat) (f:Rat):Prop:=∀i,i<m→x (D.own i)=D.v i*f-smQ (fun j=>D.a i j*x (D.free j)) n
def Dc.gol (n:Nat) (D:Dc) (x:Nat→Rat):Rat:=smQ (fun j=>D.c j*x (D.free j)) n
theorem jdq (t:Rat) (f:Nat→Rat):∀n:Nat,smQ (fun i=>f i*t) n=smQ f n*t
 | 0=>by rw [smQ,smQ];grind
 | n+1=>by rw [smQ,smQ,jdq t f n];grind
theorem jgU {n s:Nat} (hs:s<n) (l b y:Nat→Rat) (p Y:Rat) (hp:b s=p) (h0:p≠0) :
 smQ (fun j=>(if j=s then 0-l s*(1 / p) else l j-l s*(b j / p))*(if j=s then Y else y j)) n=smQ (fun j=>l j*y j) n-l s / p*(smQ (fun j=>b j*y j) n+Y):=by
 have e1:smQ (fun j=>(l j-l s*(b j / p))*y j) n=smQ (fun j=>l j*y j) n-l s / p*smQ (fun j=>b j*y j) n:=by
  have e2:smQ (fun j=>(l j-l s*(b j / p))*y j) n=smQ (fun j=>l j*y j-(b j*y j)*(l s / p)) n:=ja1 fun j _=>by grind
  rw [e2,jjE,jdq]
  grind
 rw [jfj (f:=fun j=>(l j-l s*(b j / p))*y j) (b:=s) (c:= - (l s / p)*Y) hs (by
  rw [if_pos rfl,if_pos rfl,hp]
  grind) (fun i _ hne=>by rw [if_neg hne,if_neg hne]),e1]
 grind
theorem line_r {n s:Nat} (hs:s<n) (b y:Nat→Rat) (p Y:Rat) (hp:b s=p) (h0:p≠0) :
 smQ (fun j=>(if j=s then 1 / p else b j / p)*(if j=s then Y else y j)) n=(smQ (fun j=>b j*y j) n+Y) / p-y s:=by
 have e1:smQ (fun j=>b j / p*y j) n=smQ (fun j=>b j*y j) n / p:=by
  have e2:smQ (fun j=>b j / p*y j) n=smQ (fun j=>(b j*y j)*(1 / p)) n:=ja1 fun j _=>by grind
  rw [e2,jdq]
  grind
 rw [jfj (f:=fun j=>b j / p*y j) (b:=s) (c:=Y / p-y s) hs (by
  rw [if_pos rfl,if_pos rfl,hp]
  grind) (fun i _ hne=>by rw [if_neg hne,if_neg hne]),e1]
 grind
theorem Dc.on_xch {m n r s:Nat} {D:Dc} (hr:r<m) (hs:s<n) (h0:D.a r s≠0) (x:Nat→Rat) (f:Rat):(D.xch r s).on m n x f↔D.on m n x f:=by
 have eR:smQ (fun j=>(D.xch r s).a r j*x ((D.xch r s).free j)) n=(smQ (fun j=>D.a r j*x (D.free j)) n+x (D.own r)) / D.a r s-x (D.free s):=by
  rw [←line_r hs (fun j=>D.a r j) (fun j=>x (D.free j)) (D.a r s) (x (D.own r)) rfl h0];refine ja1 fun j _=>?_
  show (if r=r then (if j=s then 1 / D.a r s else D.a r j / D.a r s) else _)*x (if j=s then D.own r else D.free j)=_;rw [if_pos rfl,apply_ite x]
 have eI:∀i,i≠r→smQ (fun j=>(D.xch r s).a i j*x ((D.xch r s).free j)) n=smQ (fun j=>D.a i j*x (D.free j)) n-D.a i s / D.a r s*(smQ (fun j=>D.a r j*x (D.free j)) n+x (D.own r)):=fun i hi=>by
  rw [←jgU hs (fun j=>D.a i j) (fun j=>D.a r j) (fun j=>x (D.free j)) (D.a r s) (x (D.own r)) rfl h0];refine ja1 fun j _=>?_
  show (if i=r then _ else (if j=s then 0-D.a i s*(1 / D.a r s) else D.a i j-D.a i s*(D.a r j / D.a r s)))*x (if j=s then D.own r else D.free j)=_;rw [if_neg hi,apply_ite x]
 have oR:(D.xch r s).own r=D.free s:=if_pos rfl;have oI:∀i,i≠r→(D.xch r s).own i=D.own i:=fun i hi=>if_neg hi
 have vR:(D.xch r s).v r=D.v r / D.a r s:=if_pos rfl;have vI:∀i,i≠r→(D.xch r s).v i=D.v i-D.a i s*(D.v r / D.a r s):=fun i hi=>if_neg hi
 constructor
 ·intro h i hi;have h1:=h r hr;rw [oR,vR,eR] at h1;have h2:x (D.own r)=D.v r*f-smQ (fun j=>D.a r j*x (D.free j)) n:=by grind
  by_cases e:i=r
  ·rw [e];exact h2
  ·have h3:=h i hi;rw [oI i e,vI i e,eI i e] at h3
   grind
 ·intro h i hi;have h2:=h r hr;by_cases e:i=r
  ·rw [e,oR,vR,eR]
   grind
  ·have h3:=h i hi;rw [oI i e,vI i e,eI i e]
   grind
theorem Dc.gol_xch {m n r s:Nat} {D:Dc} (hr:r<m) (hs:s<n) (h0:D.a r s≠0) {x:Nat→Rat} {f:Rat} (h:D.on m n x f):D.gol n x=(D.xch r s).gol n x+D.c s*(D.v r / D.a r s)*f:=by
 have e:(D.xch r s).gol n x=smQ (fun j=>D.c j*x (D.free j)) n-D.c s / D.a r s*(smQ (fun j=>D.a r j*x (D.free j)) n+x (D.own r)):=by
  rw [←jgU hs (fun j=>D.c j) (fun j=>D.a r j) (fun j=>x (D.free j)) (D.a r s) (x (D.own r)) rfl h0];refine ja1 fun j _=>?_
  show (if j=s then 0-D.c s*(1 / D.a r s) else D.c j-D.c s*(D.a r j / D.a r s))*x (if j=s then D.own r else D.free j)=_;rw [apply_ite x]
 have h1:=h r hr;unfold Dc.gol at e ⊢;rw [e]
 grind
structure Dc.Like (m n:Nat) (D D':Dc):Prop where
 on:∀x f,D.on m n x f↔D'.on m n x f
 gol:∃κ:Rat,∀x f,D.on m n x f→D.gol n x=D'.gol n x+κ*f
theorem Dc.Like.refl (m n:Nat) (D:Dc):D.Like m n D:=⟨fun _ _=>Iff.rfl,0,fun x f _=>by grind⟩
theorem Dc.Like.trans {m n:Nat} {D D' D'':Dc} (h:D.Like m n D') (h':D'.Like m n D''):D.Like m n D'':=by
 obtain ⟨k,hk⟩:=h.gol;obtain ⟨k',hk'⟩:=h'.gol
 exact ⟨fun x f=>(h.on x f).trans (h'.on x f),k+k',fun x f hx=>by
  rw [hk x f hx,hk' x f ((h.on x f).1 hx)]
  grind⟩
theorem Dc.Like.symm {m n:Nat} {D D':Dc} (h:D.Like m n D'):D'.Like m n D:=by
 obtain ⟨k,hk⟩:=h.gol
 exact ⟨fun x f=>(h.on x f).symm,-k,fun x f hx=>by
  rw [hk x f ((h.on x f).2 hx)]
  grind⟩
theorem Dc.like_xch {m n r s:Nat} {D:Dc} (hr:r<m) (hs:s<n) (h0:D.a r s≠0):D.Like m n (D.xch r s) :=
 ⟨fun x f=>(Dc.on_xch hr hs h0 x f).symm,D.c s*(D.v r / D.a r s),fun x f h=>Dc.gol_xch hr hs h0 h⟩
theorem Dc.Ok.vals {m n:Nat} {D:Dc} (h:D.Ok m n) (α β:Nat→Rat):∃x:Nat→Rat,(∀i,i<m→x (D.own i)=α i)∧(∀j,j<n→x (D.free j)=β j):=by
 classical
 refine ⟨fun u=>if hu:∃i,i<m∧D.own i=u then α hu.choose else if hv:∃j,j<n∧D.free j=u then β hv.choose else 0,fun i hi=>?_,fun j hj=>?_⟩
 ·have hu:∃k,k<m∧D.own k=D.own i:=⟨i,hi,rfl⟩;show (if hu:∃k,k<m∧D.own k=D.own i then α hu.choose else _)=_;rw [dif_pos hu];have:=hu.choose_spec;rw [h.io _ _ this.1 hi this.2]
 ·have hn:¬∃k,k<m∧D.own k=D.free j:=fun ⟨k,hk,e⟩=>h.ne k j hk hj e
  have hv:∃k,k<n∧D.free k=D.free j:=⟨j,hj,rfl⟩;show (if hu:∃k,k<m∧D.own k=D.free j then α hu.choose else if hv:∃k,k<n∧D.free k=D.free j then β hv.choose else 0)=_;rw [dif_neg hn,dif_pos hv];have:=hv.choose_spec;rw [h.jf _ _ this.1 hj this.2]
theorem jcY {f:Nat→Rat} {n:Nat} (h:∀i,i<n→f i=0):smQ f n=0:=by
 rw [ja1 h]
 have:∀n:Nat,smQ (fun _=>(0:Rat)) n=0:=fun n=>by
  induction n with
  | zero=>rw [smQ]
  | succ n ih=>rw [smQ,ih];grind
 exact this n
theorem Dc.Ok.basic {m n:Nat} {D:Dc} (h:D.Ok m n):∃x:Nat→Rat,D.on m n x 1∧(∀i,i<m→x (D.own i)=D.v i)∧(∀j,j<n→x (D.free j)=0):=by
 obtain ⟨x,h1,h2⟩:=h.vals D.v (fun _=>0);refine ⟨x,fun i hi=>?_,h1,h2⟩;rw [h1 i hi,jcY (fun j hj=>by rw [h2 j hj];grind)]
 grind
theorem Dc.Ok.ray {m n s:Nat} {D:Dc} (h:D.Ok m n) (hs:s<n):∃x:Nat→Rat,D.on m n x 0∧(∀i,i<m→x (D.own i)= -(D.a i s))∧x (D.free s)=1∧(∀j,j<n→j≠s→x (D.free j)=0)∧D.gol n x=D.c s:=by
 obtain ⟨x,h1,h2⟩:=h.vals (fun i=> -(D.a i s)) (fun j=>if j=s then 1 else 0);have hx:x (D.free s)=1:=by rw [h2 s hs,if_pos rfl]
 have hz:∀j,j<n→j≠s→x (D.free j)=0:=fun j hj hne=>by rw [h2 j hj,if_neg hne]
 have one:∀l:Nat→Rat,smQ (fun j=>l j*x (D.free j)) n=l s:=fun l=>by
  rw [jfj (f:=fun _=>0) (b:=s) (c:=l s) hs (by rw [hx];grind) (fun j hj hne=>by rw [hz j hj hne];grind),jcY (fun _ _=>rfl)]
  grind
 refine ⟨x,fun i hi=>?_,h1,hx,hz,one D.c⟩;rw [h1 i hi,one (D.a i)]
 grind
def lstP (vars:Nat→Nat) (ch:Nat→Bool):Nat→Option Nat
 | 0=>none
 | k+1=>match lstP vars ch k with
  | none=>if ch k=true then some k else none
  | some i=>if ch k=true∧vars k<vars i then some k else some i
theorem jd6 (vars:Nat→Nat) (ch:Nat→Bool):∀n:Nat,(lstP vars ch n=none∧∀i,i<n→ch i=false)∨(∃i,lstP vars ch n=some i∧i<n∧ch i=true∧∀k,k<n→ch k=true→vars i≤vars k)
 | 0=>Or.inl ⟨rfl,fun i hi=>absurd hi ZO⟩
 | n+1=>by
  rw [lstP];rcases jd6 vars ch n with ⟨h1,h2⟩|⟨i,h1,h2,h3,h4⟩
  ·rw [h1];cases hc:ch n
   ·exact Or.inl ⟨by simp,fun i hi=>by
     by_cases e:i=n
     ·rw [e];exact hc
     ·exact h2 i ZO⟩
   ·refine Or.inr ⟨n,by simp,by omega,hc,fun k hk hck=>?_⟩;by_cases e:k=n
    ·rw [e];exact Nat.le_refl _
    ·rw [h2 k ZO] at hck;cases hck
  ·rw [h1];simp only;by_cases hc:ch n=true∧vars n<vars i
   ·rw [if_pos hc];refine Or.inr ⟨n,rfl,by omega,hc.1,fun k hk hck=>?_⟩;by_cases e:k=n
    ·rw [e];exact Nat.le_refl _
    ·have:=h4 k ZO hck;omega
   ·rw [if_neg hc];refine Or.inr ⟨i,rfl,by omega,h3,fun k hk hck=>?_⟩;by_cases e:k=n
    ·subst e;apply Nat.le_of_not_lt;intro hl;exact hc ⟨hck,hl⟩
    ·exact h4 k ZO hck
theorem jdj {vars:Nat→Nat} {ch:Nat→Bool} {n:Nat} (h:lstP vars ch n=none):∀i,i<n→ch i=false:=by
 rcases jd6 vars ch n with ⟨_,h2⟩|⟨i,h1,_⟩
 ·exact h2
 ·rw [h] at h1;cases h1
theorem jar {vars:Nat→Nat} {ch:Nat→Bool} {n i:Nat} (h:lstP vars ch n=some i):i<n∧ch i=true∧∀k,k<n→ch k=true→vars i≤vars k:=by
 rcases jd6 vars ch n with ⟨h1,_⟩|⟨k,h1,h2⟩
 ·rw [h] at h1;cases h1
 ·rw [h] at h1;rw [Option.some.inj h1];exact h2
inductive Nxt
 | best
 | contra (r:Nat)
 | endless (s:Nat)
 | swap (r s:Nat)
def Dc.negR (D:Dc) (i:Nat):Bool:=decide (D.v i<0)
def Dc.posC (D:Dc) (j:Nat):Bool:=decide (0<D.c j)
def Dc.negA (D:Dc) (r j:Nat):Bool:=decide (D.a r j<0)
def Dc.posA (D:Dc) (s i:Nat):Bool:=decide (0<D.a i s)
def Dc.rowP (n:Nat) (D:Dc) (r:Nat):Nxt:=match lstP D.free (D.negA r) n with
 | none=>.contra r
 | some s=>.swap r s
def Dc.colP (m:Nat) (D:Dc) (s:Nat):Nxt:=match lstP D.own (D.posA s) m with
 | none=>.endless s
 | some r=>.swap r s
def Dc.pick (m n:Nat) (D:Dc):Nxt:=match lstP D.own D.negR m,lstP D.free D.posC n with
 | none,none=>.best
 | some r,none=>D.rowP n r
 | none,some s=>D.colP m s
 | some r,some s=>if D.own r<D.free s then D.rowP n r else D.colP m s
theorem Dc.rowP_swap {n r r' s:Nat} {D:Dc} (h:D.rowP n r=.swap r' s):r'=r∧s<n∧D.a r s<0∧∀j,j<n→D.free j<D.free s→0≤D.a r j:=by
 unfold Dc.rowP at h
 split at h
 ·cases h
 ·rename_i s' hs
  cases h;obtain ⟨h1,h2,h3⟩:=jar hs;refine ⟨rfl,h1,of_decide_eq_true h2,fun j hj hlt=>Rat.not_lt.1 fun hn=>?_⟩;have:=h3 j hj (decide_eq_true hn);omega
theorem Dc.colP_swap {m r s s':Nat} {D:Dc} (h:D.colP m s=.swap r s'):s'=s∧r<m∧0<D.a r s∧∀i,i<m→D.own i<D.own r→D.a i s≤0:=by
 unfold Dc.colP at h
 split at h
 ·cases h
 ·rename_i r' hs
  cases h;obtain ⟨h1,h2,h3⟩:=jar hs;refine ⟨rfl,h1,of_decide_eq_true h2,fun i hi hlt=>Rat.not_lt.1 fun hn=>?_⟩;have:=h3 i hi (decide_eq_true hn);omega
def Dc.RowFirst (m n:Nat) (D:Dc) (r s:Nat):Prop:=D.v r<0∧D.a r s<0∧(∀j,j<n→D.free j<D.free s→0≤D.a r j)∧(∀i,i<m→D.own i<D.own r→0≤D.v i)∧(∀j,j<n→D.free j<D.own r→D.c j≤0)
def Dc.ColFirst (m n:Nat) (D:Dc) (r s:Nat):Prop:=0<D.c s∧0<D.a r s∧(∀i,i<m→D.own i<D.own r→D.a i s≤0)∧(∀i,i<m→D.own i<D.free s→0≤D.v i)∧(∀j,j<n→D.free j<D.free s→D.c j≤0)
theorem Dc.pick_swap {m n r s:Nat} {D:Dc} (hD:D.Ok m n) (h:D.pick m n=.swap r s):r<m∧s<n∧(D.RowFirst m n r s∨D.ColFirst m n r s):=by
 unfold Dc.pick at h
 have rowN:∀ {i:Nat} {r:Nat},lstP D.own D.negR m=some r→i<m→D.own i<D.own r→0≤D.v i:=fun {i r} hr hi hlt=>Rat.not_lt.1 fun hn=>by
  have:=(jar hr).2.2 i hi (decide_eq_true hn);omega
 have colN:∀ {j:Nat} {s:Nat},lstP D.free D.posC n=some s→j<n→D.free j<D.free s→D.c j≤0:=fun {j s} hs hj hlt=>Rat.not_lt.1 fun hn=>by
  have:=(jar hs).2.2 j hj (decide_eq_true hn);omega
 have rowA:lstP D.own D.negR m=none→∀i,i<m→0≤D.v i:=fun hr i hi=>Rat.not_lt.1 fun hn=>by
  have:=jdj hr i hi;rw [Dc.negR,decide_eq_true hn] at this;cases this
 have colA:lstP D.free D.posC n=none→∀j,j<n→D.c j≤0:=fun hs j hj=>Rat.not_lt.1 fun hn=>by
  have:=jdj hs j hj;rw [Dc.posC,decide_eq_true hn] at this;cases this
 split at h
 ·cases h
 ·rename_i r0 hr hs
  obtain ⟨e,h1,h2,h3⟩:=Dc.rowP_swap h;subst e;exact ⟨(jar hr).1,h1,Or.inl ⟨of_decide_eq_true (jar hr).2.1,h2,h3,fun i hi hl=>rowN hr hi hl,fun j hj _=>colA hs j hj⟩⟩
 ·rename_i s0 hr hs
  obtain ⟨e,h1,h2,h3⟩:=Dc.colP_swap h;subst e;exact ⟨h1,(jar hs).1,Or.inr ⟨of_decide_eq_true (jar hs).2.1,h2,h3,fun i hi _=>rowA hr i hi,fun j hj hl=>colN hs hj hl⟩⟩
 ·rename_i r0 s0 hr hs
  by_cases hlt:D.own r0<D.free s0
  ·rw [if_pos hlt] at h;obtain ⟨e,h1,h2,h3⟩:=Dc.rowP_swap h;subst e;exact ⟨(jar hr).1,h1,Or.inl ⟨of_decide_eq_true (jar hr).2.1,h2,h3,fun i hi hl=>rowN hr hi hl,fun j hj hl=>colN hs hj ZO⟩⟩
  ·rw [if_neg hlt] at h;obtain ⟨e,h1,h2,h3⟩:=Dc.colP_swap h;subst e;refine ⟨h1,(jar hs).1,Or.inr ⟨of_decide_eq_true (jar hs).2.1,h2,h3,fun i hi hl=>rowN hr hi ZO,fun j hj hl=>colN hs hj hl⟩⟩
theorem Dc.cross {m n q r s r' s':Nat} {D D':Dc} (hD:D.Ok m n) (hD':D'.Ok m n) (hl:D.Like m n D') (hr:r<m) (hs:s<n) (hr':r'<m) (hs':s'<n)
 (e:D.free s=q) (e':D'.own r'=q) (hlt:D.own r<q) (hlt':D'.free s'<q) (hbig:∀j,j<n→q<D.free j→∃k,k<n∧D'.free k=D.free j) (hbig':∀j,j<n→q<D'.free j→∃k,k<n∧D.free k=D'.free j)
 (h:D.RowFirst m n r s∨D.ColFirst m n r s) (h':D'.RowFirst m n r' s'∨D'.ColFirst m n r' s'):False:=by
 have hq':∀j,j<n→D'.free j≠q:=fun j hj e2=>hD'.ne r' j hr' hj (by rw [e',e2])
 have hqD:∀i,i<m→D.own i≠q:=fun i hi e2=>hD.ne i s hi hs (by rw [e,e2])
 have key:∀(l y:Nat→Rat),(∀j,j<n→D.free j<q→0≤l j*y (D.free j))→0<l s*y q→(∀j,j<n→q<D.free j→y (D.free j)=0)→0<smQ (fun j=>l j*y (D.free j)) n:=fun l y h1 h2 h3=>by
  have:=jmj (f:=fun _=>(0:Rat)) (g:=fun j=>l j*y (D.free j)) (n:=n) (fun j hj=>by
   rcases Nat.lt_trichotomy (D.free j) q with g|g|g
   ·exact h1 j hj g
   ·have:j=s:=hD.jf j s hj hs (by rw [g,e]);rw [this,e];exact Rat.le_of_lt h2
   ·rw [h3 j hj g];grind) ⟨s,hs,by rw [e];exact h2⟩
  rw [jcY (fun _ _=>rfl)] at this;exact this
 have kindC:D'.RowFirst m n r' s'→∃y:Nat→Rat,D'.on m n y 1∧(∀u,u<q→0≤y u)∧y q<0∧(∀j,j<n→q<D.free j→y (D.free j)=0)∧(∀j,j<n→y (D'.free j)=0):=fun ⟨g1,g2,g3,g4,g5⟩=>by
  obtain ⟨y,y1,y2,y3⟩:=hD'.basic;refine ⟨y,y1,fun u hu=>?_,by rw [←e',y2 r' hr'];exact g1,fun j hj hlt=>?_,y3⟩
  ·rcases hD'.all u (by have:=hD'.lo r' hr';omega) with ⟨i,hi,ei⟩|⟨j,hj,ej⟩
   ·rw [←ei,y2 i hi];exact g4 i hi ZO
   ·rw [←ej,y3 j hj];exact Rat.le_refl
  ·obtain ⟨k,hk,ek⟩:=hbig j hj hlt;rw [←ek];exact y3 k hk
 have kindD:D'.ColFirst m n r' s'→∃y:Nat→Rat,D'.on m n y 0∧(∀u,u<q→0≤y u)∧y q<0∧(∀j,j<n→q<D.free j→y (D.free j)=0)∧0<D'.gol n y:=fun ⟨g1,g2,g3,g4,g5⟩=>by
  obtain ⟨y,y1,y2,y3,y4,y5⟩:=hD'.ray hs';refine ⟨y,y1,fun u hu=>?_,by rw [←e',y2 r' hr'];grind,fun j hj hlt=>?_,by rw [y5];exact g1⟩
  ·rcases hD'.all u (by have:=hD'.lo r' hr';omega) with ⟨i,hi,ei⟩|⟨j,hj,ej⟩
   ·rw [←ei,y2 i hi];have:=g3 i hi ZO
    grind
   ·by_cases ejs:j=s'
    ·rw [←ej,ejs,y3];decide
    ·rw [←ej,y4 j hj ejs];exact Rat.le_refl
  ·obtain ⟨k,hk,ek⟩:=hbig j hj hlt;rw [←ek];exact y4 k hk (fun e3=>by rw [e3] at ek;omega)
 have negkey:∀(l y:Nat→Rat),(∀j,j<n→D.free j<q→l j≤0)→0<l s→(∀u,u<q→0≤y u)→y q<0→(∀j,j<n→q<D.free j→y (D.free j)=0)→smQ (fun j=>l j*y (D.free j)) n<0:=fun l y h1 h2 h3 h4 h5=>by
  have:=key (fun j=> -(l j)) y (fun j hj hl=>Rat.mul_nonneg (by have:=h1 j hj hl;grind) (h3 _ hl)) (by
   have:=Rat.mul_pos h2 (show 0< - y q by grind)
   grind) h5
  have e2:smQ (fun j=> -(l j)*y (D.free j)) n=smQ (fun j=>(l j*y (D.free j))*(-1)) n:=ja1 fun j _=>by grind
  rw [e2,jdq] at this
  grind
 rcases h with ⟨a1,a2,a3,a4,a5⟩|⟨a1,a2,a3,a4,a5⟩
 ·
  have fin:∀(y:Nat→Rat) (f:Rat),0≤f→D.on m n y f→(∀u,u<q→0≤y u)→y q<0→(∀j,j<n→q<D.free j→y (D.free j)=0)→False:=fun y f hf h1 h2 h3 h4=>by
   have g1:=h1 r hr
   have g2:=key (D.a r) y (fun j hj hl=>Rat.mul_nonneg (a3 j hj (by rw [e];exact hl)) (h2 _ hl)) (by
    have:=Rat.mul_pos (show 0< -(D.a r s) by grind) (show 0< - y q by grind)
    grind) h4
   have g3:=h2 _ hlt;have g4:=Rat.mul_nonneg (show 0≤ -(D.v r) by grind) hf
   grind
  rcases h' with h' | h'
  ·obtain ⟨y,y1,y2,y3,y4,-⟩:=kindC h';exact fin y 1 Zb4 ((hl.on y 1).2 y1) y2 y3 y4
  ·obtain ⟨y,y1,y2,y3,y4,-⟩:=kindD h';exact fin y 0 Zb4 ((hl.on y 0).2 y1) y2 y3 y4
 ·obtain ⟨κ,hκ⟩:=hl.gol;have hc:∀j,j<n→D.free j<q→D.c j≤0:=fun j hj hl=>a5 j hj (by rw [e];exact hl)
  rcases h' with h' | h'
  ·obtain ⟨y,y1,y2,y3,y4,y5⟩:=kindC h';have g1:=negkey D.c y hc a1 y2 y3 y4;have g2:=hκ y 1 ((hl.on y 1).2 y1);have g3:D'.gol n y=0:=jcY (fun j hj=>by rw [y5 j hj];grind);obtain ⟨b1,b2,b3,b4,b5⟩:=h';obtain ⟨x,x1,x2,x3⟩:=hD.basic;have k1:=hκ x 1 x1;have k2:D.gol n x=0:=jcY (fun j hj=>by rw [x3 j hj];grind)
   have k3:D'.gol n x≤0:=by
    have:=jjD (f:=fun j=>D'.c j*x (D'.free j)) (g:=fun _=>(0:Rat)) (n:=n) (fun j hj=>by
     rcases Nat.lt_trichotomy (D'.free j) q with g|g|g
     ·have h1:0≤x (D'.free j):=by
       rcases hD.all (D'.free j) (hD'.lf j hj) with ⟨i,hi,ei⟩|⟨k,hk,ek⟩
       ·rw [←ei,x2 i hi];exact a4 i hi ZO
       ·rw [←ek,x3 k hk];exact Rat.le_refl
      have:=Rat.mul_nonneg (show 0≤ -(D'.c j) by have:=b5 j hj ZO;grind) h1
      grind
     ·exact absurd g (hq' j hj)
     ·obtain ⟨k,hk,ek⟩:=hbig' j hj g;rw [←ek,x3 k hk]
      grind)
    rw [jcY (n:=n) (f:=fun _=>(0:Rat)) (fun _ _=>rfl)] at this;exact this
   have g4:D.gol n y<0:=g1
   grind
  ·obtain ⟨y,y1,y2,y3,y4,y5⟩:=kindD h';have g1:D.gol n y<0:=negkey D.c y hc a1 y2 y3 y4;have g2:=hκ y 0 ((hl.on y 0).2 y1)
   grind
structure Rr where
 A:Option Addr
 n:Nat
 c:Nat
 a:List Fv
 y:Rw
def Rr.cs (x:Rr):List Value:=.slice x.A x.n x.c::x.y.cs
def Rr.rv (x:Rr):Rv:=⟨x.a,x.y.fv⟩
def Rr.on (x:Rr):World→Prop:=fun W=>RdF W W.heap.size x.A x.n x.c x.a∧x.y.on W
theorem jkU:jbs 5 Rr.cs:=⟨by omega,fun x=>⟨rfl,by
 intro u hu;rcases List.mem_cons.1 hu with rfl|hu
 ·rfl
 ·exact (jax.2 x.y).2 u hu⟩⟩
def Rr.zero:Rr:=⟨none,0,0,[],Rw.zero⟩
section
variable {w W W':World} {L L' X:List Blk} {D:List Hl} {n:Nat} {u:Nat→Rr} {S:Nat→Nat→Prop}
end
section
variable {P:Program} {o:Oper} {a:Act} {KK:Act→World→Prop} {Q:Exit→Act→World→Prop} {w W:World} {L L' X:List Blk} {D:List Hl}
theorem St.appWOp {α:Type} {sz:Nat} {enc:α→List Value} {e:TypeId} {v:Value} {l:List α} (K:St w (X++L) D W) (ho:OwL sz enc e v l X) (hs:jbs sz enc) (s x:Operand) (t:TypeId)
 (hop:o.op=.call { callee:=.builtin .append,args:=#[s,x],argTypes:=#[t,t] }) (z:Array Value) (bytes:Nat) (ht:P.underlying t=some (.slice e)) (hi:(P.info? e).map (fun i=>(i.zero.map (·.cells),i.size,i.bytes))=some (some z,sz,bytes)) (hz:z.size=sz)
 (hv:a.eval s=v) (A:Option Addr) (n cap:Nat) (l2:List α) (hx:a.eval x=.slice A n cap) (hr:Rd sz (flat enc) W W.heap.size A n cap l2) (hlen:l.length+n≤1000000) (hbb:bytes≤1000)
 (h:∀v' X' W',OwL sz enc e v' (l++l2) X'→St w (X'++L) D W'→KK (a.put o.dst v') W'):o.wp P a W KK Q:=by
 obtain ⟨i,h1,h2⟩:=Option.map_eq_some_iff.1 hi;simp only [Prod.mk.injEq] at h2;obtain ⟨h2,h3,h4⟩:=h2;obtain ⟨zv,h5,h6⟩:=Option.map_eq_some_iff.1 h2;have hbyt:(l.length+n)*bytes≤1000000*1000:=Nat.mul_le_mul hlen hbb;obtain ⟨v',W',hrun,g1,g2,g3⟩:=jgj (P:=P) W hs w.heap.size t o.type e i zv bytes ht h1 h5 h3 h4 (by rw [h6,hz]) v l (ho.own hs K) W.heap.size A n cap l2 hr Zb2 ZO K.1.size
 obtain ⟨X',hX,K'⟩:=ho.of hs K g1 (jcP g2) (fun g hg=>by
  rcases g3 with g3|g3
  ·exact Or.inl (g3 ▸ hg)
  ·rw [g3] at hg;injection hg with hg
   right
   omega)
 unfold Oper.wp execOp;simp only [hop,resolve,invoke,builtin,Sem.run_bind,Sem.run_pure,Result.andThen_ok,List.map_toArray,List.map_cons,List.map_nil,hv,hx,hrun];exact h v' X' W' hX K'
end
section
variable {P:Program} {ops:Array Oper} {Q:Exit→Act→World→Prop} {md:Region.Mode} {S:World→Prop} {n:Nat}
end
end Go.Proofs.YtdlcglndhhndpaaGreat
