/- Laws and walks; conditions stand in each theorem. -/
import Derived.Test.YtgikfcjndiohjaaGreatP16
import Derived.Test.YtgikfcjndiohjaaGreatP17
set_option linter.unusedSimpArgs false
set_option linter.unusedVariables false
set_option maxHeartbeats 2000000
set_option maxRecDepth 100000
namespace Go.Proofs.YtgikfcjndiohjaaGreat
open Go.RowKit
def lesK (x f q:Rat):Bool:=mulK f q&&addK x (-(f*q))
def Dc.fitX (m n:Nat) (D:Dc) (r s:Nat):Bool :=
 (divK (D.v r) (D.a r s)&&(List.range n).all fun j=>divK (if j=s then 1 else D.a r j) (D.a r s)) &&
 ((List.range m).all fun i=>decide (i=r)||(lesK (D.v i) (D.a i s) (D.v r / D.a r s)&&(List.range n).all fun j=>lesK (if j=s then 0 else D.a i j) (D.a i s) ((if j=s then 1 else D.a r j) / D.a r s))) &&
 (List.range n).all fun j=>lesK (if j=s then 0 else D.c j) (D.c s) ((if j=s then 1 else D.a r j) / D.a r s)
inductive Srch (m n:Nat):Dc→Option Dc→Prop
 | stop {D:Dc} (h:¬D.live m n):Srch m n D (some D)
 | full {D:Dc} {r s:Nat} (h:D.pick m n=.swap r s) (hf:D.fitX m n r s=false):Srch m n D none
 | step {D:Dc} {r s:Nat} {R:Option Dc} (h:D.pick m n=.swap r s) (hf:D.fitX m n r s=true) (hR:Srch m n (D.xch r s) R):Srch m n D R
theorem Srch.like {m n:Nat} {D:Dc} {R:Option Dc} (h:Srch m n D R) (hD:D.Ok m n):∀D',R=some D'→D'.Ok m n∧D.Like m n D'∧¬D'.live m n:=by
 induction h with
 | stop h =>
  intro D' e
  cases e
  exact ⟨hD,Dc.Like.refl m n _,h⟩
 | full h hf=>intro D' e;cases e
 | step h hf hR ih =>
  intro D' e
  obtain ⟨h1,h2,-⟩:=Dc.pick_swap hD h
  obtain ⟨g1,g2,g3⟩:=ih (hD.xch h1 h2) D' e
  exact ⟨g1,(Dc.like_xch h1 h2 (jdw hD h)).trans g2,g3⟩
theorem Dc.pick_best {m n:Nat} {D:Dc} (h:D.pick m n=.best):(∀i,i<m→0≤D.v i)∧∀j,j<n→D.c j≤0:=by
 unfold Dc.pick at h
 split at h
 ·rename_i h1 h2
  refine ⟨fun i hi=>Rat.not_lt.1 fun hn=>?_,fun j hj=>Rat.not_lt.1 fun hn=>?_⟩
  ·have:=jb4 h1 i hi
   rw [Dc.negR,decide_eq_true hn] at this
   cases this
  ·have:=jb4 h2 j hj
   rw [Dc.posC,decide_eq_true hn] at this
   cases this
 ·unfold Dc.rowP at h;split at h <;> cases h
 ·unfold Dc.colP at h;split at h <;> cases h
 ·split at h
  ·unfold Dc.rowP at h;split at h <;> cases h
  ·unfold Dc.colP at h;split at h <;> cases h
theorem Dc.rowP_contra {n r r':Nat} {D:Dc} (h:D.rowP n r=.contra r'):r'=r∧∀j,j<n→0≤D.a r j:=by
 unfold Dc.rowP at h
 split at h
 ·rename_i h1
  cases h
  refine ⟨rfl,fun j hj=>Rat.not_lt.1 fun hn=>?_⟩
  have:=jb4 h1 j hj
  rw [Dc.negA,decide_eq_true hn] at this
  cases this
 ·cases h
theorem Dc.colP_endless {m s s':Nat} {D:Dc} (h:D.colP m s=.endless s'):s'=s∧∀i,i<m→D.a i s≤0:=by
 unfold Dc.colP at h
 split at h
 ·rename_i h1
  cases h
  refine ⟨rfl,fun i hi=>Rat.not_lt.1 fun hn=>?_⟩
  have:=jb4 h1 i hi
  rw [Dc.posA,decide_eq_true hn] at this
  cases this
 ·cases h
theorem Dc.rowP_kind {n r:Nat} {D:Dc}:(∃r',D.rowP n r=.contra r')∨∃r' s,D.rowP n r=.swap r' s:=by
 unfold Dc.rowP
 split
 ·exact Or.inl ⟨_,rfl⟩
 ·exact Or.inr ⟨_,_,rfl⟩
theorem Dc.colP_kind {m s:Nat} {D:Dc}:(∃s',D.colP m s=.endless s')∨∃r s',D.colP m s=.swap r s':=by
 unfold Dc.colP
 split
 ·exact Or.inl ⟨_,rfl⟩
 ·exact Or.inr ⟨_,_,rfl⟩
theorem Dc.pick_contra {m n r:Nat} {D:Dc} (h:D.pick m n=.contra r):r<m∧D.v r<0∧∀j,j<n→0≤D.a r j:=by
 have key:∀r0,lstP D.own D.negR m=some r0→D.rowP n r0=.contra r→r<m∧D.v r<0∧∀j,j<n→0≤D.a r j:=fun r0 h1 h2=>by
  obtain ⟨e,h3⟩:=Dc.rowP_contra h2
  subst e
  exact ⟨(jaB h1).1,of_decide_eq_true (jaB h1).2.1,h3⟩
 have no:∀s0,D.colP m s0=.contra r→False:=fun s0 h2=>by
  rcases Dc.colP_kind (m:=m) (s:=s0) (D:=D) with ⟨s',e⟩|⟨a,b,e⟩ <;> rw [e] at h2 <;> cases h2
 unfold Dc.pick at h
 split at h
 ·cases h
 ·rename_i r0 h1 h2
  exact key r0 h1 h
 ·exact (no _ h).elim
 ·rename_i r0 s0 h1 h2
  split at h
  ·exact key r0 h1 h
  ·exact (no _ h).elim
theorem Dc.pick_endless {m n s:Nat} {D:Dc} (h:D.pick m n=.endless s):s<n∧0<D.c s∧∀i,i<m→D.a i s≤0:=by
 have key:∀s0,lstP D.free D.posC n=some s0→D.colP m s0=.endless s→s<n∧0<D.c s∧∀i,i<m→D.a i s≤0:=fun s0 h1 h2=>by
  obtain ⟨e,h3⟩:=Dc.colP_endless h2
  subst e
  exact ⟨(jaB h1).1,of_decide_eq_true (jaB h1).2.1,h3⟩
 have no:∀r0,D.rowP n r0=.endless s→False:=fun r0 h2=>by
  rcases Dc.rowP_kind (n:=n) (r:=r0) (D:=D) with ⟨r',e⟩|⟨a,b,e⟩ <;> rw [e] at h2 <;> cases h2
 unfold Dc.pick at h
 split at h
 ·cases h
 ·exact (no _ h).elim
 ·rename_i s0 h1 h2
  exact key s0 h2 h
 ·rename_i r0 s0 h1 h2
  split at h
  ·exact (no _ h).elim
  ·exact key s0 h2 h
def idxP (f:Nat→Nat) (u:Nat):Nat→Option Nat
 | 0=>none
 | k+1=>match idxP f u k with
  | some i=>some i
  | none=>if f k=u then some k else none
theorem jcr (f:Nat→Nat) (u:Nat):∀m:Nat,(idxP f u m=none∧∀i,i<m→f i≠u)∨∃i,idxP f u m=some i∧i<m∧f i=u
 | 0=>Or.inl ⟨rfl,fun i hi=>absurd hi ZO⟩
 | m+1=>by
  rw [idxP]
  rcases jcr f u m with ⟨h1,h2⟩|⟨i,h1,h2,h3⟩
  ·rw [h1]
   by_cases e:f m=u
   ·exact Or.inr ⟨m,if_pos e,by omega,e⟩
   ·refine Or.inl ⟨if_neg e,fun i hi=>?_⟩
    by_cases e2:i=m
    ·rw [e2];exact e
    ·exact h2 i ZO
  ·rw [h1]
   exact Or.inr ⟨i,rfl,by omega,h3⟩
theorem jfd {f:Nat→Nat} {m i:Nat} (hi:i<m) (hf:∀i k,i<m→k<m→f i=f k→i=k):idxP f (f i) m=some i:=by
 rcases jcr f (f i) m with ⟨h1,h2⟩|⟨k,h1,h2,h3⟩
 ·exact absurd rfl (h2 i hi)
 ·rw [h1,hf k i h2 hi h3]
theorem jcc {f:Nat→Nat} {m u:Nat} (h:∀i,i<m→f i≠u):idxP f u m=none:=by
 rcases jcr f u m with ⟨h1,h2⟩|⟨k,h1,h2,h3⟩
 ·exact h1
 ·exact absurd h3 (h k h2)
def xB (m:Nat) (D:Dc) (u:Nat):Rat:=match idxP D.own u m with
 | some i=>D.v i
 | none=>0
def yB (n:Nat) (D:Dc) (k:Nat):Rat:=match idxP D.free (n+k) n with
 | some j=>0-D.c j
 | none=>0
def yC (n:Nat) (D:Dc) (r k:Nat):Rat:=if D.own r=n+k then 1 else match idxP D.free (n+k) n with
 | some j=>D.a r j
 | none=>0
def xR (m:Nat) (D:Dc) (s u:Nat):Rat:=if D.free s=u then 1 else match idxP D.own u m with
 | some i=>0-D.a i s
 | none=>0
section
variable {m n:Nat} {A:Nat→Nat→Rat} {b c:Nat→Rat} {D:Dc}
theorem jhV (hD:D.Ok m n) (hl:(opnD n A b c).Like m n D) (hv:∀i,i<m→0≤D.v i) (hc:∀j,j<n→D.c j≤0) :
 (∀u,u<n→0≤xB m D u)∧(∀i,i<m→0≤yB n D i)∧(∀i,i<m→smQ (fun j=>A i j*xB m D j) n≤b i)∧(∀k,k<n→c k≤smQ (fun i=>yB n D i*A i k) m)∧smQ (fun i=>yB n D i*b i) m=smQ (fun j=>c j*xB m D j) n:=by
 obtain ⟨x,y,h1,h2,h3,h4,h5,h6,h7,h8,h9⟩:=jhU hD hl hv hc
 have ex:∀u,u<n→xB m D u=x u:=fun u hu=>by
  unfold xB
  rcases hD.all u ZO with ⟨i,hi,e⟩|⟨j,hj,e⟩
  ·rw [←e,jfd hi hD.io]
   exact (h6 i hi ZO).symm
  ·rw [jcc (fun i hi e2=>hD.ne i j hi hj (by rw [e2,e]))]
   rw [←e]
   exact (h7 j hj ZO).symm
 have ey:∀k,k<m→yB n D k=y k:=fun k hk=>by
  unfold yB
  rcases hD.all (n+k) ZO with ⟨i,hi,e⟩|⟨j,hj,e⟩
  ·rw [jcc (fun j hj e2=>hD.ne i j hi hj (by rw [e,e2]))]
   have:=h8 i hi ZO
   rw [e,Nat.add_sub_cancel_left] at this
   exact this.symm
  ·rw [←e,jfd hj hD.jf]
   have:=h9 j hj ZO
   rw [e,Nat.add_sub_cancel_left] at this
   rw [this]
   grind
 refine ⟨fun u hu=>by rw [ex u hu];exact h1 u hu,fun i hi=>by rw [ey i hi];exact h2 i hi,fun i hi=>?_,fun k hk=>?_,?_⟩
 ·rw [jaj (g:=fun j=>A i j*x j) (fun j hj=>by rw [ex j hj])]
  exact h3 i hi
 ·rw [jaj (g:=fun i=>y i*A i k) (fun i hi=>by rw [ey i hi])]
  exact h4 k hk
 ·rw [jaj (g:=fun i=>y i*b i) (fun i hi=>by rw [ey i hi]),jaj (f:=fun j=>c j*xB m D j) (g:=fun j=>c j*x j) (fun j hj=>by rw [ex j hj])]
  exact h5
theorem jjS {r:Nat} (hD:D.Ok m n) (hl:(opnD n A b c).Like m n D) (hr:r<m) (hv:D.v r<0) (ha:∀j,j<n→0≤D.a r j) :
 (∀i,i<m→0≤yC n D r i)∧(∀k,k<n→0≤smQ (fun i=>yC n D r i*A i k) m)∧smQ (fun i=>yC n D r i*b i) m<0:=by
 obtain ⟨y,h1,h2,h3,h4,h5,h6⟩:=jjQ hD hl hr hv ha
 have ey:∀k,k<m→yC n D r k=y k:=fun k hk=>by
  unfold yC
  by_cases e0:D.own r=n+k
  ·rw [if_pos e0]
   have:=h5 ZO
   rw [e0,Nat.add_sub_cancel_left] at this
   exact this.symm
  ·rw [if_neg e0]
   rcases hD.all (n+k) ZO with ⟨i,hi,e⟩|⟨j,hj,e⟩
   ·rw [jcc (fun j hj e2=>hD.ne i j hi hj (by rw [e,e2]))]
    have:=h4 i hi (fun e2=>e0 (by rw [←e2];exact e)) ZO
    rw [e,Nat.add_sub_cancel_left] at this
    exact this.symm
   ·rw [←e,jfd hj hD.jf]
    have:=h6 j hj ZO
    rw [e,Nat.add_sub_cancel_left] at this
    exact this.symm
 refine ⟨fun i hi=>by rw [ey i hi];exact h1 i hi,fun k hk=>?_,?_⟩
 ·rw [jaj (g:=fun i=>y i*A i k) (fun i hi=>by rw [ey i hi])]
  exact h2 k hk
 ·rw [jaj (g:=fun i=>y i*b i) (fun i hi=>by rw [ey i hi])]
  exact h3
theorem ray_is {s:Nat} (hD:D.Ok m n) (hl:(opnD n A b c).Like m n D) (hs:s<n) (hc:0<D.c s) (ha:∀i,i<m→D.a i s≤0) :
 (∀u,u<n→0≤xR m D s u)∧(∀i,i<m→smQ (fun j=>A i j*xR m D s j) n≤0)∧0<smQ (fun j=>c j*xR m D s j) n:=by
 obtain ⟨x,h1,h2,h3,h4,h5,h6⟩:=jmP hD hl hs hc ha
 have ex:∀u,u<n→xR m D s u=x u:=fun u hu=>by
  unfold xR
  by_cases e0:D.free s=u
  ·rw [if_pos e0]
   have:=h5 ZO
   rw [e0] at this
   exact this.symm
  ·rw [if_neg e0]
   rcases hD.all u ZO with ⟨i,hi,e⟩|⟨j,hj,e⟩
   ·rw [←e,jfd hi hD.io]
    rw [h4 i hi ZO]
    grind
   ·rw [jcc (fun i hi e2=>hD.ne i j hi hj (by rw [e2,e]))]
    have:=h6 j hj (fun e2=>e0 (by rw [←e2];exact e)) ZO
    rw [e] at this
    exact this.symm
 refine ⟨fun u hu=>by rw [ex u hu];exact h1 u hu,fun i hi=>?_,?_⟩
 ·rw [jaj (g:=fun j=>A i j*x j) (fun j hj=>by rw [ex j hj])]
  exact h2 i hi
 ·rw [jaj (g:=fun j=>c j*x j) (fun j hj=>by rw [ex j hj])]
  exact h3
theorem jm0 (hl:(opnD n A b fun _=>0).Like m n D) (hD:D.Ok m n) {s:Nat} (hs:s<n):D.c s=0:=by
 obtain ⟨κ,hκ⟩:=hl.gol
 obtain ⟨x,x1,-,-,-,x5⟩:=hD.ray hs
 have h1:=hκ x 0 ((hl.on x 0).2 x1)
 rw [jgf,x5,jaL (fun j _=>by grind)] at h1
 grind
end
inductive jem
 | full
 | none (y:Nat→Rat)
 | ray (x:Nat→Rat)
 | best (x y:Nat→Rat)
def je4 (m n:Nat) (D:Dc):jem:=match D.pick m n with
 | .endless s=>.ray (xR m D s)
 | _=>.best (xB m D) (yB n D)
inductive jaZ (m n:Nat) (A:Nat→Nat→Rat) (b c:Nat→Rat):jem→Prop
 | full1 (h:Srch m n (opnD n A b fun _=>0) none):jaZ m n A b c .full
 | none {D:Dc} {r:Nat} (h:Srch m n (opnD n A b fun _=>0) (some D)) (hr:D.pick m n=.contra r):jaZ m n A b c (.none (yC n D r))
 | full2 {D:Dc} (h:Srch m n (opnD n A b fun _=>0) (some D)) (hr:∀r,D.pick m n≠.contra r) (h2:Srch m n (opnD n A b c) none):jaZ m n A b c .full
 | fin {D D':Dc} (h:Srch m n (opnD n A b fun _=>0) (some D)) (hr:∀r,D.pick m n≠.contra r) (h2:Srch m n (opnD n A b c) (some D')):jaZ m n A b c (je4 m n D')
section
variable {m n:Nat} {A:Nat→Nat→Rat} {b c:Nat→Rat}
theorem jaZ.none_cert {y:Nat→Rat} (h:jaZ m n A b c (.none y)):(∀i,i<m→0≤y i)∧(∀k,k<n→0≤smQ (fun i=>y i*A i k) m)∧smQ (fun i=>y i*b i) m<0:=by
 generalize hE:jem.none y=E at h
 cases h with
 | full1 _=>cases hE
 | none h hr =>
  cases hE
  obtain ⟨g1,g2,-⟩:=h.like (jdc m n A b _) _ rfl
  obtain ⟨k1,k2,k3⟩:=Dc.pick_contra hr
  exact jjS g1 g2 k1 k2 k3
 | full2 _ _ _=>cases hE
 | fin _ _ _=>unfold je4 at hE;split at hE <;> cases hE
theorem jaZ.ray_cert {x:Nat→Rat} (h:jaZ m n A b c (.ray x)):(∀u,u<n→0≤x u)∧(∀i,i<m→smQ (fun j=>A i j*x j) n≤0)∧0<smQ (fun j=>c j*x j) n:=by
 generalize hE:jem.ray x=E at h
 cases h with
 | full1 _=>cases hE
 | none _ _=>cases hE
 | full2 _ _ _=>cases hE
 | fin h hr h2 =>
  unfold je4 at hE
  split at hE
  ·rename_i s hs
   cases hE
   obtain ⟨g1,g2,-⟩:=h2.like (jdc m n A b c) _ rfl
   obtain ⟨k1,k2,k3⟩:=Dc.pick_endless hs
   exact ray_is g1 g2 k1 k2 k3
  ·cases hE
theorem jnJ {D:Dc} (h:Srch m n (opnD n A b fun _=>0) (some D)) (hr:∀r,D.pick m n≠.contra r):∃x:Nat→Rat,(∀u,u<n→0≤x u)∧∀i,i<m→smQ (fun j=>A i j*x j) n≤b i:=by
 obtain ⟨g1,g2,g3⟩:=h.like (jdc m n A b _) _ rfl
 cases hp:D.pick m n with
 | best =>
  obtain ⟨k1,k2⟩:=Dc.pick_best hp
  obtain ⟨q1,-,q3,-⟩:=jhV g1 g2 k1 k2
  exact ⟨_,q1,q3⟩
 | contra r=>exact absurd hp (hr r)
 | endless s =>
  obtain ⟨k1,k2,k3⟩:=Dc.pick_endless hp
  rw [jm0 g2 g1 k1] at k2
  exact absurd k2 Zb4
 | swap r s=>exact absurd ⟨r,s,hp⟩ g3
theorem jhe (y x:Nat→Rat) (A:Nat→Nat→Rat) (n:Nat):∀m:Nat,smQ (fun i=>y i*smQ (fun j=>A i j*x j) n) m=smQ (fun k=>smQ (fun i=>y i*A i k) m*x k) n:=fun m=>by
 induction m with
 | zero =>
  rw [smQ]
  exact (jaL fun k _=>by rw [smQ];grind).symm
 | succ m ih =>
  rw [smQ,ih]
  have e5:y m*smQ (fun j=>A m j*x j) n=smQ (fun k=>(A m k*x k)*y m) n:=by rw [ja6];grind
  rw [e5,←jea]
  exact jaj fun k _=>by rw [smQ];grind
theorem jjR {x y:Nat→Rat} (hx:∀u,u<n→0≤x u) (hA:∀i,i<m→smQ (fun j=>A i j*x j) n≤b i) (hy:∀i,i<m→0≤y i) (hB:∀k,k<n→0≤smQ (fun i=>y i*A i k) m) (hb:smQ (fun i=>y i*b i) m<0):False:=by
 have h1:smQ (fun i=>y i*smQ (fun j=>A i j*x j) n) m≤smQ (fun i=>y i*b i) m:=jeb fun i hi=>Rat.mul_le_mul_of_nonneg_left (hA i hi) (hy i hi)
 rw [jhe] at h1
 have h2:=jeb (f:=fun _=>(0:Rat)) (g:=fun k=>smQ (fun i=>y i*A i k) m*x k) (n:=n) (fun k hk=>Rat.mul_nonneg (hB k hk) (hx k hk))
 rw [jaL (f:=fun _=>(0:Rat)) (fun _ _=>rfl)] at h2
 grind
theorem jky {x y:Nat→Rat} (hx:∀u,u<n→0≤x u) (hA:∀i,i<m→smQ (fun j=>A i j*x j) n≤b i) (hy:∀i,i<m→0≤y i) (hB:∀k,k<n→c k≤smQ (fun i=>y i*A i k) m):smQ (fun j=>c j*x j) n≤smQ (fun i=>y i*b i) m:=by
 have h1:smQ (fun i=>y i*smQ (fun j=>A i j*x j) n) m≤smQ (fun i=>y i*b i) m:=jeb fun i hi=>Rat.mul_le_mul_of_nonneg_left (hA i hi) (hy i hi)
 rw [jhe] at h1
 have h2:smQ (fun j=>c j*x j) n≤smQ (fun k=>smQ (fun i=>y i*A i k) m*x k) n:=jeb fun k hk=>Rat.mul_le_mul_of_nonneg_right (hB k hk) (hx k hk)
 grind
theorem jaZ.best_cert {x y:Nat→Rat} (h:jaZ m n A b c (.best x y)):(∀u,u<n→0≤x u)∧(∀i,i<m→0≤y i)∧(∀i,i<m→smQ (fun j=>A i j*x j) n≤b i)∧(∀k,k<n→c k≤smQ (fun i=>y i*A i k) m)∧smQ (fun i=>y i*b i) m=smQ (fun j=>c j*x j) n:=by
 generalize hE:jem.best x y=E at h
 cases h with
 | full1 _=>cases hE
 | none _ _=>cases hE
 | full2 _ _ _=>cases hE
 | fin h hr h2 =>
  rename_i D D'
  obtain ⟨g1,g2,g3⟩:=h2.like (jdc m n A b c) _ rfl
  obtain ⟨x0,f1,f2⟩:=jnJ h hr
  unfold je4 at hE
  cases hp:D'.pick m n with
  | best =>
   rw [hp] at hE
   cases hE
   obtain ⟨k1,k2⟩:=Dc.pick_best hp
   exact jhV g1 g2 k1 k2
  | contra r =>
   obtain ⟨k1,k2,k3⟩:=Dc.pick_contra hp
   obtain ⟨q1,q2,q3⟩:=jjS g1 g2 k1 k2 k3
   exact (jjR f1 f2 q1 q2 q3).elim
  | endless s=>rw [hp] at hE;cases hE
  | swap r s=>exact absurd ⟨r,s,hp⟩ g3
end
def Sol (m n:Nat) (A:Nat→Nat→Rat) (b x:Nat→Rat):Prop:=(∀u,u<n→0≤x u)∧∀i,i<m→smQ (fun j=>A i j*x j) n≤b i
def Pri (m n:Nat) (A:Nat→Nat→Rat) (c y:Nat→Rat):Prop:=(∀i,i<m→0≤y i)∧∀k,k<n→c k≤smQ (fun i=>y i*A i k) m
def CerN (m n:Nat) (A:Nat→Nat→Rat) (b y:Nat→Rat):Prop:=Pri m n A (fun _=>0) y∧smQ (fun i=>y i*b i) m<0
def CerR (m n:Nat) (A:Nat→Nat→Rat) (c x:Nat→Rat):Prop:=Sol m n A (fun _=>0) x∧0<smQ (fun j=>c j*x j) n
def CerB (m n:Nat) (A:Nat→Nat→Rat) (b c x y:Nat→Rat):Prop:=Sol m n A b x∧Pri m n A c y∧smQ (fun i=>y i*b i) m=smQ (fun j=>c j*x j) n
section
variable {m n:Nat} {A:Nat→Nat→Rat} {b c:Nat→Rat}
theorem weak {x y:Nat→Rat} (hx:Sol m n A b x) (hy:Pri m n A c y):smQ (fun j=>c j*x j) n≤smQ (fun i=>y i*b i) m:=jky hx.1 hx.2 hy.1 hy.2
theorem jaZ.isN {y:Nat→Rat} (h:jaZ m n A b c (.none y)):CerN m n A b y:=⟨⟨h.none_cert.1,h.none_cert.2.1⟩,h.none_cert.2.2⟩
theorem jaZ.isR {x:Nat→Rat} (h:jaZ m n A b c (.ray x)):CerR m n A c x:=⟨⟨h.ray_cert.1,h.ray_cert.2.1⟩,h.ray_cert.2.2⟩
theorem jaZ.isB {x y:Nat→Rat} (h:jaZ m n A b c (.best x y)):CerB m n A b c x y:=⟨⟨h.best_cert.1,h.best_cert.2.2.1⟩,⟨h.best_cert.2.1,h.best_cert.2.2.2.1⟩,h.best_cert.2.2.2.2⟩
end
def IsI (q:Rat) (B:Int):Prop:=∃z:Int,q=((z:Int):Rat)∧(z.natAbs:Int)≤B
theorem IsI.mono {q:Rat} {B C:Int} (h:IsI q B) (hB:B≤C):IsI q C:=by
 obtain ⟨z,h1,h2⟩:=h
 exact ⟨z,h1,by omega⟩
theorem IsI.zero {B:Int} (h:0≤B):IsI 0 B:=⟨0,rfl,h⟩
theorem IsI.one {B:Int} (h:1≤B):IsI 1 B:=⟨1,rfl,h⟩
theorem IsI.add {x y:Rat} {A B:Int} (h:IsI x A) (h':IsI y B):IsI (x+y) (A+B):=by
 obtain ⟨z,rfl,h2⟩:=h
 obtain ⟨t,rfl,h4⟩:=h'
 exact ⟨z+t,(Rat.intCast_add _ _).symm,by omega⟩
theorem IsI.sub {x y:Rat} {A B:Int} (h:IsI x A) (h':IsI y B):IsI (x-y) (A+B):=by
 obtain ⟨z,rfl,h2⟩:=h
 obtain ⟨t,rfl,h4⟩:=h'
 exact ⟨z-t,(Rat.intCast_sub _ _).symm,by omega⟩
theorem IsI.neg {x:Rat} {A:Int} (h:IsI x A):IsI (-x) A:=by
 obtain ⟨z,rfl,h2⟩:=h
 exact ⟨-z,(Rat.intCast_neg _).symm,by omega⟩
theorem IsI.mul {x y:Rat} {A B:Int} (h:IsI x A) (h':IsI y B):IsI (x*y) (A*B):=by
 obtain ⟨z,rfl,h2⟩:=h
 obtain ⟨t,rfl,h4⟩:=h'
 refine ⟨z*t,(Rat.intCast_mul _ _).symm,?_⟩
 rw [Int.natAbs_mul]
 push_cast
 exact Int.mul_le_mul h2 h4 ZO ZO
def bd4 (B:Int):Int :=
 let t:=B*(B*B+B*B)+B*(B*B+B*B)+B*(B*B+B*B)
 B*t+B*t+B*t+B*t
theorem jk2 {M:Nat→Nat→Rat} {B:Int} (h:∀i k,i<4→k<4→IsI (M i k) B):IsI (det4 M) (bd4 B):=by
 have g:=fun i k (hi:i<4) (hk:k<4)=>h i k hi hk
 unfold det4 D4 bd4
 have m2:∀i k i' k' j l j' l',i<4→k<4→i'<4→k'<4→j<4→l<4→j'<4→l'<4→IsI (M i k*M i' k'-M j l*M j' l') (B*B+B*B):=fun i k i' k' j l j' l' a1 a2 a3 a4 a5 a6 a7 a8=>((g i k a1 a2).mul (g i' k' a3 a4)).sub ((g j l a5 a6).mul (g j' l' a7 a8))
 refine ((((g 0 0 Zb4 Zb4).mul ?_).sub ((g 0 1 Zb4 Zb4).mul ?_)).add ((g 0 2 Zb4 Zb4).mul ?_)).sub ((g 0 3 Zb4 Zb4).mul ?_)
 all_goals
  refine ((IsI.mul (g _ _ Zb4 Zb4) (m2 _ _ _ _ _ _ _ _ Zb4 Zb4 Zb4 Zb4 Zb4 Zb4 Zb4 Zb4)).sub (IsI.mul (g _ _ Zb4 Zb4) (m2 _ _ _ _ _ _ _ _ Zb4 Zb4 Zb4 Zb4 Zb4 Zb4 Zb4 Zb4))).add (IsI.mul (g _ _ Zb4 Zb4) (m2 _ _ _ _ _ _ _ _ Zb4 Zb4 Zb4 Zb4 Zb4 Zb4 Zb4 Zb4))
theorem jj6 (q:Rat):q*(((q.den:Nat):Int):Rat)=((q.num:Int):Rat):=by
 have:=Rat.num_divInt_den q
 have hd:(((q.den:Nat):Int):Rat)≠0:=jna (jbr q)
 rw [Rat.divInt_eq_div] at this
 generalize (((q.den:Nat):Int):Rat)=d at *
 generalize ((q.num:Int):Rat)=e at *
 rw [←this]
 grind
theorem IsI.pt {q:Rat} {K B:Int} {l:Nat} (h:IsI (q*((K:Int):Rat)) B) (hK:((K:Int):Rat)≠0) (h1:(K.natAbs:Int)<pw l) (h2:B<pw l):Pt l q:=by
 obtain ⟨z,e,hz⟩:=h
 exact jjJ hK e h1 ZO
theorem jeD (A A':Option Addr) (n cap m cap':Nat) (l:List Fv) (ls:List Rv) (w:World) (hl:RdF w w.heap.size A n cap l) (hr:RdR w w.heap.size A' m cap' ls) (hn:n≤20) (hm:m≤40) :
 Calls Tryz.prog 59 #[.agg #[.slice A n cap,.slice A' m cap']] w fun e w'=>e=.returned (.bool (l.all Fv.ok&&ls.all (rowF n)))∧Below w.heap.size w w':=by
 have HC:=jpk (fun W (h:Below w.heap.size w W)=>jgF A n cap l W (hl.up jan h))
 have HL:=jpk hr
 have hcap:=hl.caps
 have hcap':=hr.caps
 have hlen:=jpk hr.len
 clear hl hr
 generalize l.all Fv.ok=R at *
 have h20:decide ((n:Int)>20)=false:=decide_eq_false ZO
 have h40:decide ((m:Int)>40)=false:=decide_eq_false ZO
 have g20:¬(n:Int)>20:=by omega
 have g40:¬(m:Int)>40:=by omega
 have K:=St.start w
 have r:=K.raw
 cases R
 ·rw [Bool.false_and]
  go_enter Tryz.func59,Tryz.ntmps59
  go_wp2_with (first|(first|(apply K.box;rfl;rfl;rfl;clear K r;intro W b0 K;have r:=K.rawS)|(apply K.alloc;rfl;rfl;exact ja3;clear K r;intro W b1 K;have r:=K.rawS)|(apply K.storeA;rfl;rfl;rfl;rfl;rfl;(exact ZUP);exact ja2;rfl;rfl;rfl;clear K r;intro W K;have r:=K.rawS))|(go_at_call 36;refine (HC.out _ K.1).mono ?_;rintro e W' ⟨rfl,hb⟩;replace K:=K.keep hb;clear hb r;have r:=K.rawS))
  go_ret
  exact ⟨rfl,K.1⟩
 ·rw [Bool.true_and]
  go_enter Tryz.func59,Tryz.ntmps59
  go_wp2_with (first|(first|(apply K.box;rfl;rfl;rfl;clear K r;intro W b0 K;have r:=K.rawS)|(apply K.alloc;rfl;rfl;exact ja3;clear K r;intro W b1 K;have r:=K.rawS)|(apply K.storeA;rfl;rfl;rfl;rfl;rfl;(exact ZUP);exact ja2;rfl;rfl;rfl;clear K r;intro W K;have r:=K.rawS))|(go_at_call 36;refine (HC.out _ K.1).mono ?_;rintro e W' ⟨rfl,hb⟩;replace K:=K.keep hb;clear hb r;have r:=K.rawS))
  go_loopg [23] m (fun gk s23 wr=>∃k:Nat,k≤m∧gk=m-k∧s23=.int .i64 k∧Hid (∀j x,j<k→ls[j]?=some x→rowF n x=true)∧St w [(b0,#[.slice A n cap,.slice A' m cap'],57)] [] wr)
  case atStart=>exact ⟨0,Nat.zero_le _,rfl,rfl,jpk (fun j x h=>absurd h ZO),K⟩
  case round =>
   clear K r
   obtain ⟨k,hk,rfl,rfl,HA,K⟩:=hrel
   by_cases hlt:k<m
   ·obtain ⟨eb,eo,A0,n0,c0,A1,n1,c1,A2,n2,c2,x,hA,hbB,hx,⟨z0,z1,z2,z3,z4⟩,r0,r1,r2⟩:=HL.out.atR hlt
    subst hA
    have hki:(k:Int)<(m:Int):=by omega
    have hk0:(0:Int)≤(k:Int):=by omega
    have Hx:=jpk hx
    have hRF:rowF n x=((decide ((n0:Int)=n)&&x.b.ok)&&x.a.all Fv.ok):=by
     unfold rowF
     rw [r0.len]
    have Hno:=jpk (fun (h:rowF n x=false)=>(show ls.all (rowF n)=false from by
     rw [List.all_eq_false];exact ⟨x,List.mem_of_getElem? Hx.out,by simp [h]⟩))
    have HW:=jpk (fun W (h:Below w.heap.size w W)=>(jdx x.b.s x.b.t A1 A2 n1 c1 n2 c2 x.b.l x.b.m W (r1.up (jab _) h) (r2.up (jab _) h):Calls Tryz.prog 104 _ W fun e w'=>e=.returned (.bool (!x.b.ok))∧Below W.heap.size W w'))
    have hok:jam x.b.s x.b.l x.b.t x.b.m=x.b.ok:=rfl
    rw [hok] at HW
    clear hok
    have HR:=jpk (fun W (h:Below w.heap.size w W)=>jgF A0 n0 c0 x.a W (r0.up jan h))
    have y0:=(K.1.cell (p:=⟨eb,eo+k*5,none⟩) hbB).trans z0
    have y1:=(K.1.cell (p:=⟨eb,eo+k*5+1,none⟩) hbB).trans z1
    have y2:=(K.1.cell (p:=⟨eb,eo+k*5+2,none⟩) hbB).trans z2
    have y3:=(K.1.cell (p:=⟨eb,eo+k*5+3,none⟩) hbB).trans z3
    have y4:=(K.1.cell (p:=⟨eb,eo+k*5+4,none⟩) hbB).trans z4
    have hc0:=r0.caps
    have hc1:=r1.caps
    have hc2:=r2.caps
    clear hx z0 z1 z2 z3 z4 r0 r1 r2
    have r:=K.rawS
    by_cases hn0:(n0:Int)=(n:Int)
    ·have hd:((n0:Int) !=(n:Int))=false:=by simp [hn0]
     rw [decide_eq_true hn0,Bool.true_and] at hRF
     clear hn0
     cases hS:x.a.all Fv.ok
     ·rw [hS,Bool.and_false] at hRF
      have HF:=jpk (Hno.out hRF)
      rw [hS] at HR
      clear hRF hS Hno
      go_wp2_with (first|(first|(apply K.box;rfl;rfl;rfl;clear K r;intro W b0 K;have r:=K.rawS)|(apply K.alloc;rfl;rfl;exact ja3;clear K r;intro W b1 K;have r:=K.rawS)|(apply K.storeA;rfl;rfl;rfl;rfl;rfl;(exact ZUP);exact ja2;rfl;rfl;rfl;clear K r;intro W K;have r:=K.rawS))|(go_at_call 36;refine (HR.out _ K.1).mono ?_;rintro e W' ⟨rfl,hb⟩;replace K:=K.keep hb;clear hb r;have r:=K.rawS))
      go_ret
      exact ⟨by rw [HF.out];rfl,K.1⟩
     ·rw [hS,Bool.and_true] at hRF
      rw [hS] at HR
      clear hS
      cases hV:x.b.ok
      ·rw [hV] at hRF HW
       have HF:=jpk (Hno.out hRF)
       clear hRF hV Hno
       go_wp2_with (first|(first|(apply K.box;rfl;rfl;rfl;clear K r;intro W b0 K;have r:=K.rawS)|(apply K.alloc;rfl;rfl;exact ja3;clear K r;intro W b1 K;have r:=K.rawS)|(apply K.storeA;rfl;rfl;rfl;rfl;rfl;(exact ZUP);exact ja2;rfl;rfl;rfl;clear K r;intro W K;have r:=K.rawS))|(go_at_call 36;refine (HR.out _ K.1).mono ?_;rintro e W' ⟨rfl,hb⟩;replace K:=K.keep hb;clear hb r;have r:=K.rawS)|(go_at_call 104;refine (HW.out _ K.1).mono ?_;rintro e W' ⟨rfl,hb⟩;replace K:=K.keep hb;clear hb r;have r:=K.rawS))
       go_ret
       exact ⟨by rw [HF.out];rfl,K.1⟩
      ·rw [hV] at hRF HW
       have HY:=jpk (show ∀j y,j<k+1→ls[j]?=some y→rowF n y=true from fun j y hj hy=>by
        by_cases e:j=k
        ·subst e;rw [Hx.out] at hy;cases hy;exact hRF
        ·exact HA.out j y ZO hy)
       clear hRF hV Hno HA
       go_wp2_with (first|(first|(apply K.box;rfl;rfl;rfl;clear K r;intro W b0 K;have r:=K.rawS)|(apply K.alloc;rfl;rfl;exact ja3;clear K r;intro W b1 K;have r:=K.rawS)|(apply K.storeA;rfl;rfl;rfl;rfl;rfl;(exact ZUP);exact ja2;rfl;rfl;rfl;clear K r;intro W K;have r:=K.rawS))|(go_at_call 36;refine (HR.out _ K.1).mono ?_;rintro e W' ⟨rfl,hb⟩;replace K:=K.keep hb;clear hb r;have r:=K.rawS)|(go_at_call 104;refine (HW.out _ K.1).mono ?_;rintro e W' ⟨rfl,hb⟩;replace K:=K.keep hb;clear hb r;have r:=K.rawS))
       go_roundg (m-(k+1))
       case rel=>exact ⟨k+1,hlt,rfl,by go_num,HY,K.part (List.sublist_append_right [_] _)⟩
       case measure=>omega
    ·have hd:((n0:Int) !=(n:Int))=true:=by simp [hn0]
     rw [decide_eq_false hn0,Bool.false_and,Bool.false_and] at hRF
     have HF:=jpk (Hno.out hRF)
     clear hn0 hRF Hno
     go_wp2_with (first|(apply K.box;rfl;rfl;rfl;clear K r;intro W b0 K;have r:=K.rawS)|(apply K.alloc;rfl;rfl;exact ja3;clear K r;intro W b1 K;have r:=K.rawS)|(apply K.storeA;rfl;rfl;rfl;rfl;rfl;(exact ZUP);exact ja2;rfl;rfl;rfl;clear K r;intro W K;have r:=K.rawS))
     go_ret
     exact ⟨by rw [HF.out];rfl,K.1⟩
   ·have e:k=m:=by omega
    subst e
    have Hyes:=jpk (show ls.all (rowF n)=true by
     rw [List.all_eq_true]
     intro x hx
     obtain ⟨j,hj,rfl⟩:=List.mem_iff_getElem.1 hx
     exact HA.out j _ (by rw [hlen.out] at hj;exact hj) (List.getElem?_eq_getElem hj))
    have hb:=K.1
    clear K HA hlt
    go_wp2_with fail
    go_ret
    exact ⟨by rw [Hyes.out];rfl,hb⟩
end Go.Proofs.YtgikfcjndiohjaaGreat
