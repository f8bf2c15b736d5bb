/- Laws and walks; conditions stand in each theorem. -/
import Derived.Test.YtgikfcjndiohjaaGreatP31
set_option linter.unusedSimpArgs false
set_option linter.unusedVariables false
set_option maxHeartbeats 16000000
set_option maxRecDepth 100000
namespace Go.Proofs.YtgikfcjndiohjaaGreat
open Go.RowKit
section
variable {P:Program} {ops:Array Oper} {Q:Exit→Act→World→Prop} {md:Region.Mode} {S:World→Prop} {n:Nat}
theorem jaa.tkB (i:Nat) {oi:Oper} {v:Value} {fuel:Nat} {listed:Array Bool} {a:Act} {w:World} {q:Prop} (hi:ops[i]?=some oi) (k:q) (hB:(decide (ops.size≤n)&&Region.noSelect ops&&Region.free md ops listed i&&(Region.ready md ops listed).contains i)=true:=by decide +kernel)
 (hQ:∀c a w,Q (.panic c) (a.put oi.dst v) w→Q (.panic c) a w:=by exact fun _ _ _ h=>h) (hy:YieldsIf P ops S oi v a:=by (refine Or.inl ⟨by rfl,?_⟩;intro w hSw;(try dsimp only at hSw);go_simp;try with_reducible rfl)) (hS:S w:=by assumption) (h:q→jaa P md ops Q S n fuel (listed.setIfInBounds i true) (a.put oi.dst v) w:=by (intro hq;(try simp only [Act.put,List.getElem_toArray,List.getElem_cons_succ,List.getElem_cons_zero,List.setIfInBounds_toArray,List.set_cons_zero,List.set_cons_succ]);exact hq)):jaa P md ops Q S n (fuel+1) listed a w :=
 jaa.takeA hi hB hQ hy hS (h k)
theorem jaa.tkN (i:Nat) {oi:Oper} {fuel:Nat} {listed:Array Bool} {a:Act} {w:World} {q:Prop} (hi:ops[i]?=some oi) (k:q) (hB:(decide (ops.size≤n)&&Region.noSelect ops&&Region.free md ops listed i&&(Region.ready md ops listed).contains i)=true:=by decide +kernel)
 (hQ:∀c a w,Q (.panic c) (a.put oi.dst undef) w→Q (.panic c) a w:=by exact fun _ _ _ h=>h) (hy:Region.wanted oi (yielded ops a.tmps)=false:=by rfl) (hS:S w:=by assumption) (h:q→jaa P md ops Q S n fuel (listed.setIfInBounds i true) (a.put oi.dst undef) w:=by (intro hq;(try simp only [Act.put,List.getElem_toArray,List.getElem_cons_succ,List.getElem_cons_zero,List.setIfInBounds_toArray,List.set_cons_zero,List.set_cons_succ]);exact hq)):jaa P md ops Q S n (fuel+1) listed a w :=
 jaa.takeA hi hB hQ (Or.inr ⟨hy,rfl⟩) hS (h k)
theorem jaa.onW (i:Nat) {o:Oper} {fuel:Nat} {listed:Array Bool} {a:Act} {w:World} (ho:ops[i]?=some o)
 (h:∀K:Act→World→Prop,Hid (∀a' w',S w'→(S w'→jaa P md ops Q S n fuel (listed.setIfInBounds i true) a' w')→K a' w')→o.wp P a w K Q) (hw:Region.wanted o (yielded ops a.tmps)=true:=by rfl) (hB:(decide (i≠n)&&decide (Region.ready md ops listed=[i]))=true:=by kernel_rfl):jaa P md ops Q S n (fuel+1) listed a w:=by
 simp only [Bool.and_eq_true,decide_eq_true_eq] at hB
 refine ⟨(fun h0=>by rw [hB.2] at h0;cases h0),fun j hj=>?_⟩
 rw [hB.2,List.mem_singleton] at hj
 subst hj
 unfold wpOp
 simp only [ho,hw,if_true]
 exact Or.inl (h _ (jpk fun a' w' hS hW=>⟨fun _=>hS,hW hS⟩))
end
theorem Upd.headN {b:Nat} {cs cs':Array Value} {t:TypeId} {L L':List Blk} (h:Upd b cs t cs' ((b,cs,t)::L) L') (hn:(((b,cs,t)::L).map (·.1)).Nodup):L'=(b,cs',t)::L:=by
 cases h with
 | head _=>rfl
 | tail _ h3 =>
  have:=List.mem_map_of_mem (f:=fun p:Blk=>p.1) h3.mem
  rw [List.map_cons,List.nodup_cons] at hn
  exact absurd this hn.1
def chkO (n m:Nat) (l:List Fv) (ls:List Rv) (x y:List Fv):Bool :=
 (decide (x.length=n)&&x.all fnF)&&(decide (y.length=m)&&y.all fnF)&&belB m n (rwA2 ls) (rwB2 ls false) (fvR x)&&covB m n (rwA2 ls) (fvR l) (fvR y)&&prdK (fvR y) (rwB2 ls false) m&&prdK (fvR l) (fvR x) n&&decide (smQ (fun i=>fvR y i*rwB2 ls false i) m=smQ (fun j=>fvR l j*fvR x j) n)
def chkN (n m:Nat) (ls:List Rv) (x y:List Fv):Bool :=
 decide (x.length=0)&&(decide (y.length=m)&&y.all fnF)&&covB m n (rwA2 ls) jcA (fvR y)&&prdK (fvR y) (rwB2 ls false) m&&decide (smQ (fun i=>fvR y i*rwB2 ls false i) m<0)
def chkR (n m:Nat) (l:List Fv) (ls:List Rv) (x y:List Fv):Bool :=
 decide (y.length=0)&&(decide (x.length=n)&&x.all fnF)&&belB m n (rwA2 ls) (rwB2 ls true) (fvR x)&&prdK (fvR l) (fvR x) n&&decide (0<smQ (fun j=>fvR l j*fvR x j) n)
def chkF (n m:Nat) (l:List Fv) (ls:List Rv) (x y:List Fv) (e:Int):Bool :=
 if e=0 then chkO n m l ls x y else if e=4 then chkN n m ls x y else if e=3 then chkR n m l ls x y else false
theorem jnL {x:List Fv} (h:x.all fnF=true):∀i,i<x.length→0≤fvR x i∧jaF (fvR x i)=true:=fun i hi=>by
 have h1:=List.all_eq_true.1 h _ (List.getElem_mem hi)
 unfold fnF at h1
 rw [Bool.and_eq_true,Bool.not_eq_true'] at h1
 obtain ⟨h2,h3⟩:=h1
 have h4:=jbW h2
 unfold fvR
 rw [List.getElem?_eq_getElem hi,Option.map_some,Option.getD_some]
 refine ⟨?_,h4.2⟩
 have h5:=isQ.neg_iff (x:=⟨x[i].s,none,0,0,x[i].l,x[i].t,none,0,0,x[i].m⟩) (q:=x[i].rat) h4
 have h6:decide (x[i].s<0)=decide (x[i].rat<0):=h5
 rw [h3] at h6
 exact Rat.not_lt.1 (of_decide_eq_false h6.symm)
section
variable {n m:Nat} {l:List Fv} {ls:List Rv} {x y:List Fv}
theorem chkO_x (h:(decide (x.length=n)&&x.all fnF)=false):chkO n m l ls x y=false:=by unfold chkO;rw [h];simp
theorem chkO_y (h:(decide (y.length=m)&&y.all fnF)=false):chkO n m l ls x y=false:=by unfold chkO;rw [h];simp
theorem chkO_b {o:Bool} (h:(false&& !o)=(!false&&belB m n (rwA2 ls) (rwB2 ls false) (fvR x))):chkO n m l ls x y=false:=by
 have h:belB m n (rwA2 ls) (rwB2 ls false) (fvR x)=false:=by simpa using h.symm
 unfold chkO;rw [h];simp
theorem chkO_c {o p:Bool} (h:(true&& !o)=(!false&&belB m n (rwA2 ls) (rwB2 ls false) (fvR x))) (h':(false&& !p)=(!o&&covB m n (rwA2 ls) (fvR l) (fvR y))):chkO n m l ls x y=false:=by
 have h1:(!o)=belB m n (rwA2 ls) (rwB2 ls false) (fvR x):=by simpa using h
 rw [h1,Bool.false_and] at h'
 unfold chkO
 cases e1:belB m n (rwA2 ls) (rwB2 ls false) (fvR x)
 ·simp
 ·rw [e1,Bool.true_and] at h'
  rw [←h']
  simp
theorem jkV {o p f3 f4:Bool} {z1 z2:Rat} (hx:(decide (x.length=n)&&x.all fnF)=true) (hy:(decide (y.length=m)&&y.all fnF)=true) (h:(true&& !o)=(!false&&belB m n (rwA2 ls) (rwB2 ls false) (fvR x))) (h':(true&& !p)=(!o&&covB m n (rwA2 ls) (fvR l) (fvR y)))
 (h3:f3=(p|| !prdK (fvR y) (rwB2 ls false) m)) (h4:f4=(f3|| !prdK (fvR l) (fvR x) n)) (g1:prdK (fvR y) (rwB2 ls false) m=true→z1=smQ (fun i=>fvR y i*rwB2 ls false i) m) (g2:prdK (fvR l) (fvR x) n=true→z2=smQ (fun j=>fvR l j*fvR x j) n) :
 chkO n m l ls x y=(decide (z1=z2)&& !f4):=by
 have h1:(!o)=belB m n (rwA2 ls) (rwB2 ls false) (fvR x):=by simpa using h
 have h2:(!p)=(belB m n (rwA2 ls) (rwB2 ls false) (fvR x)&&covB m n (rwA2 ls) (fvR l) (fvR y)):=by rw [←h1];simpa using h'
 unfold chkO
 rw [hx,hy,Bool.true_and,Bool.true_and,←h2,h4,h3]
 cases e1:prdK (fvR y) (rwB2 ls false) m
 ·simp
 cases e2:prdK (fvR l) (fvR x) n
 ·simp
 rw [g1 e1,g2 e2]
 cases p <;> simp
theorem chkN_x (h:decide (x.length=0)=false):chkN n m ls x y=false:=by unfold chkN;rw [h];simp
theorem chkN_y (h:(decide (y.length=m)&&y.all fnF)=false):chkN n m ls x y=false:=by unfold chkN;rw [h];simp
theorem chkN_c {o:Bool} (h:(false&& !o)=(!false&&covB m n (rwA2 ls) jcA (fvR y))):chkN n m ls x y=false:=by
 have h:covB m n (rwA2 ls) jcA (fvR y)=false:=by simpa using h.symm
 unfold chkN;rw [h];simp
theorem jkU {p f3:Bool} {z1:Rat} (hx:decide (x.length=0)=true) (hy:(decide (y.length=m)&&y.all fnF)=true) (h':(true&& !p)=(!false&&covB m n (rwA2 ls) jcA (fvR y)))
 (h3:f3=(p|| !prdK (fvR y) (rwB2 ls false) m)) (g1:prdK (fvR y) (rwB2 ls false) m=true→z1=smQ (fun i=>fvR y i*rwB2 ls false i) m):chkN n m ls x y=(decide (z1<0)&& !f3):=by
 have h2:(!p)=covB m n (rwA2 ls) jcA (fvR y):=by simpa using h'
 unfold chkN
 rw [hx,hy,Bool.true_and,Bool.true_and,←h2,h3]
 cases e1:prdK (fvR y) (rwB2 ls false) m
 ·simp
 rw [g1 e1]
 cases p <;> simp
theorem chkR_y (h:decide (y.length=0)=false):chkR n m l ls x y=false:=by unfold chkR;rw [h];simp
theorem chkR_x (h:(decide (x.length=n)&&x.all fnF)=false):chkR n m l ls x y=false:=by unfold chkR;rw [h];simp
theorem chkR_b {o:Bool} (h:(false&& !o)=(!false&&belB m n (rwA2 ls) (rwB2 ls true) (fvR x))):chkR n m l ls x y=false:=by
 have h:belB m n (rwA2 ls) (rwB2 ls true) (fvR x)=false:=by simpa using h.symm
 unfold chkR;rw [h];simp
theorem jkW {p f3:Bool} {z1:Rat} (hy:decide (y.length=0)=true) (hx:(decide (x.length=n)&&x.all fnF)=true) (h':(true&& !p)=(!false&&belB m n (rwA2 ls) (rwB2 ls true) (fvR x)))
 (h3:f3=(p|| !prdK (fvR l) (fvR x) n)) (g1:prdK (fvR l) (fvR x) n=true→z1=smQ (fun j=>fvR l j*fvR x j) n):chkR n m l ls x y=(decide (0<z1)&& !f3):=by
 have h2:(!p)=belB m n (rwA2 ls) (rwB2 ls true) (fvR x):=by simpa using h'
 unfold chkR
 rw [hx,hy,Bool.true_and,Bool.true_and,←h2,h3]
 cases e1:prdK (fvR l) (fvR x) n
 ·simp
 rw [g1 e1]
 cases p <;> simp
end
theorem prd8 {a x:Nat→Rat} {i j l:Nat} {K B:Int} (hK:((K:Int):Rat)≠0) (hl:(K.natAbs:Int)<pw l) (hB:8*B<pw l) (hB0:0≤B) (hij:i+j≤60) (hs:l+(i+j)+1≤60):∀ {n:Nat},n≤8→(∀k,k<n→Pt i (a k)∧Pt j (x k)∧IsI (a k*x k*((K:Int):Rat)) B)→prdK a x n=true∧IsI (smQ (fun k=>a k*x k) n*((K:Int):Rat)) (n*B)∧Pt l (smQ (fun k=>a k*x k) n)
 | 0,hn,h=>by
  have h0:IsI (smQ (fun k=>a k*x k) 0*((K:Int):Rat)) ((0:Nat)*B):=by
   rw [smQ,Rat.zero_mul]
   exact IsI.zero ZO
  exact ⟨rfl,h0,h0.pt hK hl ZO⟩
 | n+1,hn,h=>by
  obtain ⟨h1,h2,h3⟩:=prd8 hK hl hB hB0 hij hs (n:=n) ZO (fun k hk=>h k ZO)
  obtain ⟨g1,g2,g3⟩:=h n ZO
  obtain ⟨k1,k2⟩:=g1.mul g2 hij
  obtain ⟨k3,-⟩:=h3.add k2 hs
  have h4:IsI (smQ (fun k=>a k*x k) (n+1)*((K:Int):Rat)) ((n+1:Nat)*B):=by
   have e:smQ (fun k=>a k*x k) (n+1)*((K:Int):Rat)=smQ (fun k=>a k*x k) n*((K:Int):Rat)+a n*x n*((K:Int):Rat):=by
    rw [smQ]
    grind
   rw [e]
   refine (h2.add g3).mono ?_
   push_cast
   rw [Int.add_mul]
   omega
  refine ⟨?_,h4,h4.pt hK hl ?_⟩
  ·rw [jde,h1,k1,k3]
   rfl
  ·have:((n+1:Nat):Int)*B≤8*B:=Int.mul_le_mul_of_nonneg_right ZO hB0
   omega
def Kd (V:Int) (n:Nat) (x:Nat→Rat):Prop:=∃K:Int,((K:Int):Rat)≠0∧(K.natAbs:Int)≤24∧∀u,u<n→IsI (x u*((K:Int):Rat)) V
theorem Kd.congr {V:Int} {n:Nat} {x y:Nat→Rat} (h:Kd V n x) (e:∀u,u<n→y u=x u):Kd V n y:=by
 obtain ⟨K,h1,h2,h3⟩:=h
 exact ⟨K,h1,h2,fun u hu=>by rw [e u hu];exact h3 u hu⟩
theorem Kd.pt {V:Int} {n:Nat} {x:Nat→Rat} (h:Kd V n x) (hV:V<pw 3):∀u,u<n→Pt 3 (x u):=by
 obtain ⟨K,h1,h2,h3⟩:=h
 have p4:(24:Int)<pw 3:=by decide
 exact fun u hu=>(h3 u hu).pt h1 ZO hV
theorem IsI.pt1 {q:Rat} {W:Int} {l:Nat} (h:IsI q W) (hl:1<pw l) (hW:W<pw l):Pt l q:=by
 refine IsI.pt (K:=1) (B:=W) ?_ Zb4 (by simpa using hl) hW
 have e:q*(((1:Int):Int):Rat)=q:=by
  have:(((1:Int):Int):Rat)=1:=rfl
  rw [this]
  grind
 rw [e]
 exact h
theorem Kd.prd {V W:Int} {n:Nat} {a x:Nat→Rat} (h:Kd V n x) (hn:n≤8) (ha:∀u,u<n→IsI (a u) W) (h0:0≤W*V) (hb:8*(W*V)<pw 4) (hV:V<pw 3) (hW:W<pw 3):prdK a x n=true:=by
 have hp:=h.pt hV
 obtain ⟨K,h1,h2,h3⟩:=h
 have p4:(24:Int)<pw 4:=by decide
 refine (prd8 (i:=3) (j:=3) (l:=4) (B:=W*V) h1 ZO hb h0 Zb4 Zb4 hn fun u hu=>⟨(ha u hu).pt1 Zb4 hW,hp u hu,?_⟩).1
 rw [Rat.mul_assoc]
 exact (ha u hu).mul (h3 u hu)
def KdE (m n:Nat):jem→Prop
 | .best x y=>Kd 96000000000000000 n x∧Kd 24 m y
 | _=>True
section
variable {m n:Nat} {A:Nat→Nat→Rat} {b c:Nat→Rat} {D:Dc} {l:List Fv} {ls:List Rv}
theorem jmV (hn4:n≤4) {R:Option Dc} (hS:Srch m n D R) (hD:D.Ok m n) (hU:Dua m n A b c D) (hd:det4 (padM n (colM n A D))≠0):∀D',R=some D'→D'.Ok m n∧Dua m n A b c D'∧det4 (padM n (colM n A D'))≠0:=by
 induction hS with
 | stop _=>intro D' e;cases e;exact ⟨hD,hU,hd⟩
 | full hp hf=>intro D' e;cases e
 | step hp hf hR ih =>
  intro D' e
  obtain ⟨h1,h2,-⟩:=Dc.pick_swap hD hp
  have h3:=jdw hD hp
  exact ih (hD.xch h1 h2) (hU.xch h1 h2 h3) (jgE hn4 hU h1 h2 h3 hd) D' e
theorem Sm01.kd (h:Sm01 m n A b c) {E:jem} (hE:jaZ m n A b c E):KdE m n E:=by
 have hn4:n≤4:=by have:=h.hn;omega
 cases hE with
 | full1 _=>trivial
 | full2 _ _ _=>trivial
 | none _ _=>trivial
 | @fin D1 D2 h1 hr h2 =>
  unfold je4
  split
  ·trivial
  ·obtain ⟨g1,g2,g3⟩:=jmV hn4 h2 (jdc m n A b c) Dua.opn (jeV hn4) _ rfl
   obtain ⟨K,k1,k2,-,k3,k4⟩:=h.keys g1 g2 g3
   refine ⟨⟨K,k1,k2,fun u hu=>?_⟩,K,k1,k2,fun u hu=>?_⟩
   ·unfold xB
    rcases jcr D2.own u m with ⟨e,-⟩|⟨i,e,hi,-⟩
    ·rw [e]
     show IsI (0*_) _
     rw [Rat.zero_mul]
     exact IsI.zero Zb4
    ·rw [e]
     exact k4 i hi
   ·unfold yB
    rcases jcr D2.free (n+u) n with ⟨e,-⟩|⟨j,e,hj,-⟩
    ·rw [e]
     show IsI (0*_) _
     rw [Rat.zero_mul]
     exact IsI.zero Zb4
    ·rw [e]
     show IsI ((0-D2.c j)*_) _
     have:=(k3 j hj).neg
     rw [show (0-D2.c j)*((K:Int):Rat)= -(D2.c j*((K:Int):Rat)) by grind]
     exact this
end
structure Gm (m n:Nat) (A:Nat→Nat→Rat) (b c:Nat→Rat):Prop where
 sm:Sm01 m n A b c
 m8:m≤8
 pos:∀i,i<m→0≤b i
 alone:∀u,u<n→∃i,i<m∧∀l,l<n→A i l=if l=u then 1 else 0
section
variable {m n:Nat} {A:Nat→Nat→Rat} {b c:Nat→Rat} {l:List Fv} {ls:List Rv}
theorem jkq {f:Nat→Rat}:∀ {n:Nat},(∀i,i<n→0≤f i)→0≤smQ f n
 | 0,_=>Rat.le_refl
 | n+1,h=>by
  rw [smQ]
  exact Rat.add_nonneg (jkq fun i hi=>h i ZO) (h n ZO)
theorem Gm.best (h:Gm m n A b c) {E:jem} (hE:jaZ m n A b c E):∃x y,E=.best x y:=by
 cases E with
 | full=>exact absurd rfl (h.sm.says hE)
 | none y =>
  have h1:=hE.isN
  have h2:0≤smQ (fun i=>y i*b i) m:=jkq fun i hi=>Rat.mul_nonneg (h1.1.1 i hi) (h.pos i hi)
  exact absurd h1.2 (Rat.not_lt.2 h2)
 | ray x =>
  have h1:=hE.isR
  have hx:∀u,u<n→x u=0:=fun u hu=>by
   obtain ⟨i,hi,hA⟩:=h.alone u hu
   have h2:=h1.1.2 i hi
   rw [jcg hu fun k hk hne=>by rw [hA k hk,if_neg hne,Rat.zero_mul],hA u hu,if_pos rfl,Rat.one_mul] at h2
   exact Rat.le_antisymm h2 (h1.1.1 u hu)
  have h2:=h1.2
  rw [jaL fun u hu=>by rw [hx u hu,Rat.mul_zero]] at h2
  exact absurd h2 (Rat.not_lt.2 Rat.le_refl)
 | best x y=>exact ⟨x,y,rfl⟩
theorem Gm.chk {x y:Nat→Rat} (h:Gm m n (rwA2 ls) (rwB2 ls false) (fvR l)) (hE:jaZ m n (rwA2 ls) (rwB2 ls false) (fvR l) (.best x y)) (hf:∀i,i<n→jaF (x i)=true) (hg:∀i,i<m→jaF (y i)=true):chkO n m l ls (ofF n fun i=>fvQ (x i)) (ofF m fun i=>fvQ (y i))=true:=by
 have hc:=hE.isB
 obtain ⟨k1,k2⟩:Kd 96000000000000000 n x∧Kd 24 m y:=h.sm.kd hE
 have e:=jcq (n:=n) (f:=x)
 have g:=jcq (n:=m) (f:=y)
 have hd1:=k1.congr e
 have hd2:=k2.congr g
 have hn8:n≤8:=by have:=h.sm.hn;omega
 have s1:∀i,smQ (fun j=>rwA2 ls i j*fvR (ofF n fun i=>fvQ (x i)) j) n=smQ (fun j=>rwA2 ls i j*x j) n:=fun i=>jaj fun j hj=>by rw [e j hj]
 have s2:smQ (fun j=>fvR l j*fvR (ofF n fun i=>fvQ (x i)) j) n=smQ (fun j=>fvR l j*x j) n:=jaj fun i hi=>by rw [e i hi]
 have t1:∀j,smQ (fun i=>fvR (ofF m fun i=>fvQ (y i)) i*rwA2 ls i j) m=smQ (fun i=>y i*rwA2 ls i j) m:=fun j=>jaj fun i hi=>by rw [g i hi]
 have t2:smQ (fun i=>fvR (ofF m fun i=>fvQ (y i)) i*rwB2 ls false i) m=smQ (fun i=>y i*rwB2 ls false i) m:=jaj fun i hi=>by rw [g i hi]
 have b1:belB m n (rwA2 ls) (rwB2 ls false) (fvR (ofF n fun i=>fvQ (x i)))=true:=jcx.2 fun i hi=>⟨hd1.prd hn8 (fun u hu=>h.sm.A01 i u hi hu) Zb4 Zb4 Zb4 Zb4,decide_eq_true (by rw [s1];exact hc.1.2 i hi)⟩
 have b2:covB m n (rwA2 ls) (fvR l) (fvR (ofF m fun i=>fvQ (y i)))=true:=jcx.2 fun j hj=>⟨by
  rw [jd6]
  exact hd2.prd h.m8 (fun u hu=>h.sm.A01 u j hu hj) Zb4 Zb4 Zb4 Zb4,decide_eq_true (by rw [t1];exact hc.2.1.2 j hj)⟩
 have b3:prdK (fvR (ofF m fun i=>fvQ (y i))) (rwB2 ls false) m=true:=by
  rw [jd6]
  exact hd2.prd h.m8 (fun u hu=>h.sm.bI u hu) Zb4 Zb4 Zb4 Zb4
 have b4:prdK (fvR l) (fvR (ofF n fun i=>fvQ (x i))) n=true:=hd1.prd hn8 (fun u hu=>h.sm.c01 u hu) Zb4 Zb4 Zb4 Zb4
 unfold chkO
 rw [b1,b2,b3,b4,s2,t2,decide_eq_true hc.2.2,jag,jag,jdH hc.1.1 hf,jdH hc.2.1.1 hg]
 simp
end
theorem jgQ (w:World) (a b c d:Value):(Instr.field 29 (.agg #[a,b,c,d]) 0).run Tryz.prog w=.ok (.agg #[a,b]) w:=by
 have h1:=Tryz.underlying29
 have h2:=Tryz.underlying27
 simp [Instr.field,run_underlying h1,asAgg,part,isAgg,run_underlying h2]
theorem jgP (w:World) (a b:Value):(Instr.field 27 (.agg #[a,b]) 0).run Tryz.prog w=.ok a w:=by
 have h1:=Tryz.underlying27
 have h2:=Tryz.underlying3
 simp [Instr.field,run_underlying h1,asAgg,part,isAgg,run_underlying h2]
theorem jhZ (A A' X Y:Option Addr) (n cap m cap' nx cx ny cy:Nat) (l:List Fv) (ls:List Rv) (x y:List Fv) (er:Int) (w:World) (hl:RdF w w.heap.size A n cap l) (hr:RdR w w.heap.size A' m cap' ls) (hx:RdF w w.heap.size X nx cx x) (hy:RdF w w.heap.size Y ny cy y) (hn:n≤20) (hm:m≤40) (hok:(l.all Fv.ok&&ls.all (rowF n))=true) :
 Calls Tryz.prog 44 #[.agg #[.slice A n cap,.slice A' m cap'],.slice X nx cx,.slice Y ny cy,.int .i64 er] w fun e w'=>e=.returned (.bool (chkF n m l ls x y er))∧Below w.heap.size w w':=by
 have hcap:=hl.caps
 have hcap':=hr.caps
 have hcx:=hx.caps
 have hcy:=hy.caps
 have hlx:=hx.len
 have hly:=hy.len
 have HRt:=jpk (fun W (h:Below w.heap.size w W)=>jeD A A' n cap m cap' l ls W (hl.up jan h) (hr.up jg5 h) hn hm)
 rw [hok] at HRt
 rw [Bool.and_eq_true] at hok
 have HL:=jpk hr
 have HG:=jpk hl
 have HRow:=jpk (show ∀k X,ls[k]?=some X→rowF n X=true from fun k X h=>List.all_eq_true.1 hok.2 _ (List.mem_of_getElem? h))
 have HOkl:=jpk hok.1
 have HFx:=jpk (fun W (h:Below w.heap.size w W)=>jgR X nx cx n x W (hx.up jan h))
 have HFy:=jpk (fun W (h:Below w.heap.size w W)=>jgR Y ny cy m y W (hy.up jan h))
 obtain ⟨vl,hvl,K⟩:=(St.start w).fxOld hl
 obtain ⟨vx,hvx,K⟩:=K.fxOld hx
 obtain ⟨vy,hvy,K⟩:=K.fxOld hy
 have HVl:=jpk (show ∀j,j<n→isQ (vl j) (fvR l j) from fun j hj=>by
  have h1:=hvl j hj
  unfold fvR
  rw [h1,Option.map_some,Option.getD_some]
  exact jbW (List.all_eq_true.1 hok.1 _ (List.mem_of_getElem? h1)))
 have HVx:=jpk (show x.all fnF=true→∀j,j<nx→isQ (vx j) (fvR x j) from fun h j hj=>by
  have h1:=hvx j hj
  exact ZQ104)
 have HVy:=jpk (show y.all fnF=true→∀j,j<ny→isQ (vy j) (fvR y j) from fun h j hj=>by
  have h1:=hvy j hj
  exact ZQ104)
 clear hl hr hx hy hok hvl hvx hvy
 go_enter Tryz.func44,Tryz.ntmps44
 go_wp2_with (first
  | (apply K.box;rfl;rfl;rfl;clear K;intro W b0 K;have c0:=(K.blk (b:=b0) (cs:=#[.slice A n cap,.slice A' m cap']) (t:=57) ZMB).cell (j:=0) rfl;have c1:=(K.blk (b:=b0) (cs:=#[.slice A n cap,.slice A' m cap']) (t:=57) ZMB).cell (j:=1) rfl)
  | (go_at_call 59;refine (HRt.out _ K.1).mono ?_;rintro e W ⟨rfl,hb⟩;replace K:=K.keep hb;clear hb c0 c1;have c0:=(K.blk (b:=b0) (cs:=#[.slice A n cap,.slice A' m cap']) (t:=57) ZMB).cell (j:=0) rfl;have c1:=(K.blk (b:=b0) (cs:=#[.slice A n cap,.slice A' m cap']) (t:=57) ZMB).cell (j:=1) rfl))
 clear c0 c1
 replace K:St w ([]++[((b0,#[.slice A n cap,.slice A' m cap'],57):Blk)]) (⟨rwP 0 fun _=>Rw.zero,rwS 0 fun _=>Rw.zero⟩::((⟨fxP Y ny cy vy,fxS Y ny vy⟩:Hl)::⟨fxP X nx cx vx,fxS X nx vx⟩::⟨fxP A n cap vl,fxS A n vl⟩::[]:List Hl)) _:=K.rwNew 0
 go_loopg [9,22] m (fun gk s9 s22 wr=>∃(k:Nat) (u:Nat→Rw) (val:Value) (X1:List Blk),k≤m∧gk=m-k∧s9=val∧s22=.int .i64 k∧Hid (∀i,i<k→isQ (u i) (rwB2 ls false i))∧Hid (OwL 4 Rw.cs 29 val (ofF k u) X1)∧St w (X1++[((b0,#[.slice A n cap,.slice A' m cap'],57):Blk)]) (⟨rwP k u,rwS k u⟩::((⟨fxP Y ny cy vy,fxS Y ny vy⟩:Hl)::⟨fxP X nx cx vx,fxS X nx vx⟩::⟨fxP A n cap vl,fxS A n vl⟩::[]:List Hl)) wr)
 case atStart=>exact ⟨0,fun _=>Rw.zero,_,[],Nat.zero_le _,rfl,rfl,rfl,jpk (fun i h=>absurd h ZO),jpk OwL.nil,K⟩
 case round =>
  clear K
  obtain ⟨k,u,val,X1,hk,rfl,rfl,rfl,HA,Ho,K⟩:=hrel
  by_cases hlt:k<m
  ·have hki:(k:Int)<(m:Int):=by omega
   have hk0:(0:Int)≤(k:Int):=by omega
   have hltd:decide (k<m)=true:=decide_eq_true hlt
   obtain ⟨eb,eo,A0,n0,c0,A1,n1,c1,A2,n2,c2,X5,hA,hbB,hX,⟨z0,z1,z2,z3,z4⟩,r0,r1,r2⟩:=HL.out.atR hlt
   subst hA
   have y0:=(K.1.cell (p:=⟨eb,eo+k*5,none⟩) hbB).trans z0
   have y1:=(K.1.cell (p:=⟨eb,eo+k*5+1,none⟩) hbB).trans z1
   have y2:=(K.1.cell (p:=⟨eb,eo+k*5+2,none⟩) hbB).trans z2
   have y3:=(K.1.cell (p:=⟨eb,eo+k*5+3,none⟩) hbB).trans z3
   have y4:=(K.1.cell (p:=⟨eb,eo+k*5+4,none⟩) hbB).trans z4
   have hc0:=r0.caps
   have hc1:=r1.caps
   have hc2:=r2.caps
   have hF:=HRow.out k X5 hX
   unfold rowF at hF
   rw [Bool.and_eq_true,Bool.and_eq_true,decide_eq_true_eq] at hF
   obtain ⟨q,hq⟩:∃q:Rw,q=⟨X5.b.s,A1,n1,c1,X5.b.l,X5.b.t,A2,n2,c2,X5.b.m⟩:=⟨_,rfl⟩
   have HE:=jpk (show isQ q (rwB2 ls false k) from by
    unfold rwB2
    rw [if_neg Zb4,hX,Option.map_some,Option.getD_some,hq]
    exact jbW hF.1.2)
   replace K:=(K.rdOld r1).rdOld r2
   have ey:X5.b.s=q.s∧A1=q.A∧n1=q.n∧c1=q.c∧X5.b.t=q.t∧A2=q.B∧n2=q.m∧c2=q.d∧X5.b.l=q.l∧X5.b.m=q.k:=by rw [hq];exact ⟨rfl,rfl,rfl,rfl,rfl,rfl,rfl,rfl,rfl,rfl⟩
   obtain ⟨q1,q2,q3,q4,q5,q6,q7,q8,q9,q10⟩:=ey
   rw [q1] at y1
   rw [q2,q3,q4] at y2
   rw [q5] at y3
   rw [q6,q7,q8] at y4
   rw [q2,q3,q4,q6,q7,q8,q9,q10] at K
   rw [q3,q4] at hc1
   rw [q7,q8] at hc2
   clear hX z0 z1 z2 z3 z4 r0 r1 r2 q1 q2 q3 q4 q5 q6 q7 q8 q9 q10 hq hF
   go_wp2_with (first
    | (apply K.alloc;rfl;rfl;exact ja3;clear K;intro W b1 K)
    | (apply K.storeA;rfl;rfl;rfl;rfl;rfl;(exact ZUP);exact ja2;rfl;rfl;rfl;clear K y0 y1 y2 y3 y4;intro W K;have hB:=K.blk (b:=b1) (cs:=#[.slice A0 n0 c0,.int .i64 q.s,.slice q.A q.n q.c,.int .i64 q.t,.slice q.B q.m q.d]) (t:=97) ZMB;have f0:=hB.cell (j:=0) rfl;have f1:=hB.cell (j:=1) rfl;have f2:=hB.cell (j:=2) rfl;have f3:=hB.cell (j:=3) rfl;have f4:=hB.cell (j:=4) rfl;clear hB;replace K:=K.mid)
    | (at_builtin;refine K.app1 Ho.out ja4 rfl _ _ 25 rfl _ 64 Tryz.underlying25 jbF rfl rfl q _ rfl _ rfl (by exact rfl) Zb3 ZO ?_;clear f0 f1 f2 f3 f4;intro v4 X4 W4 ho4 K4))
   rw [jbz] at ho4
   have HA2:=jpk (show ∀i,i<k+1→isQ (putF u k q i) (rwB2 ls false i) from fun i hi=>by
    by_cases e:i=k
    ·rw [e,jaf]
     exact HE.out
    ·rw [jad e]
     exact HA.out i ZO)
   have Ho2:=jpk ho4
   have HK:=jpk ((K4.cutm.rwAdd (v:=u) (n:=k) q ZMB ZMB ZMB).lessS (D':=⟨rwP (k+1) (putF u k q),rwS (k+1) (putF u k q)⟩::((⟨fxP Y ny cy vy,fxS Y ny vy⟩:Hl)::⟨fxP X nx cx vx,fxS X nx vx⟩::⟨fxP A n cap vl,fxS A n vl⟩::[]:List Hl)) Zb10)
   clear K4 K ho4 HA Ho HE
   go_roundg (m-(k+1))
   case rel=>exact ⟨k+1,_,_,X4,hlt,rfl,rfl,by go_num,HA2,Ho2,HK.out⟩
   case measure=>omega
  ·have e:m=k:=by omega
   subst e
   have hltd:decide (m<m)=false:=decide_eq_false hlt
   obtain ⟨Av,cv,hv,K⟩:=K.fxOwL Ho.out ZMB ZO
   subst hv
   clear Ho hlt
   go_upto_region 11 with (apply K.box;rfl;rfl;rfl;clear K;intro W bS K)
   replace K:St w (((bS,(Value.bool false::[]).toArray,87):Blk)::[((b0,#[.slice A n cap,.slice A' m cap'],57):Blk)]) ((⟨fxP Av m cv u,fxS Av m u⟩:Hl)::((⟨fxP Y ny cy vy,fxS Y ny vy⟩:Hl)::⟨fxP X nx cx vx,fxS X nx vx⟩::⟨fxP A n cap vl,fxS A n vl⟩::[]:List Hl)) W:=K.lessS Zb10
   have c0:=(K.blk (b:=b0) (cs:=#[.slice A n cap,.slice A' m cap']) (t:=57) ZMB).cell (j:=0) rfl
   have c1:=(K.blk (b:=b0) (cs:=#[.slice A n cap,.slice A' m cap']) (t:=57) ZMB).cell (j:=1) rfl
   go_quiet (fail)
   rename_i nq
   replace K:=K.drewN nq
   generalize W.drewN nq=W at K ⊢
   clear c0 c1
   have HBv:=HA
   clear HA
   have HBe:=jpk (fun V D5 (h:St w (((bS,(Value.bool false::[]).toArray,87):Blk)::[((b0,#[.slice A n cap,.slice A' m cap'],57):Blk)]) D5 V) (m5:(⟨fxP X nx cx vx,fxS X nx vx⟩:Hl)∈D5) (hxa:x.all fnF=true) (hnx:n=nx)=>jhT w V _ D5 bS false [] 87 A A' X n cap m cap' nx cx ls vx (fvR x) h List.mem_cons_self HL.out HRow.out m5 ⟨by omega,by omega⟩ (fun i hi=>HVx.out hxa i ZO))
   have HBz:=jpk (fun V D5 (h:St w (((bS,(Value.bool false::[]).toArray,87):Blk)::[((b0,#[.slice A n cap,.slice A' m cap'],57):Blk)]) D5 V) (m5:(⟨fxP X nx cx vx,fxS X nx vx⟩:Hl)∈D5) (hxa:x.all fnF=true) (hnx:n=nx)=>jhm w V _ D5 bS false [] 87 A A' X n cap m cap' nx cx ls vx (fvR x) h List.mem_cons_self HL.out HRow.out m5 ⟨by omega,by omega⟩ (fun i hi=>HVx.out hxa i ZO))
   have HCo:=jpk (fun bk V D5 (h:St w (((bS,(Value.bool bk::[]).toArray,87):Blk)::[((b0,#[.slice A n cap,.slice A' m cap'],57):Blk)]) D5 V) (m5:(⟨fxP Y m cy vy,fxS Y m vy⟩:Hl)∈D5) (hya:y.all fnF=true) (hny:m=ny)=>jhq w V _ D5 bS bk [] 87 A A' Y n cap m cap' cy l ls vy (fvR y) h List.mem_cons_self HG.out HL.out HOkl.out HRow.out m5 ZO (fun i hi=>HVy.out hya i ZO))
   have HCz:=jpk (fun bk V D5 (h:St w (((bS,(Value.bool bk::[]).toArray,87):Blk)::[((b0,#[.slice A n cap,.slice A' m cap'],57):Blk)]) D5 V) (m5:(⟨fxP Y m cy vy,fxS Y m vy⟩:Hl)∈D5) (hya:y.all fnF=true) (hny:m=ny)=>jf7 w V _ D5 bS bk [] 87 A A' Y n cap m cap' cy l ls vy (fvR y) h List.mem_cons_self HG.out HL.out HOkl.out HRow.out m5 ZO (fun i hi=>HVy.out hya i ZO))
   have HP1:=jpk (fun bk bl (hb:bl=(bk|| !prdK (fvR y) (rwB2 ls false) m)) V D5 (h:St w (((bS,(Value.bool bk::[]).toArray,87):Blk)::[((b0,#[.slice A n cap,.slice A' m cap'],57):Blk)]) D5 V) (m5:(⟨fxP Y m cy vy,fxS Y m vy⟩:Hl)∈D5) (m6:(⟨fxP Av m cv u,fxS Av m u⟩:Hl)∈D5) (hya:y.all fnF=true) (hny:m=ny)=>jbB w V _ (((bS,(Value.bool bl::[]).toArray,87):Blk)::[((b0,#[.slice A n cap,.slice A' m cap'],57):Blk)]) D5 bS bk bl [] 87 Y Av m cy m cv vy u (fvR y) (rwB2 ls false) h m5 m6 ⟨Nat.le_refl _,by omega⟩ (fun i hi=>HVy.out hya i ZO) HBv.out hb (.head _))
   have HP2:=jpk (fun bk bl (hb:bl=(bk|| !prdK (fvR l) (fvR x) n)) V D5 (h:St w (((bS,(Value.bool bk::[]).toArray,87):Blk)::[((b0,#[.slice A n cap,.slice A' m cap'],57):Blk)]) D5 V) (m5:(⟨fxP A n cap vl,fxS A n vl⟩:Hl)∈D5) (m6:(⟨fxP X nx cx vx,fxS X nx vx⟩:Hl)∈D5) (hxa:x.all fnF=true) (hnx:n=nx)=>jbB w V _ (((bS,(Value.bool bl::[]).toArray,87):Blk)::[((b0,#[.slice A n cap,.slice A' m cap'],57):Blk)]) D5 bS bk bl [] 87 A X n cap nx cx vl vx (fvR l) (fvR x) h m5 m6 ⟨by omega,by omega⟩ HVl.out (fun i hi=>HVx.out hxa i ZO) hb (.head _))
   clear HRt HL HG HRow HOkl HVl HVx HVy HBv
   by_cases he0:er=0
   case pos =>
    subst he0
    have HcF:=jpk (show chkF n m l ls x y 0=chkO n m l ls x y from if_pos rfl)
    go_upto_region 14 with fail
    cases hfx:(decide (nx=n)&&x.all fnF)
    case false =>
     rw [hfx] at HFx
     rw [←hlx] at hfx
     have HSA:=jpk (fun V Lx Dx (h:St w Lx Dx V) (m5:((b0,#[.slice A n cap,.slice A' m cap'],57):Blk)∈Lx)=>(show V.cell? ⟨b0,0,none⟩=some (.slice A n cap)∧V.cell? ⟨b0,1,none⟩=some (.slice A' m cap') from ⟨(h.blk m5).cell (j:=0) rfl,(h.blk m5).cell (j:=1) rfl⟩))
     have K0:=K.drew
     have s0:=HSA.out _ _ _ K0 ZMB
     clear K
     refine jak 100 (fun V=>V.cell? ⟨b0,0,none⟩=some (.slice A n cap)∧V.cell? ⟨b0,1,none⟩=some (.slice A' m cap')) Zb9 s0 (fun hSh=>?_)
     clear s0
     generalize World.drew W=V0 at K0 hSh ⊢
     refine jaa.tkB 0 rfl ?_
     refine jaa.tkB 1 rfl ?_
     refine jaa.onW 2 rfl fun KK hKK=>?_
     go_simp
     go_at_call 79
     refine (HFx.out _ K0.1).mono ?_
     rintro e V0 ⟨rfl,hb⟩
     replace K0:=K0.keep hb
     clear hb
     go_wp2_with fail
     refine hKK.out _ _ (HSA.out _ _ _ K0 ZMB) (fun hSh=>?_)
     clear hKK KK
     refine ZPT ?_
     refine jaa.tkB 3 rfl ?_
     refine jaa.tkN 4 rfl ?_
     refine jaa.tkN 5 rfl ?_
     refine jaa.tkN 6 rfl ?_
     refine jaa.tkB 7 rfl ?_
     refine jaa.tkB 8 rfl ?_
     refine jaa.tkN 9 rfl ?_
     refine jaa.tkN 10 rfl ?_
     refine jaa.tkN 11 rfl ?_
     refine jaa.tkN 12 rfl ?_
     refine jaa.tkB 13 rfl ?_
     refine jaa.tkB 14 rfl ?_
     refine jaa.tkN 15 rfl ?_
     refine jaa.tkN 16 rfl ?_
     refine jaa.tkN 17 rfl ?_
     refine jaa.tkN 18 rfl ?_
     refine jaa.tkB 19 rfl ?_
     refine jaa.tkB 20 rfl ?_
     refine jaa.tkN 21 rfl ?_
     refine jaa.tkN 22 rfl ?_
     refine jaa.tkN 23 rfl ?_
     refine jaa.tkN 24 rfl ?_
     refine jaa.tkN 25 rfl ?_
     refine jaa.tkN 26 rfl ?_
     refine jaa.tkN 27 rfl ?_
     refine jaa.tkN 28 rfl ?_
     refine jaa.tkN 29 rfl ?_
     refine jaa.tkN 30 rfl ?_
     refine jaa.tkN 31 rfl ?_
     refine jaa.tkB 32 rfl ?_
     refine jaa.tkB 33 rfl ?_
     refine jaa.done Zb9 ?_
     clear hSh
     have hB:=K0.blk (b:=bS) (t:=87) List.mem_cons_self
     have sc:=hB.cell (j:=0) rfl
     have HE:=jpk (show chkO n m l ls x y=false from chkO_x hfx)
     have hbE:=K0.1
     clear hB K0
     exact ZQ32
    rw [hfx] at HFx
    cases hfy:(decide (ny=m)&&y.all fnF)
    case false =>
     rw [hfy] at HFy
     rw [←hly] at hfy
     have HSA:=jpk (fun V Lx Dx (h:St w Lx Dx V) (m5:((b0,#[.slice A n cap,.slice A' m cap'],57):Blk)∈Lx)=>(show V.cell? ⟨b0,0,none⟩=some (.slice A n cap)∧V.cell? ⟨b0,1,none⟩=some (.slice A' m cap') from ⟨(h.blk m5).cell (j:=0) rfl,(h.blk m5).cell (j:=1) rfl⟩))
     have K0:=K.drew
     have s0:=HSA.out _ _ _ K0 ZMB
     clear K
     refine jak 100 (fun V=>V.cell? ⟨b0,0,none⟩=some (.slice A n cap)∧V.cell? ⟨b0,1,none⟩=some (.slice A' m cap')) Zb9 s0 (fun hSh=>?_)
     clear s0
     generalize World.drew W=V0 at K0 hSh ⊢
     refine jaa.tkB 0 rfl ?_
     refine jaa.tkB 1 rfl ?_
     refine jaa.onW 2 rfl fun KK hKK=>?_
     go_simp
     go_at_call 79
     refine (HFx.out _ K0.1).mono ?_
     rintro e V0 ⟨rfl,hb⟩
     replace K0:=K0.keep hb
     clear hb
     go_wp2_with fail
     refine hKK.out _ _ (HSA.out _ _ _ K0 ZMB) (fun hSh=>?_)
     clear hKK KK
     refine ZPT ?_
     refine jaa.tkB 3 rfl ?_
     refine jaa.tkB 4 rfl ?_
     refine jaa.tkB 5 rfl ?_
     refine jaa.onW 6 rfl fun KK hKK=>?_
     go_simp
     go_at_call 79
     refine (HFy.out _ K0.1).mono ?_
     rintro e V0 ⟨rfl,hb⟩
     replace K0:=K0.keep hb
     clear hb
     go_wp2_with fail
     refine hKK.out _ _ (HSA.out _ _ _ K0 ZMB) (fun hSh=>?_)
     clear hKK KK
     refine ZPT ?_
     refine jaa.tkB 7 rfl ?_
     refine jaa.tkB 8 rfl ?_
     refine jaa.tkN 9 rfl ?_
     refine jaa.tkN 10 rfl ?_
     refine jaa.tkN 11 rfl ?_
     refine jaa.tkN 12 rfl ?_
     refine jaa.tkB 13 rfl ?_
     refine jaa.tkB 14 rfl ?_
     refine jaa.tkN 15 rfl ?_
     refine jaa.tkN 16 rfl ?_
     refine jaa.tkN 17 rfl ?_
     refine jaa.tkN 18 rfl ?_
     refine jaa.tkB 19 rfl ?_
     refine jaa.tkB 20 rfl ?_
     refine jaa.tkN 21 rfl ?_
     refine jaa.tkN 22 rfl ?_
     refine jaa.tkN 23 rfl ?_
     refine jaa.tkN 24 rfl ?_
     refine jaa.tkN 25 rfl ?_
     refine jaa.tkN 26 rfl ?_
     refine jaa.tkN 27 rfl ?_
     refine jaa.tkN 28 rfl ?_
     refine jaa.tkN 29 rfl ?_
     refine jaa.tkN 30 rfl ?_
     refine jaa.tkN 31 rfl ?_
     refine jaa.tkB 32 rfl ?_
     refine jaa.tkB 33 rfl ?_
     refine jaa.done Zb9 ?_
     clear hSh
     have hB:=K0.blk (b:=bS) (t:=87) List.mem_cons_self
     have sc:=hB.cell (j:=0) rfl
     have HE:=jpk (show chkO n m l ls x y=false from chkO_y hfy)
     have hbE:=K0.1
     clear hB K0
     exact ZQ32
    rw [hfy] at HFy
    have Hfx:Hid ((decide (x.length=n)&&x.all fnF)=true):=jpk (by rw [hlx];exact hfx)
    have Hfy:Hid ((decide (y.length=m)&&y.all fnF)=true):=jpk (by rw [hly];exact hfy)
    rw [Bool.and_eq_true,decide_eq_true_eq] at hfx hfy
    obtain ⟨hnx,hxa⟩:=hfx
    obtain ⟨hny,hya⟩:=hfy
    have hnx:=hnx.symm
    have hny:=hny.symm
    subst hnx hny
    have HSA:=jpk (fun V Lx Dx (h:St w Lx Dx V) (m5:((b0,#[.slice A n cap,.slice A' m cap'],57):Blk)∈Lx)=>(show V.cell? ⟨b0,0,none⟩=some (.slice A n cap)∧V.cell? ⟨b0,1,none⟩=some (.slice A' m cap') from ⟨(h.blk m5).cell (j:=0) rfl,(h.blk m5).cell (j:=1) rfl⟩))
    have K0:=K.drew
    have s0:=HSA.out _ _ _ K0 ZMB
    clear K
    refine jak 100 (fun V=>V.cell? ⟨b0,0,none⟩=some (.slice A n cap)∧V.cell? ⟨b0,1,none⟩=some (.slice A' m cap')) Zb9 s0 (fun hSh=>?_)
    clear s0
    generalize World.drew W=V0 at K0 hSh ⊢
    refine jaa.tkB 0 rfl ?_
    refine jaa.tkB 1 rfl ?_
    refine jaa.onW 2 rfl fun KK hKK=>?_
    go_simp
    go_at_call 79
    refine (HFx.out _ K0.1).mono ?_
    rintro e V0 ⟨rfl,hb⟩
    replace K0:=K0.keep hb
    clear hb
    go_wp2_with fail
    refine hKK.out _ _ (HSA.out _ _ _ K0 ZMB) (fun hSh=>?_)
    clear hKK KK
    refine ZPT ?_
    refine jaa.tkB 3 rfl ?_
    refine jaa.tkB 4 rfl ?_
    refine jaa.tkB 5 rfl ?_
    refine jaa.onW 6 rfl fun KK hKK=>?_
    go_simp
    go_at_call 79
    refine (HFy.out _ K0.1).mono ?_
    rintro e V0 ⟨rfl,hb⟩
    replace K0:=K0.keep hb
    clear hb
    go_wp2_with fail
    refine hKK.out _ _ (HSA.out _ _ _ K0 ZMB) (fun hSh=>?_)
    clear hKK KK
    refine ZPT ?_
    refine jaa.tkB 7 rfl ?_
    refine jaa.tkB 8 rfl ?_
    refine jaa.tkB 9 rfl ?_
    refine jaa.tkB 10 rfl ?_
    refine jaa.tkB 11 rfl ?_
    refine jaa.onW 12 rfl fun KK hKK=>?_
    go_simp
    go_at_call 80
    refine (HBe.out _ _ K0 ZMB hxa Zb0).mono ?_
    rintro e V0 ⟨o1,bb1,L5,rfl,hU,hs1,K5⟩
    have e5:=hU.out.headN K0.nodup
    subst e5
    replace K0:=K5
    clear K5 hU
    go_wp2_with fail
    refine hKK.out _ _ (HSA.out _ _ _ K0 ZMB) (fun hSh=>?_)
    clear hKK KK
    refine ZPT ?_
    cases o1
    ·refine jaa.tkB 13 rfl ?_
     refine jaa.tkB 14 rfl ?_
     refine jaa.tkN 15 rfl ?_
     refine jaa.tkN 16 rfl ?_
     refine jaa.tkN 17 rfl ?_
     refine jaa.tkN 18 rfl ?_
     refine jaa.tkB 19 rfl ?_
     refine jaa.tkB 20 rfl ?_
     refine jaa.tkN 21 rfl ?_
     refine jaa.tkN 22 rfl ?_
     refine jaa.tkN 23 rfl ?_
     refine jaa.tkN 24 rfl ?_
     refine jaa.tkN 25 rfl ?_
     refine jaa.tkN 26 rfl ?_
     refine jaa.tkN 27 rfl ?_
     refine jaa.tkN 28 rfl ?_
     refine jaa.tkN 29 rfl ?_
     refine jaa.tkN 30 rfl ?_
     refine jaa.tkN 31 rfl ?_
     refine jaa.tkB 32 rfl ?_
     refine jaa.tkB 33 rfl ?_
     refine jaa.done Zb9 ?_
     clear hSh
     have hB:=K0.blk (b:=bS) (t:=87) List.mem_cons_self
     have sc:=hB.cell (j:=0) rfl
     have HE:=jpk (show chkO n m l ls x y=false from chkO_b hs1.out)
     have hbE:=K0.1
     clear hB K0
     exact ZQ32
    ·refine jaa.tkB 13 rfl ?_
     refine jaa.tkB 14 rfl ?_
     refine jaa.tkB 15 rfl ?_
     refine jaa.tkB 16 rfl ?_
     refine jaa.tkB 17 rfl ?_
     refine jaa.onW 18 rfl fun KK hKK=>?_
     go_simp
     go_at_call 81
     refine (HCo.out _ _ _ K0 ZMB hya Zb0).mono ?_
     rintro e V0 ⟨o2,bb2,L5,rfl,hU,hs2,K5⟩
     have e5:=hU.out.headN K0.nodup
     subst e5
     replace K0:=K5
     clear K5 hU
     go_wp2_with fail
     refine hKK.out _ _ (HSA.out _ _ _ K0 ZMB) (fun hSh=>?_)
     clear hKK KK
     refine ZPT ?_
     cases o2
     ·refine jaa.tkB 19 rfl ?_
      refine jaa.tkB 20 rfl ?_
      refine jaa.tkN 21 rfl ?_
      refine jaa.tkN 22 rfl ?_
      refine jaa.tkN 23 rfl ?_
      refine jaa.tkN 24 rfl ?_
      refine jaa.tkN 25 rfl ?_
      refine jaa.tkN 26 rfl ?_
      refine jaa.tkN 27 rfl ?_
      refine jaa.tkN 28 rfl ?_
      refine jaa.tkN 29 rfl ?_
      refine jaa.tkN 30 rfl ?_
      refine jaa.tkN 31 rfl ?_
      refine jaa.tkB 32 rfl ?_
      refine jaa.tkB 33 rfl ?_
      refine jaa.done Zb9 ?_
      clear hSh
      have hB:=K0.blk (b:=bS) (t:=87) List.mem_cons_self
      have sc:=hB.cell (j:=0) rfl
      have HE:=jpk (show chkO n m l ls x y=false from chkO_c hs1.out hs2.out)
      have hbE:=K0.1
      clear hB K0
      exact ZQ32
     ·obtain ⟨f3,hf3⟩:∃f3,f3=(bb2|| !prdK (fvR y) (rwB2 ls false) m):=⟨_,rfl⟩
      obtain ⟨f4,hf4⟩:∃f4,f4=(f3|| !prdK (fvR l) (fvR x) n):=⟨_,rfl⟩
      refine jaa.tkB 19 rfl ?_
      refine jaa.tkB 20 rfl ?_
      refine jaa.tkB 21 rfl ?_
      refine jaa.tkB 22 rfl ?_
      refine jaa.tkB 23 rfl ?_
      refine jaa.tkB 25 rfl ?_
      refine jaa.tkB 26 rfl ?_
      refine jaa.tkB 27 rfl ?_
      refine jaa.tkB 28 rfl ?_
      refine jaa.onW 24 rfl fun KK hKK=>?_
      go_simp
      go_at_call 82
      refine (HP1.out _ _ hf3 _ _ K0 ZMB ZMB hya Zb0).mono ?_
      rintro e V0 ⟨q1,z1,rfl,g1,K5⟩
      replace K0:=K5
      clear K5
      go_wp2_with fail
      refine hKK.out _ _ (HSA.out _ _ _ K0 ZMB) (fun hSh=>?_)
      clear hKK KK
      refine ZPT ?_
      refine jaa.onW 29 rfl fun KK hKK=>?_
      go_simp
      go_at_call 82
      refine (HP2.out _ _ hf4 _ _ K0 ZMB ZMB hxa Zb0).mono ?_
      rintro e V0 ⟨q2,z2,rfl,g2,K5⟩
      replace K0:=K5
      clear K5
      go_wp2_with fail
      refine hKK.out _ _ (HSA.out _ _ _ K0 ZMB) (fun hSh=>?_)
      clear hKK KK
      refine ZPT ?_
      refine jaa.onW 30 rfl fun KK hKK=>?_
      go_simp
      go_at_call 23
      refine (jcX K0 g1.out.1 g2.out.1 ZMB ZMB ZMB ZMB).mono ?_
      rintro e V0 ⟨rfl,K5⟩
      replace K0:=K5
      clear K5
      go_wp2_with fail
      refine hKK.out _ _ (HSA.out _ _ _ K0 ZMB) (fun hSh=>?_)
      clear hKK KK
      refine ZPT ?_
      refine jaa.tkB 31 rfl ?_
      refine jaa.tkB 32 rfl ?_
      refine jaa.tkB 33 rfl ?_
      refine jaa.done Zb9 ?_
      clear hSh
      have HE:=jpk (jkV Hfx.out Hfy.out hs1.out hs2.out hf3 hf4 g1.out.2 g2.out.2)
      have hB:=K0.blk (b:=bS) (t:=87) List.mem_cons_self
      have sc:=hB.cell (j:=0) rfl
      have hbE:=K0.1
      clear hB K0 hf3 hf4 hs1 hs2
      by_cases hz:z1=z2
      ·have hcd:(cmpQ z1 z2==0)=true:=by rw [beq_iff_eq];exact jfw.2 hz
       rw [decide_eq_true hz,Bool.true_and] at HE
       rw [hcd]
       clear hz
       exact ZQ32
      ·have hcd:(cmpQ z1 z2==0)=false:=by rw [beq_eq_false_iff_ne];exact fun e=>hz (jfw.1 e)
       rw [decide_eq_false hz,Bool.false_and] at HE
       rw [hcd]
       clear hz
       exact ZQ32
   have he0d:(er==0)=false:=by rw [beq_eq_false_iff_ne];exact he0
   by_cases he4:er=4
   case pos =>
    subst he4
    have HcF:=jpk (show chkF n m l ls x y 4=chkN n m ls x y from rfl)
    clear HFx HBe HBz HCo HP2
    by_cases hx0:nx=0
    case neg =>
     have hxd:((nx:Int)==0)=false:=by rw [beq_eq_false_iff_ne];omega
     have HE:=jpk (chkN_x (n:=n) (m:=m) (ls:=ls) (y:=y) (show decide (x.length=0)=false from by rw [hlx];exact decide_eq_false hx0))
     have hbE:=K.1
     clear hx0
     exact ZQ32
    have hxd:((nx:Int)==0)=true:=by rw [hx0];rfl
    have HX0:=jpk (show decide (x.length=0)=true from by rw [hlx];exact decide_eq_true hx0)
    clear hx0
    cases hfy:(decide (ny=m)&&y.all fnF)
    case false =>
     rw [hfy] at HFy
     rw [←hly] at hfy
     have HE:=jpk (chkN_y (n:=n) (m:=m) (ls:=ls) (x:=x) hfy)
     go_wp2_with (go_at_call 79;refine (HFy.out _ K.1).mono ?_;rintro e W ⟨rfl,hb⟩;replace K:=K.keep hb;clear hb)
     go_ret
     exact ⟨by rw [HcF.out,HE.out];first|done|rfl,K.1⟩
    rw [hfy] at HFy
    have Hfy:Hid ((decide (y.length=m)&&y.all fnF)=true):=jpk (by rw [hly];exact hfy)
    rw [Bool.and_eq_true,decide_eq_true_eq] at hfy
    obtain ⟨hny,hya⟩:=hfy
    have hny:=hny.symm
    subst hny
    go_wp2_with fail
    refine (HFy.out _ K.1).mono ?_
    rintro e W ⟨rfl,hb⟩
    replace K:=K.keep hb
    clear hb
    have c0:=(K.blk (b:=b0) (cs:=#[.slice A n cap,.slice A' m cap']) (t:=57) ZMB).cell (j:=0) rfl
    have c1:=(K.blk (b:=b0) (cs:=#[.slice A n cap,.slice A' m cap']) (t:=57) ZMB).cell (j:=1) rfl
    go_wp2_with fail
    refine (HCz.out _ _ _ K ZMB hya Zb0).mono ?_
    rintro e W ⟨o2,bb2,L5,rfl,hU,hs2,K5⟩
    have e5:=hU.out.headN K.nodup
    subst e5
    replace K:=K5
    clear K5 hU c0 c1
    cases o2
    ·have HE:=jpk (chkN_c (x:=x) hs2.out)
     have hbE:=K.1
     exact ZQ32
    ·obtain ⟨f3,hf3⟩:∃f3,f3=(bb2|| !prdK (fvR y) (rwB2 ls false) m):=⟨_,rfl⟩
     go_wp2_with fail
     refine (HP1.out _ _ hf3 _ _ K ZMB ZMB hya Zb0).mono ?_
     rintro e W ⟨q1,z1,rfl,g1,K5⟩
     replace K:=K5
     clear K5
     have HE:=jpk (jkU HX0.out Hfy.out hs2.out hf3 g1.out.2)
     have hB:=K.blk (b:=bS) (t:=87) List.mem_cons_self
     have sc:=hB.cell (j:=0) rfl
     have hbE:=K.1
     have hdd:=g1.out.1.neg_iff
     clear hB K hs2 hf3 HFy HCz HP1 Hfy HX0
     have ef1:=jgQ W (.int .i64 q1.s) (.slice q1.A q1.n q1.c) (.int .i64 q1.t) (.slice q1.B q1.m q1.d)
     have ef2:=jgP W (.int .i64 q1.s) (.slice q1.A q1.n q1.c)
     by_cases hz:z1<0
     ·have h1:decide (q1.s<0)=true:=by rw [hdd];exact decide_eq_true hz
      have h2:q1.s<0:=of_decide_eq_true h1
      rw [decide_eq_true hz,Bool.true_and] at HE
      clear hdd hz
      exact ZQ32
     ·have h1:decide (q1.s<0)=false:=by rw [hdd];exact decide_eq_false hz
      have h2:¬(q1.s<0):=of_decide_eq_false h1
      rw [decide_eq_false hz,Bool.false_and] at HE
      clear hdd hz
      exact ZQ32
   have he4d:(er==4)=false:=by rw [beq_eq_false_iff_ne];exact he4
   by_cases he3:er=3
   case pos =>
    subst he3
    have HcF:=jpk (show chkF n m l ls x y 3=chkR n m l ls x y from rfl)
    clear HFy HBe HCz HCo HP1
    by_cases hy0:ny=0
    case neg =>
     have hyd:((ny:Int)==0)=false:=by rw [beq_eq_false_iff_ne];omega
     have HE:=jpk (chkR_y (n:=n) (m:=m) (l:=l) (ls:=ls) (x:=x) (show decide (y.length=0)=false from by rw [hly];exact decide_eq_false hy0))
     have hbE:=K.1
     clear hy0
     exact ZQ32
    have hyd:((ny:Int)==0)=true:=by rw [hy0];rfl
    have HX0:=jpk (show decide (y.length=0)=true from by rw [hly];exact decide_eq_true hy0)
    clear hy0
    cases hfx:(decide (nx=n)&&x.all fnF)
    case false =>
     rw [hfx] at HFx
     rw [←hlx] at hfx
     have HE:=jpk (chkR_x (n:=n) (m:=m) (l:=l) (ls:=ls) (y:=y) hfx)
     go_wp2_with (go_at_call 79;refine (HFx.out _ K.1).mono ?_;rintro e W ⟨rfl,hb⟩;replace K:=K.keep hb;clear hb)
     go_ret
     exact ⟨by rw [HcF.out,HE.out];first|done|rfl,K.1⟩
    rw [hfx] at HFx
    have Hfx:Hid ((decide (x.length=n)&&x.all fnF)=true):=jpk (by rw [hlx];exact hfx)
    rw [Bool.and_eq_true,decide_eq_true_eq] at hfx
    obtain ⟨hnx,hxa⟩:=hfx
    have hnx:=hnx.symm
    subst hnx
    go_wp2_with fail
    refine (HFx.out _ K.1).mono ?_
    rintro e W ⟨rfl,hb⟩
    replace K:=K.keep hb
    clear hb
    have c0:=(K.blk (b:=b0) (cs:=#[.slice A n cap,.slice A' m cap']) (t:=57) ZMB).cell (j:=0) rfl
    have c1:=(K.blk (b:=b0) (cs:=#[.slice A n cap,.slice A' m cap']) (t:=57) ZMB).cell (j:=1) rfl
    go_wp2_with fail
    refine (HBz.out _ _ K ZMB hxa Zb0).mono ?_
    rintro e W ⟨o2,bb2,L5,rfl,hU,hs2,K5⟩
    have e5:=hU.out.headN K.nodup
    subst e5
    replace K:=K5
    clear K5 hU c0 c1
    cases o2
    ·have HE:=jpk (chkR_b (l:=l) (y:=y) hs2.out)
     have hbE:=K.1
     exact ZQ32
    ·obtain ⟨f3,hf3⟩:∃f3,f3=(bb2|| !prdK (fvR l) (fvR x) n):=⟨_,rfl⟩
     have c0:=(K.blk (b:=b0) (cs:=#[.slice A n cap,.slice A' m cap']) (t:=57) ZMB).cell (j:=0) rfl
     go_wp2_with fail
     refine (HP2.out _ _ hf3 _ _ K ZMB ZMB hxa Zb0).mono ?_
     rintro e W ⟨q1,z1,rfl,g1,K5⟩
     replace K:=K5
     clear K5 c0
     have HE:=jpk (jkW HX0.out Hfx.out hs2.out hf3 g1.out.2)
     have hB:=K.blk (b:=bS) (t:=87) List.mem_cons_self
     have sc:=hB.cell (j:=0) rfl
     have hbE:=K.1
     have hdd:=g1.out.1.pos_iff
     clear hB K hs2 hf3 HFx HBz HP2 Hfx HX0
     have ef1:=jgQ W (.int .i64 q1.s) (.slice q1.A q1.n q1.c) (.int .i64 q1.t) (.slice q1.B q1.m q1.d)
     have ef2:=jgP W (.int .i64 q1.s) (.slice q1.A q1.n q1.c)
     by_cases hz:0<z1
     ·have h1:decide (q1.s>0)=true:=by rw [hdd];exact decide_eq_true hz
      have h2:q1.s>0:=of_decide_eq_true h1
      rw [decide_eq_true hz,Bool.true_and] at HE
      clear hdd hz
      exact ZQ32
     ·have h1:decide (q1.s>0)=false:=by rw [hdd];exact decide_eq_false hz
      have h2:¬(q1.s>0):=of_decide_eq_false h1
      rw [decide_eq_false hz,Bool.false_and] at HE
      clear hdd hz
      exact ZQ32
   have he3d:(er==3)=false:=by rw [beq_eq_false_iff_ne];exact he3
   have HcF:=jpk (show chkF n m l ls x y er=false from by unfold chkF;rw [if_neg he0,if_neg he4,if_neg he3])
   have hbE:=K.1
   clear he0 he4 he3
   go_wp2_with fail
   go_ret
   exact ⟨by rw [HcF.out];first|done|rfl,hbE⟩
end Go.Proofs.YtgikfcjndiohjaaGreat
