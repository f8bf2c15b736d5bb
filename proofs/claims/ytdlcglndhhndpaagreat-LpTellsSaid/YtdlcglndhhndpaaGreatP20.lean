/- Laws and walks; conditions stand in each theorem. -/
import Derived.Test.YtdlcglndhhndpaaGreatP19
set_option linter.unusedSimpArgs false
set_option linter.unusedVariables false
set_option maxHeartbeats 2000000
set_option maxRecDepth 100000
namespace Go.Proofs.YtdlcglndhhndpaaGreat
open Go.RowKit
def opnD (n:Nat) (A:Nat→Nat→Rat) (b c:Nat→Rat):Dc:=⟨b,A,c,fun i=>n+i,fun j=>j⟩
theorem jgX (m n:Nat) (A:Nat→Nat→Rat) (b c:Nat→Rat):(opnD n A b c).Ok m n :=
 ⟨fun i hi=>by show n+i<_;omega,fun j hj=>by show j<_;omega,fun i k _ _ e=>by have e:n+i=n+k:=e;omega,fun j k _ _ e=>e,fun i j _ hj e=>by have e:n+i=j:=e;omega,fun u hu=>by
  by_cases h:u<n
  ·exact Or.inr ⟨u,h,rfl⟩
  ·exact Or.inl ⟨u-n,by omega,by show n+(u-n)=u;omega⟩⟩
section
variable {m n:Nat} {A:Nat→Nat→Rat} {b c:Nat→Rat} {D:Dc}
end
def lesK (x f q:Rat):Bool:=mulK f q&&addK x (-(f*q))
def Dc.fitX (m n:Nat) (D:Dc) (r s:Nat):Bool :=
 (divK (D.v r) (D.a r s)&&(List.range n).all fun j=>divK (if j=s then 1 else D.a r j) (D.a r s)) &&
 ((List.range m).all fun i=>decide (i=r)||(lesK (D.v i) (D.a i s) (D.v r / D.a r s)&&(List.range n).all fun j=>lesK (if j=s then 0 else D.a i j) (D.a i s) ((if j=s then 1 else D.a r j) / D.a r s))) &&
 (List.range n).all fun j=>lesK (if j=s then 0 else D.c j) (D.c s) ((if j=s then 1 else D.a r j) / D.a r s)
inductive Srch (m n:Nat):Dc→Option Dc→Prop
 | stop {D:Dc} (h:¬D.live m n):Srch m n D (some D)
 | full {D:Dc} {r s:Nat} (h:D.pick m n=.swap r s) (hf:D.fitX m n r s=false):Srch m n D none
 | step {D:Dc} {r s:Nat} {R:Option Dc} (h:D.pick m n=.swap r s) (hf:D.fitX m n r s=true) (hR:Srch m n (D.xch r s) R):Srch m n D R
theorem Srch.det {m n:Nat} {D:Dc} {R R':Option Dc} (h:Srch m n D R) (h':Srch m n D R'):R=R':=by
 induction h generalizing R' with
 | stop h =>
  cases h' with
  | stop _=>rfl
  | full h2 _=>exact absurd ⟨_,_,h2⟩ h
  | step h2 _ _=>exact absurd ⟨_,_,h2⟩ h
 | full h hf =>
  cases h' with
  | stop h2=>exact absurd ⟨_,_,h⟩ h2
  | full _ _=>rfl
  | step h2 hf2 _ =>
   rw [h] at h2;cases h2;rw [hf] at hf2;cases hf2
 | step h hf hR ih =>
  cases h' with
  | stop h2=>exact absurd ⟨_,_,h⟩ h2
  | full h2 hf2 =>
   rw [h] at h2;cases h2;rw [hf] at hf2;cases hf2
  | step h2 hf2 hR2 =>
   rw [h] at h2;cases h2;exact ih hR2
theorem Srch.like {m n:Nat} {D:Dc} {R:Option Dc} (h:Srch m n D R) (hD:D.Ok m n):∀D',R=some D'→D'.Ok m n∧D.Like m n D'∧¬D'.live m n:=by
 induction h with
 | stop h =>
  intro D' e;cases e;exact ⟨hD,Dc.Like.refl m n _,h⟩
 | full h hf=>intro D' e;cases e
 | step h hf hR ih =>
  intro D' e;obtain ⟨h1,h2,-⟩:=Dc.pick_swap hD h;obtain ⟨g1,g2,g3⟩:=ih (hD.xch h1 h2) D' e;exact ⟨g1,(Dc.like_xch h1 h2 (jff hD h)).trans g2,g3⟩
theorem Dc.rowP_contra {n r r':Nat} {D:Dc} (h:D.rowP n r=.contra r'):r'=r∧∀j,j<n→0≤D.a r j:=by
 unfold Dc.rowP at h
 split at h
 ·rename_i h1
  cases h;refine ⟨rfl,fun j hj=>Rat.not_lt.1 fun hn=>?_⟩;have:=jdj h1 j hj;rw [Dc.negA,decide_eq_true hn] at this;cases this
 ·cases h
theorem Dc.colP_endless {m s s':Nat} {D:Dc} (h:D.colP m s=.endless s'):s'=s∧∀i,i<m→D.a i s≤0:=by
 unfold Dc.colP at h
 split at h
 ·rename_i h1
  cases h;refine ⟨rfl,fun i hi=>Rat.not_lt.1 fun hn=>?_⟩;have:=jdj h1 i hi;rw [Dc.posA,decide_eq_true hn] at this;cases this
 ·cases h
theorem Dc.rowP_kind {n r:Nat} {D:Dc}:(∃r',D.rowP n r=.contra r')∨∃r' s,D.rowP n r=.swap r' s:=by
 unfold Dc.rowP
 split
 ·exact Or.inl ⟨_,rfl⟩
 ·exact Or.inr ⟨_,_,rfl⟩
theorem Dc.colP_kind {m s:Nat} {D:Dc}:(∃s',D.colP m s=.endless s')∨∃r s',D.colP m s=.swap r s':=by
 unfold Dc.colP
 split
 ·exact Or.inl ⟨_,rfl⟩
 ·exact Or.inr ⟨_,_,rfl⟩
theorem Dc.pick_contra {m n r:Nat} {D:Dc} (h:D.pick m n=.contra r):r<m∧D.v r<0∧∀j,j<n→0≤D.a r j:=by
 have key:∀r0,lstP D.own D.negR m=some r0→D.rowP n r0=.contra r→r<m∧D.v r<0∧∀j,j<n→0≤D.a r j:=fun r0 h1 h2=>by
  obtain ⟨e,h3⟩:=Dc.rowP_contra h2;subst e;exact ⟨(jar h1).1,of_decide_eq_true (jar h1).2.1,h3⟩
 have no:∀s0,D.colP m s0=.contra r→False:=fun s0 h2=>by
  rcases Dc.colP_kind (m:=m) (s:=s0) (D:=D) with ⟨s',e⟩|⟨a,b,e⟩ <;> rw [e] at h2 <;> cases h2
 unfold Dc.pick at h
 split at h
 ·cases h
 ·rename_i r0 h1 h2
  exact key r0 h1 h
 ·exact (no _ h).elim
 ·rename_i r0 s0 h1 h2
  split at h
  ·exact key r0 h1 h
  ·exact (no _ h).elim
theorem Dc.pick_endless {m n s:Nat} {D:Dc} (h:D.pick m n=.endless s):s<n∧0<D.c s∧∀i,i<m→D.a i s≤0:=by
 have key:∀s0,lstP D.free D.posC n=some s0→D.colP m s0=.endless s→s<n∧0<D.c s∧∀i,i<m→D.a i s≤0:=fun s0 h1 h2=>by
  obtain ⟨e,h3⟩:=Dc.colP_endless h2;subst e;exact ⟨(jar h1).1,of_decide_eq_true (jar h1).2.1,h3⟩
 have no:∀r0,D.rowP n r0=.endless s→False:=fun r0 h2=>by
  rcases Dc.rowP_kind (n:=n) (r:=r0) (D:=D) with ⟨r',e⟩|⟨a,b,e⟩ <;> rw [e] at h2 <;> cases h2
 unfold Dc.pick at h
 split at h
 ·cases h
 ·exact (no _ h).elim
 ·rename_i s0 h1 h2
  exact key s0 h2 h
 ·rename_i r0 s0 h1 h2
  split at h
  ·exact (no _ h).elim
  ·exact key s0 h2 h
def ixI:Option Nat→Int
 | none=> -1
 | some i=>(i:Int)
theorem jd5 {f:Nat→Nat} {ch:Nat→Bool} {k:Nat} (h:ch k=false):lstP f ch (k+1)=lstP f ch k:=by
 rw [lstP];cases lstP f ch k <;> simp [h]
theorem jdh {f:Nat→Nat} {ch:Nat→Bool} {k:Nat} (h:ch k=true) (hp:lstP f ch k=none):lstP f ch (k+1)=some k:=by
 rw [lstP,hp];simp [h]
theorem jd4 {f:Nat→Nat} {ch:Nat→Bool} {k i:Nat} (h:ch k=true) (hp:lstP f ch k=some i):lstP f ch (k+1)=if f k<f i then some k else some i:=by
 rw [lstP,hp];simp [h]
theorem jkt:∀(args:Array Value) (V:World),(callFunc 114 args).run Tryz.prog V=.ok (.enter 114 args) V:=fun args V=>by go_simp
theorem jku:∀(args:Array Value) (V:World),(callFunc 115 args).run Tryz.prog V=.ok (.enter 115 args) V:=fun args V=>by go_simp
theorem jgK:∀(args:Array Value) (V:World),(callFunc 116 args).run Tryz.prog V=.ok (.enter 116 args) V:=fun args V=>by go_simp
theorem jgL:∀(args:Array Value) (V:World),(callFunc 117 args).run Tryz.prog V=.ok (.enter 117 args) V:=fun args V=>by go_simp
theorem jc1 {f:Nat→Int} {n i:Nat} (h:i<n):gi (ofF n f) i=f i:=by
 unfold gi;rw [List.getD_eq_getElem?_getD,jbf h];rfl
theorem jce (F:FuncId) (caps:Array Value) (A:Option Addr) (n cap:Nat) (f:Nat→Nat) (ch:Nat→Bool) (w0 W:World) (L:List Blk) (D:List Hl) (K:St w0 L D W) (hn:n≤1000000)
 (hF:∀(args:Array Value) (V:World),(callFunc F args).run Tryz.prog V=.ok (.enter F args) V)
 (hR:∀V,St w0 L D V→RdI V V.heap.size A n cap (ofF n fun i=>((f i:Nat):Int)))
 (HC:∀V,St w0 L D V→∀i,i<n→Calls Tryz.prog F (#[.int .i64 (i:Int)]++caps) V fun e V'=>e=.returned (.bool (ch i))∧St w0 L D V') :
 Calls Tryz.prog 113 #[.slice A n cap,.func (.func F) #[] caps] W fun e W'=>e=.returned (.int .i64 (ixI (lstP f ch n)))∧St w0 L D W':=by
 have HCm:=jmT HC;have HF:=jmT hF;have HR:=jmT hR;have hcap:=(hR W K).caps;clear HC hR hF;go_enter Tryz.func113,Tryz.ntmps113
 go_wp2_with fail
 go_loopg [5,10] n (fun gk s5 s10 wr=>∃(k:Nat) (o:Option Nat),k≤n∧gk=n-k∧s5=.int .i64 (ixI o)∧s10=.int .i64 k∧Hid (lstP f ch k=o)∧St w0 L D wr)
 case atStart=>exact ⟨0,none,Nat.zero_le _,rfl,rfl,rfl,jmT rfl,K⟩
 case round =>
  clear K;obtain ⟨k,o,hk,rfl,rfl,rfl,HO,K⟩:=hrel;by_cases hlt:k<n
  ·have hki:(k:Int)<(n:Int):=by omega
   have hk0:(0:Int)≤(k:Int):=by omega
   obtain ⟨vb,vo,hA,hvb,hc⟩:=RdI.cellAt (HR.out _ K) hlt;subst hA;rw [jc1 hlt] at hc;cases hch:ch k
   ·have HO2:=jmT ((jd5 hch).trans HO.out)
    have HC1:=jmT (fun V (h:St w0 L D V)=>by
     have:=HCm.out V h k hlt;rw [hch] at this
     exact this)
    clear HCm hch
    go_wp2_with (rw [HF.out,Oper.upon_enter];refine (HC1.out _ K).mono ?_;rintro e W1 ⟨rfl,K1⟩)
    go_roundg (n-(k+1))
    case rel=>exact ⟨k+1,o,hlt,rfl,rfl,by go_num,HO2,K1⟩
    case measure=>omega
   ·have HC1:=jmT (fun V (h:St w0 L D V)=>by
     have:=HCm.out V h k hlt;rw [hch] at this
     exact this)
    clear HCm;cases o with
    | none =>
     have HO2:=jmT (jdh hch HO.out);rw [show ixI none= -1 from rfl];clear hch HO
     go_wp2_with (rw [HF.out,Oper.upon_enter];refine (HC1.out _ K).mono ?_;rintro e W1 ⟨rfl,K1⟩)
     go_roundg (n-(k+1))
     case rel=>exact ⟨k+1,some k,hlt,rfl,rfl,by go_num,HO2,K1⟩
     case measure=>omega
    | some i =>
     have hin:i<n:=by have:=(jar HO.out).1;omega
     have HCi:=jmT (fun V (h:St w0 L D V)=>by
      obtain ⟨vb',vo',hA',hvb',hc'⟩:=RdI.cellAt (HR.out _ h) hin;cases hA';rw [jc1 hin] at hc'
      exact hc')
     have hi0:¬(i:Int)<0:=by omega
     have hi1:(0:Int)≤(i:Int):=by omega
     have hi2:(i:Int)<(n:Int):=by omega
     have hi3:decide ((i:Int)<0)=false:=decide_eq_false hi0;rw [show ixI (some i)=(i:Int) from rfl];by_cases hc2:f k<f i
     ·have HO2:=jmT ((jd4 hch HO.out).trans (if_pos hc2));have hc3:(f k:Int)<(f i:Int):=by omega
      clear hch HO hc2
      go_wp2_with (rw [HF.out,Oper.upon_enter];refine (HC1.out _ K).mono ?_;rintro e W1 ⟨rfl,K1⟩;have hc1:=HCi.out _ K1)
      go_roundg (n-(k+1))
      case rel=>exact ⟨k+1,some k,hlt,rfl,rfl,by go_num,HO2,K1⟩
      case measure=>omega
     ·have HO2:=jmT ((jd4 hch HO.out).trans (if_neg hc2));have hc3:¬(f k:Int)<(f i:Int):=by omega
      have hc4:decide ((f k:Int)<(f i:Int))=false:=decide_eq_false hc3;clear hch HO hc2
      go_wp2_with (rw [HF.out,Oper.upon_enter];refine (HC1.out _ K).mono ?_;rintro e W1 ⟨rfl,K1⟩;have hc1:=HCi.out _ K1)
      go_roundg (n-(k+1))
      case rel=>exact ⟨k+1,some i,hlt,rfl,rfl,by go_num,HO2,K1⟩
      case measure=>omega
  ·have e:n=k:=by omega
   subst e;have HE:=jmT (show Ending.returned (.int .i64 (ixI o))=.returned (.int .i64 (ixI (lstP f ch n)))∧St w0 L D wr from ⟨by rw [HO.out],K⟩);clear HO K hlt HCm HR;go_wp2_with fail;go_ret;exact HE.out
def idxP (f:Nat→Nat) (u:Nat):Nat→Option Nat
 | 0=>none
 | k+1=>match idxP f u k with
  | some i=>some i
  | none=>if f k=u then some k else none
theorem jcd (f:Nat→Nat) (u:Nat):∀m:Nat,(idxP f u m=none∧∀i,i<m→f i≠u)∨∃i,idxP f u m=some i∧i<m∧f i=u
 | 0=>Or.inl ⟨rfl,fun i hi=>absurd hi ZO⟩
 | m+1=>by
  rw [idxP];rcases jcd f u m with ⟨h1,h2⟩|⟨i,h1,h2,h3⟩
  ·rw [h1];by_cases e:f m=u
   ·exact Or.inr ⟨m,if_pos e,by omega,e⟩
   ·refine Or.inl ⟨if_neg e,fun i hi=>?_⟩;by_cases e2:i=m
    ·rw [e2];exact e
    ·exact h2 i ZO
  ·rw [h1];exact Or.inr ⟨i,rfl,by omega,h3⟩
theorem je7 {f:Nat→Nat} {m u:Nat} (h:∀i,i<m→f i≠u):idxP f u m=none:=by
 rcases jcd f u m with ⟨h1,h2⟩|⟨k,h1,h2,h3⟩
 ·exact h1
 ·exact absurd h3 (h k h2)
def xB (m:Nat) (D:Dc) (u:Nat):Rat:=match idxP D.own u m with
 | some i=>D.v i
 | none=>0
def yB (n:Nat) (D:Dc) (k:Nat):Rat:=match idxP D.free (n+k) n with
 | some j=>0-D.c j
 | none=>0
def yC (n:Nat) (D:Dc) (r k:Nat):Rat:=if D.own r=n+k then 1 else match idxP D.free (n+k) n with
 | some j=>D.a r j
 | none=>0
def xR (m:Nat) (D:Dc) (s u:Nat):Rat:=if D.free s=u then 1 else match idxP D.own u m with
 | some i=>0-D.a i s
 | none=>0
section
variable {m n:Nat} {A:Nat→Nat→Rat} {b c:Nat→Rat} {D:Dc}
end
inductive jfY
 | full
 | none (y:Nat→Rat)
 | ray (x:Nat→Rat)
 | best (x y:Nat→Rat)
def jf8 (m n:Nat) (D:Dc):jfY:=match D.pick m n with
 | .endless s=>.ray (xR m D s)
 | _=>.best (xB m D) (yB n D)
inductive jbw (m n:Nat) (A:Nat→Nat→Rat) (b c:Nat→Rat):jfY→Prop
 | full1 (h:Srch m n (opnD n A b fun _=>0) none):jbw m n A b c .full
 | none {D:Dc} {r:Nat} (h:Srch m n (opnD n A b fun _=>0) (some D)) (hr:D.pick m n=.contra r):jbw m n A b c (.none (yC n D r))
 | full2 {D:Dc} (h:Srch m n (opnD n A b fun _=>0) (some D)) (hr:∀r,D.pick m n≠.contra r) (h2:Srch m n (opnD n A b c) none):jbw m n A b c .full
 | fin {D D':Dc} (h:Srch m n (opnD n A b fun _=>0) (some D)) (hr:∀r,D.pick m n≠.contra r) (h2:Srch m n (opnD n A b c) (some D')):jbw m n A b c (jf8 m n D')
section
variable {m n:Nat} {A:Nat→Nat→Rat} {b c:Nat→Rat}
theorem jbw.det {E E':jfY} (h:jbw m n A b c E) (h':jbw m n A b c E'):E=E':=by
 cases h with
 | full1 h =>
  cases h' with
  | full1 _=>rfl
  | none g _=>exact absurd (h.det g) Zb0
  | full2 g _ _=>rfl
  | fin g _ _=>exact absurd (h.det g) Zb0
 | none h hr =>
  cases h' with
  | full1 g=>exact absurd (h.det g) Zb0
  | none g gr =>
   have e:=Option.some.inj (h.det g);subst e;rw [hr] at gr;cases gr;rfl
  | full2 g gr _ =>
   have e:=Option.some.inj (h.det g);subst e;exact absurd hr (gr _)
  | fin g gr _ =>
   have e:=Option.some.inj (h.det g);subst e;exact absurd hr (gr _)
 | full2 h hr h2 =>
  cases h' with
  | full1 _=>rfl
  | none g gr =>
   have e:=Option.some.inj (h.det g);subst e;exact absurd gr (hr _)
  | full2 _ _ _=>rfl
  | fin _ _ g2=>exact absurd (h2.det g2) Zb0
 | fin h hr h2 =>
  cases h' with
  | full1 g=>exact absurd (h.det g) Zb0
  | none g gr =>
   have e:=Option.some.inj (h.det g);subst e;exact absurd gr (hr _)
  | full2 _ _ g2=>exact absurd (h2.det g2) Zb0
  | fin _ _ g2 =>
   have e:=Option.some.inj (h2.det g2);subst e;rfl
end
def Rw.q (x:Rw):Rat:=ratF x.s x.l x.t x.k
theorem isQ.q {x:Rw} {z:Rat} (h:isQ x z):x.q=z:=h.1.rat
theorem isQ.self {x:Rw} {z:Rat} (h:isQ x z):isQ x x.q:=by rw [h.q];exact h
structure Ln where
 y:Rw
 h:Hd
def Ln.cs (x:Ln):List Value:=[.int .i64 x.y.s,.slice x.y.A x.y.n x.y.c,.int .i64 x.y.t,.slice x.y.B x.y.m x.y.d,.slice x.h.A x.h.n x.h.c]
theorem jbF:jbs 5 Ln.cs:=⟨by omega,fun x=>⟨rfl,by
 intro u hu;simp [Ln.cs] at hu
 rcases hu with rfl|rfl|rfl|rfl|rfl <;> rfl⟩⟩
abbrev lnF (Y:Nat→Rw) (h:Nat→Hd):Nat→Ln:=fun i=>⟨Y i,h i⟩
theorem jmD {Y:Nat→Rw} {h:Nat→Hd} {i:Nat} (z:Rw):putF (lnF Y h) i ⟨z,h i⟩=lnF (putF Y i z) h:=by
 funext k
 by_cases e:k=i
 ·subst e;rw [jaf];show _=(⟨putF Y k z k,h k⟩:Ln);rw [jaf]
 ·rw [jad e];show _=(⟨putF Y i z k,h k⟩:Ln);rw [jad e]
theorem jmB {n i:Nat} {Y:Nat→Rw} {h:Nat→Hd} {J:List Value} (hi:i<n) (z:Rw):spl (recA Ln.cs n (lnF Y h) J) (i*5) z.cs=recA Ln.cs n (lnF (putF Y i z) h) J:=by
 rw [←jmD,←jg2 jbF hi ⟨z,h i⟩];apply Array.ext_getElem?;intro q;have hsz:=jcD (n:=n) (v:=lnF Y h) (J:=J) jbF;have hin:=jcS (sz:=5) hi;have l1:z.cs.length=4:=rfl;have l2:(Ln.cs ⟨z,h i⟩).length=5:=rfl;rw [jdB _ _ _ _ (by rw [hsz,l1];omega),jdB _ _ _ _ (by rw [hsz,l2];omega),l1,l2];by_cases h1:i*5≤q∧q<i*5+4
 ·rw [if_pos h1,if_pos ZO];obtain ⟨j,hj⟩:∃j,j=q-i*5:=⟨_,rfl⟩;rw [←hj];have hj4:j<4:=by omega
  match j,hj4 with
  | 0,_=>rfl
  | 1,_=>rfl
  | 2,_=>rfl
  | 3,_=>rfl
 ·rw [if_neg h1];by_cases h2:q=i*5+4
  ·subst h2;rw [if_pos ZO,jcV jbF hi ZO,show i*5+4-i*5=4 by omega];rfl
  ·rw [if_neg ZO]
section
variable {P:Program} {ops:Array Oper} {rest:List Oper} {o:Oper} {a:Act} {Q:Exit→Act→World→Prop}
theorem St.storeL {w W:World} {L L':List Blk} {D:List Hl} (K:St w L D W) (hgd:o.guard=none) (hd:o.dst=none) (ty:TypeId) (x y:Operand) (ho:o.op=.store ty x y) (g i N:Nat) {Y:Nat→Rw} {h:Nat→Hd} {J:List Value} {t:TypeId} (z:Rw)
 (hx:a.eval x=.pointer (some ⟨g,i*5,none⟩)) (hy:a.eval y=.agg #[.int .i64 z.s,.slice z.A z.n z.c,.int .i64 z.t,.slice z.B z.m z.d]) (hi:i<N) (hU:Upd g (recA Ln.cs N (lnF Y h) J) t (recA Ln.cs N (lnF (putF Y i z) h) J) L L') (hz:(P.info? ty).map (·.size)=some 4)
 (hk:∀W',St w L' D W'→wpList P ops Q rest a W'):wpList P ops Q (o::rest) a W :=
 K.store (off:=i*5) hgd hd ty x y ho _ hx hy z.cs rfl hU (jmB hi z) hz (by
  rw [jcD jbF];have:=jcS (sz:=5) hi;show i*5+4≤_
  omega) (fun u hu=>by
  simp [Rw.cs] at hu
  rcases hu with rfl|rfl|rfl|rfl <;> rfl) hk
end
section
variable {w W:World} {L L0:List Blk} {D:List Hl} {n i g:Nat} {Y:Nat→Rw} {h:Nat→Hd} {J:List Value} {t:TypeId}
theorem St.cellL (K:St w L D W) (hi:i<n) (hb:((g,recA Ln.cs n (lnF Y h) J,t):Blk)∈L):(W.cell? ⟨g,i*5,none⟩=some (.int .i64 (Y i).s)∧W.cell? ⟨g,i*5+1,none⟩=some (.slice (Y i).A (Y i).n (Y i).c)∧W.cell? ⟨g,i*5+2,none⟩=some (.int .i64 (Y i).t)∧W.cell? ⟨g,i*5+3,none⟩=some (.slice (Y i).B (Y i).m (Y i).d))∧W.cell? ⟨g,i*5+4,none⟩=some (.slice (h i).A (h i).n (h i).c):=by
 have hB:=K.blk hb;have c:=fun j hj=>jcV (J:=J) (v:=lnF Y h) jbF hi (j:=j) hj
 exact ⟨⟨hB.cell ((c 0 ZO).trans rfl),hB.cell ((c 1 ZO).trans rfl),hB.cell ((c 2 ZO).trans rfl),hB.cell ((c 3 ZO).trans rfl)⟩,hB.cell ((c 4 ZO).trans rfl)⟩
theorem St.rwRd (K:St w L D W) (hm:(⟨rwP n Y,rwS n Y⟩:Hl)∈D) (hi:i<n):St w L (⟨rdP (Y i).B (Y i).m (Y i).d (Y i).k,rdS (Y i).B (Y i).m⟩::⟨rdP (Y i).A (Y i).n (Y i).c (Y i).l,rdS (Y i).A (Y i).n⟩::D) W:=by
 have hh:=K.okAt hm;have h1:(⟨rdP (Y i).A (Y i).n (Y i).c (Y i).l,rdS (Y i).A (Y i).n⟩:Hl).ok L W:=⟨(hh.1 i hi).1,fun b hS=>hh.2.1 b ⟨i,hi,Or.inl hS⟩,fun W' g1 g2=>jbr (hh.1 i hi).1 g1 g2⟩;have h2:(⟨rdP (Y i).B (Y i).m (Y i).d (Y i).k,rdS (Y i).B (Y i).m⟩:Hl).ok L W:=⟨(hh.1 i hi).2,fun b hS=>hh.2.1 b ⟨i,hi,Or.inr hS⟩,fun W' g1 g2=>jbr (hh.1 i hi).2 g1 g2⟩;exact (K.add h1).add h2
end
def jb5 (q N:Nat) (V:Nat→Nat→Rw):Prop:=∀i j,i<q→j<N→isQ (V i j) (V i j).q
def jcv (m:Nat) (Y:Nat→Rw):Prop:=∀i,i<m→isQ (Y i) (Y i).q
theorem jb5.put {q N r k:Nat} {V:Nat→Nat→Rw} {x:Rw} {z:Rat} (h:jb5 q N V) (hx:isQ x z):jb5 q N (put2 V r k x):=fun i j hi hj=>by
 by_cases e:i=r∧j=k
 ·rw [e.1,e.2,jea];exact hx.self
 ·rw [jcr V x e];exact h i j hi hj
theorem jcv.put {m r:Nat} {Y:Nat→Rw} {x:Rw} {z:Rat} (h:jcv m Y) (hx:isQ x z):jcv m (putF Y r x):=fun i hi=>by
 by_cases e:i=r
 ·rw [e,jaf];exact hx.self
 ·rw [jad e];exact h i hi
def FulK (b b':Bool) (P:Prop):Prop:=b'=false↔b=false∧P
theorem FulK.step {b b1 b2 k:Bool} {P Q:Prop} (h:FulK b b1 P) (h2:b2=(b1|| !k)) (hk:P→(k=true↔Q)):FulK b b2 (P∧Q):=by
 unfold FulK at *;subst h2;cases k
 ·rw [Bool.not_false,Bool.or_true];constructor
  ·intro e;cases e
  ·rintro ⟨-,hp,hq⟩;have:=(hk hp).2 hq;cases this
 ·rw [Bool.not_true,Bool.or_false,h];exact ⟨fun ⟨e,hp⟩=>⟨e,hp,(hk hp).1 rfl⟩,fun ⟨e,hp,_⟩=>⟨e,hp⟩⟩
theorem FulK.congr {b b':Bool} {P Q:Prop} (h:FulK b b' P) (hpq:P↔Q):FulK b b' Q:=by
 unfold FulK at *;rw [h,hpq]
theorem FulK.trans {b b1 b2:Bool} {P Q:Prop} (h:FulK b b1 P) (h2:FulK b1 b2 Q):FulK b b2 (P∧Q):=by
 unfold FulK at *;rw [h2,h,and_assoc]
def LpQ (i r s k:Nat) (b b':Bool) (V V':Nat→Nat→Rw):Prop :=
 FulK b b' (∀j,j<k→j≠s→jaM (V i j).q (V i s).q (V r j).q=true)∧(∀l j,¬(l=i∧j<k∧j≠s)→V' l j=V l j)∧∀j,j<k→j≠s→jaM (V i j).q (V i s).q (V r j).q=true→(V' i j).q=(V i j).q-(V i s).q*(V r j).q
theorem LpQ.zero (i r s:Nat) (b:Bool) (V:Nat→Nat→Rw):LpQ i r s 0 b b V V :=
 ⟨⟨fun h=>⟨h,fun j hj=>absurd hj ZO⟩,fun h=>h.1⟩,fun l j _=>rfl,fun j hj=>absurd hj ZO⟩
theorem LpQ.skip {i r s:Nat} {b b':Bool} {V V':Nat→Nat→Rw} (h:LpQ i r s s b b' V V'):LpQ i r s (s+1) b b' V V':=by
 exact ZQ101
theorem LpQ.same {i r s k:Nat} {b b':Bool} {V V':Nat→Nat→Rw} (h:LpQ i r s k b b' V V') (hir:i≠r):V' i k=V i k∧V' r k=V r k∧V' i s=V i s∧V' r s=V r s :=
 ⟨h.2.1 i k ZO,h.2.1 r k ZO,h.2.1 i s ZO,h.2.1 r s ZO⟩
theorem LpQ.step {i r s k:Nat} {b b' b2:Bool} {V V':Nat→Nat→Rw} {x:Rw} {z:Rat} (h:LpQ i r s k b b' V V') (hks:k≠s) (h2:b2=(b'|| !jaM (V i k).q (V i s).q (V r k).q)) (hx:isQ x z) (hz:jaM (V i k).q (V i s).q (V r k).q=true→z=(V i k).q-(V i s).q*(V r k).q):LpQ i r s (k+1) b b2 V (put2 V' i k x):=by
 exact ZQ48
def TkV (N i r s:Nat) (V V':Nat→Nat→Rw):Prop:=(∀l j,l≠i→V' l j=V l j)∧∀j,j<N→jaM (if j=s then 0 else (V i j).q) (V i s).q (V r j).q=true→(V' i j).q=(if j=s then 0 else (V i j).q)-(V i s).q*(V r j).q
def TkF (N i r s:Nat) (V:Nat→Nat→Rw):Prop:=∀j,j<N→jaM (if j=s then 0 else (V i j).q) (V i s).q (V r j).q=true
theorem LpQ.last {i r s N:Nat} {b b' b2:Bool} {V V':Nat→Nat→Rw} {x:Rw} {z:Rat} (h:LpQ i r s N b b' V V') (hs:s<N) (h2:b2=(b'|| !jaM 0 (V i s).q (V r s).q)) (hx:isQ x z) (hz:jaM 0 (V i s).q (V r s).q=true→z=0-(V i s).q*(V r s).q):FulK b b2 (TkF N i r s V)∧TkV N i r s V (put2 V' i s x):=by
 obtain ⟨g1,g2,g3⟩:=h;refine ⟨(g1.step h2 (fun _=>Iff.rfl)).congr ⟨fun h j hj=>?_,fun h=>⟨fun j hj hne=>?_,?_⟩⟩,fun l j hl=>?_,fun j hj hk=>?_⟩
 ·by_cases e:j=s
  ·rw [if_pos e,e];exact h.2
  ·rw [if_neg e];exact h.1 j hj e
 ·have:=h j hj;rw [if_neg hne] at this;exact this
 ·have:=h s hs;rw [if_pos rfl] at this;exact this
 ·rw [jcr V' x (fun e=>hl e.1)];exact g2 l j (fun e=>hl e.1)
 ·by_cases e:j=s
  ·rw [if_pos e] at hk ⊢;rw [e] at hk ⊢;rw [jea,hx.q];exact hz hk
  ·rw [if_neg e] at hk ⊢;rw [jcr V' x (fun h=>e h.2)];exact g3 j hj e hk
def DvQ (r s k:Nat) (p:Rat) (b b':Bool) (V V':Nat→Nat→Rw):Prop :=
 FulK b b' (∀j,j<k→j≠s→divK (V r j).q p=true)∧(∀l j,¬(l=r∧j<k∧j≠s)→V' l j=V l j)∧∀j,j<k→j≠s→divK (V r j).q p=true→(V' r j).q=(V r j).q / p
theorem DvQ.zero (r s:Nat) (p:Rat) (b:Bool) (V:Nat→Nat→Rw):DvQ r s 0 p b b V V :=
 ⟨⟨fun h=>⟨h,fun j hj=>absurd hj ZO⟩,fun h=>h.1⟩,fun l j _=>rfl,fun j hj=>absurd hj ZO⟩
theorem DvQ.skip {r s:Nat} {p:Rat} {b b':Bool} {V V':Nat→Nat→Rw} (h:DvQ r s s p b b' V V'):DvQ r s (s+1) p b b' V V':=by
 exact ZQ101
theorem DvQ.step {r s k:Nat} {p:Rat} {b b' b2:Bool} {V V':Nat→Nat→Rw} {x:Rw} {z:Rat} (h:DvQ r s k p b b' V V') (hks:k≠s) (h2:b2=(b'|| !divK (V r k).q p)) (hx:isQ x z) (hz:divK (V r k).q p=true→z=(V r k).q / p):DvQ r s (k+1) p b b2 V (put2 V' r k x):=by
 exact ZQ48
def DvF (N r s:Nat) (p:Rat) (V:Nat→Nat→Rw):Prop:=∀j,j<N→divK (if j=s then 1 else (V r j).q) p=true
def DvV (N r s:Nat) (p:Rat) (V V':Nat→Nat→Rw):Prop:=(∀l j,l≠r→V' l j=V l j)∧∀j,j<N→divK (if j=s then 1 else (V r j).q) p=true→(V' r j).q=(if j=s then 1 else (V r j).q) / p
theorem DvQ.last {r s N:Nat} {p:Rat} {b b' b2:Bool} {V V':Nat→Nat→Rw} {x:Rw} {z:Rat} (h:DvQ r s N p b b' V V') (hs:s<N) (h2:b2=(b'|| !divK 1 p)) (hx:isQ x z) (hz:divK 1 p=true→z=1 / p):FulK b b2 (DvF N r s p V)∧DvV N r s p V (put2 V' r s x):=by
 obtain ⟨g1,g2,g3⟩:=h;refine ⟨(g1.step h2 (fun _=>Iff.rfl)).congr ⟨fun h j hj=>?_,fun h=>⟨fun j hj hne=>?_,?_⟩⟩,fun l j hl=>?_,fun j hj hk=>?_⟩
 ·by_cases e:j=s
  ·rw [if_pos e];exact h.2
  ·rw [if_neg e];exact h.1 j hj e
 ·have:=h j hj;rw [if_neg hne] at this;exact this
 ·have:=h s hs;rw [if_pos rfl] at this;exact this
 ·rw [jcr V' x (fun e=>hl e.1)];exact g2 l j (fun e=>hl e.1)
 ·by_cases e:j=s
  ·rw [if_pos e] at hk ⊢;rw [e,jea,hx.q];exact hz hk
  ·rw [if_neg e] at hk ⊢;rw [jcr V' x (fun h=>e h.2)];exact g3 j hj e hk
end Go.Proofs.YtdlcglndhhndpaaGreat
