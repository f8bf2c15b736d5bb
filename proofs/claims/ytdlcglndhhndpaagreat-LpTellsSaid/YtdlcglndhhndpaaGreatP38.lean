/- Laws and walks; conditions stand in each theorem. -/
import Derived.Test.YtdlcglndhhndpaaGreatP35
import Derived.Test.YtdlcglndhhndpaaGreatP30
set_option linter.unusedSimpArgs false
set_option linter.unusedVariables false
set_option maxHeartbeats 8000000
set_option maxRecDepth 100000
namespace Go.Proofs.YtdlcglndhhndpaaGreat
open Go.RowKit
def fvR (l:List Fv) (j:Nat):Rat:=((l[j]?).map Fv.rat).getD 0
theorem isQ.fv {x:Rw} {q:Rat} (h:isQ x q):x.fv=fvQ q:=by
 obtain ⟨⟨⟨h1,h2⟩,h3,h4⟩,-⟩:=h;unfold Rw.fv fvQ;rw [h1,h2,h3,h4]
theorem St.fxOwn {w W:World} {L:List Blk} {D:List Hl} {g n:Nat} {v:Nat→Rw} {t:TypeId} (K:St w ((g,rwA n v [],t)::L) (⟨rwP n v,rwS n v⟩::D) W) (hn:n≤1000):St w L (⟨fxP (some ⟨g,0,none⟩) n n v,fxS (some ⟨g,0,none⟩) n v⟩::D) W:=by
 have hB:=K.blk (b:=g) (cs:=rwA n v []) (t:=t) List.mem_cons_self;have hP:=K.okAt (x:=⟨rwP n v,rwS n v⟩) List.mem_cons_self
 have h1:fxP (some ⟨g,0,none⟩) n n v W:=by
  refine ⟨⟨jam,Nat.le_refl _,⟨by omega,by omega⟩,fun _=>⟨g,0,rfl,hB.lt,fun k hk=>?_⟩⟩,fun i hi=>hP.1 i hi⟩;rw [jam] at hk;refine ⟨(v k).cs,?_,rfl,fun j u hu=>?_⟩
  ·have e:(ofF n v)[k]'(by rw [jam];exact hk)=v k:=by
    have:=jbf (f:=v) hk;exact ZQ75
   rw [e];rfl
  ·have hj:j<4:=(List.getElem?_eq_some_iff.1 hu).1;rw [Nat.zero_add];exact hB.cell ((jaH (J:=[]) hk hj).trans hu)
 have hpw:=List.pairwise_cons.1 K.2.2.1;refine ((K.part (List.sublist_cons_self _ _)).less (D':=D) (fun x hx=>List.mem_cons_of_mem _ hx)).fxAdd h1 fun b hS p hp e=>?_
 rcases hS with ⟨-,a,ha,rfl⟩|⟨i,hi,hS⟩
 ·injection ha with ha
  subst ha;exact hpw.1 p hp e.symm
 ·exact (hP.2.1 b ⟨i,hi,hS⟩).2 p (List.mem_cons_of_mem _ hp) e
theorem St.rdOwn {w W:World} {L:List Blk} {D:List Hl} {g n:Nat} {v:Nat→Rw} {t:TypeId} {x:Nat→Rat} (K:St w ((g,rwA n v [],t)::L) D W) (hm:(⟨rwP n v,rwS n v⟩:Hl)∈D) (hn:n≤1000) (hx:∀j,j<n→isQ (v j) (x j)):RdF W W.heap.size (some ⟨g,0,none⟩) n n (ofF n fun i=>fvQ (x i)):=by
 have ho:OwL 4 Rw.cs t (.slice (some ⟨g,0,none⟩) n n) (ofF n v) [(g,rwA n v [],t)]:=Or.inr ⟨g,n,[],by rw [jam],rfl,by rw [jam];exact Nat.le_refl _,by unfold maxLen;omega,by rw [List.append_nil,jeb]⟩;obtain ⟨A,cap,e,h⟩:=ho.rdF (L:=L) K hm ZO;injection e with e1 e2 e3
 subst e1 e3;rw [jav (g:=fun i=>fvQ (x i)) (fun i hi=>(hx i hi).fv)] at h;exact h
theorem jmb {p:Nxt} {r s:Int} (h:NxI p r s):(∃i,p=.contra i∧r=(i:Int))∨(∀i,p≠.contra i)∧r= -1:=by
 cases p with
 | best=>exact Or.inr ⟨(fun i e=>by cases e),h.1⟩
 | contra i=>exact Or.inl ⟨i,rfl,h.1⟩
 | endless j=>exact Or.inr ⟨(fun i e=>by cases e),h.1⟩
 | swap _ _=>exact h.elim
theorem jma {m n:Nat} {D:Dc} {r s:Int} (h:NxI (D.pick m n) r s):(∃j,D.pick m n=.endless j∧s=(j:Int)∧jf8 m n D=.ray (xR m D j))∨s= -1∧jf8 m n D=.best (xB m D) (yB n D):=by
 unfold jf8;cases hp:D.pick m n with
 | best=>rw [hp] at h;exact Or.inr ⟨h.2,rfl⟩
 | contra i=>rw [hp] at h;exact Or.inr ⟨h.2,rfl⟩
 | endless j=>rw [hp] at h;exact Or.inl ⟨j,rfl,h.2,rfl⟩
 | swap _ _=>rw [hp] at h;exact h.elim
def solO (w':World) (m n:Nat) (e:Ending):jfY→Prop
 | .full=>e=.returned (.tuple #[.slice none 0 0,.slice none 0 0,.int .i64 6])
 | .none y=>∃A c,e=.returned (.tuple #[.slice none 0 0,.slice A m c,.int .i64 4])∧RdF w' w'.heap.size A m c (ofF m fun i=>fvQ (y i))∧∀i,i<m→jbc (y i)=true
 | .ray x=>∃A c,e=.returned (.tuple #[.slice A n c,.slice none 0 0,.int .i64 3])∧RdF w' w'.heap.size A n c (ofF n fun i=>fvQ (x i))∧∀i,i<n→jbc (x i)=true
 | .best x y=>∃A c A' c',e=.returned (.tuple #[.slice A n c,.slice A' m c',.int .i64 0])∧RdF w' w'.heap.size A n c (ofF n fun i=>fvQ (x i))∧RdF w' w'.heap.size A' m c' (ofF m fun i=>fvQ (y i))∧(∀i,i<n→jbc (x i)=true)∧∀i,i<m→jbc (y i)=true
def SolP (w:World) (m n:Nat) (l:List Fv) (ls:List Rv) (e:Ending) (w':World):Prop :=
 ∃E,jbw m n (rwA2 ls) (rwB2 ls false) (fvR l) E∧solO w' m n e E∧Below w.heap.size w w'
section
variable {w0 W:World} {L:List Blk} {D:List Hl}
theorem jgB {Y Z:Rw} {f q:Rat} (K:St w0 L D W) (hY:isQ Y f) (hZ:isQ Z q) (m1:(⟨rdP Y.A Y.n Y.c Y.l,rdS Y.A Y.n⟩:Hl)∈D) (m2:(⟨rdP Y.B Y.m Y.d Y.k,rdS Y.B Y.m⟩:Hl)∈D) (m3:(⟨rdP Z.A Z.n Z.c Z.l,rdS Z.A Z.n⟩:Hl)∈D) (m4:(⟨rdP Z.B Z.m Z.d Z.k,rdS Z.B Z.m⟩:Hl)∈D) :
 Calls Tryz.prog 55 #[.agg #[.int .i64 Y.s,.slice Y.A Y.n Y.c,.int .i64 Y.t,.slice Y.B Y.m Y.d],.agg #[.int .i64 Z.s,.slice Z.A Z.n Z.c,.int .i64 Z.t,.slice Z.B Z.m Z.d]] W (FrT w0 L D (MulS f q)):=by
 obtain ⟨o,ho⟩:∃o,o=jfK f q:=⟨_,rfl⟩;obtain ⟨er,her⟩:∃er,er=jfJ f q:=⟨_,rfl⟩;have h:=jkE Y.s Y.t Z.s Z.t Y.A Y.B Z.A Z.B Y.n Y.c Y.m Y.d Z.n Z.c Z.m Z.d Y.l Y.k Z.l Z.k W (K.rd m1) (K.rd m2) (K.rd m3) (K.rd m4);rw [hY.1.right hY.2,hZ.1.right hZ.2,hY.1.rat,hZ.1.rat] at h
 have e1:binO (true&&true) (mulK f q) (f*q)=o:=by
  rw [ho];unfold jfK binO;simp
 have e2:binE (true&&true) (mulK f q)=er:=by
  rw [her];unfold jfJ binE;simp
 rw [e1,e2] at h;have HS:=fun y:Rw=>mulS (y:=y) ho her
 clear ho her e1 e2;exact h.mono fun e W' ⟨s31,A31,n31,c31,l31,t31,B31,m31,d31,k31,he,⟨hra,hrb⟩,hop,⟨hfa,hfb⟩,hbb⟩=>⟨⟨s31,A31,n31,c31,l31,t31,B31,m31,d31,k31⟩,er,he,jmT (HS _ hop),K.retF hbb hra hrb hfa hfb⟩
theorem jkb {Y Z:Rw} {f q:Rat} (K:St w0 L D W) (hY:isQ Y f) (hZ:isQ Z q) (m1:(⟨rdP Y.A Y.n Y.c Y.l,rdS Y.A Y.n⟩:Hl)∈D) (m2:(⟨rdP Y.B Y.m Y.d Y.k,rdS Y.B Y.m⟩:Hl)∈D) (m3:(⟨rdP Z.A Z.n Z.c Z.l,rdS Z.A Z.n⟩:Hl)∈D) (m4:(⟨rdP Z.B Z.m Z.d Z.k,rdS Z.B Z.m⟩:Hl)∈D) :
 Calls Tryz.prog 56 #[.agg #[.int .i64 Y.s,.slice Y.A Y.n Y.c,.int .i64 Y.t,.slice Y.B Y.m Y.d],.agg #[.int .i64 Z.s,.slice Z.A Z.n Z.c,.int .i64 Z.t,.slice Z.B Z.m Z.d]] W (fun e W'=>∃y er,e=Ending.returned (.tuple #[.agg #[.int .i64 y.s,.slice y.A y.n y.c,.int .i64 y.t,.slice y.B y.m y.d],.int .i64 er])∧Hid (AddS f q y er∧FrA w0.heap.size y.A∧FrA w0.heap.size y.B)∧St w0 L (⟨rdP y.B y.m y.d y.k,rdS y.B y.m⟩::⟨rdP y.A y.n y.c y.l,rdS y.A y.n⟩::D) W'):=by
 obtain ⟨o,ho⟩:∃o,o=binO true (addK f q) (f+q):=⟨_,rfl⟩;obtain ⟨er,her⟩:∃er,er=binE true (addK f q):=⟨_,rfl⟩;have h:=jkC Y.s Y.t Z.s Z.t Y.A Y.B Z.A Z.B Y.n Y.c Y.m Y.d Z.n Z.c Z.m Z.d Y.l Y.k Z.l Z.k W (K.rd m1) (K.rd m2) (K.rd m3) (K.rd m4);rw [hY.1.right hY.2,hZ.1.right hZ.2,hY.1.rat,hZ.1.rat,Bool.and_true,←ho,←her] at h;have HS:=fun y:Rw=>addS (y:=y) ho her
 clear ho her;exact h.mono fun e W' ⟨s31,A31,n31,c31,l31,t31,B31,m31,d31,k31,he,⟨hra,hrb⟩,hop,⟨hfa,hfb⟩,hbb⟩=>⟨⟨s31,A31,n31,c31,l31,t31,B31,m31,d31,k31⟩,er,he,jmT ⟨HS _ hop,fun a ha=>Nat.le_trans K.1.size (hfa a ha),fun a ha=>Nat.le_trans K.1.size (hfb a ha)⟩,K.retF hbb hra hrb hfa hfb⟩
theorem jmt (p:Int) (hp: -9223372036854775808≤p∧p≤9223372036854775807) (hf:jbc ((p:Int):Rat)=true) (h:St w0 L D W):Calls Tryz.prog 66 #[.int .i64 p] W fun e W6=>∃z:Rw,e=Ending.returned (.agg #[.int .i64 z.s,.slice z.A z.n z.c,.int .i64 z.t,.slice z.B z.m z.d])∧Hid (isQ z ((p:Int):Rat)∧FrA w0.heap.size z.A∧FrA w0.heap.size z.B)∧St w0 L (⟨rdP z.B z.m z.d z.k,rdS z.B z.m⟩::⟨rdP z.A z.n z.c z.l,rdS z.A z.n⟩::D) W6 :=
 (jfd p W hp).mono fun e W6 ⟨s7,A7,n7,c7,l7,t7,B7,m7,d7,k7,he,⟨hra,hrb⟩,ho,⟨hfa,hfb⟩,hbl⟩=>⟨⟨s7,A7,n7,c7,l7,t7,B7,m7,d7,k7⟩,he,jmT ⟨(⟨ho,hf⟩:isQ ⟨s7,A7,n7,c7,l7,t7,B7,m7,d7,k7⟩ _),fun a ha=>Nat.le_trans h.1.size (hfa a ha),fun a ha=>Nat.le_trans h.1.size (hfb a ha)⟩,h.retF hbl hra hrb hfa hfb⟩
end
def SumR (w:World) (n:Nat) (x y:Nat→Rat) (e:Ending) (w':World):Prop :=
 ∃(z:Rw) (ok:Bool),e=.returned (.tuple #[.agg #[.int .i64 z.s,.slice z.A z.n z.c,.int .i64 z.t,.slice z.B z.m z.d],.bool ok])∧ok=prdK x y n∧(ok=true→isQ z (smQ (fun i=>x i*y i) n))∧(RdI w' w'.heap.size z.A z.n z.c z.l∧RdI w' w'.heap.size z.B z.m z.d z.k)∧(FrA w.heap.size z.A∧FrA w.heap.size z.B)∧Below w.heap.size w w'
theorem jca (A B:Option Addr) (n cap cap':Nat) (a b:List Fv) (w:World) (ha:RdF w w.heap.size A n cap a) (hb:RdF w w.heap.size B n cap' b) (hn:n≤1000) (hoa:a.all Fv.ok=true) (hob:b.all Fv.ok=true) :
 Calls Tryz.prog 31 #[.slice A n cap,.slice B n cap'] w (SumR w n (fvR a) (fvR b)):=by
 have hcap:=ha.caps;have hcap2:=hb.caps;obtain ⟨v,hv,K0⟩:=(St.start w).fxOld hb;obtain ⟨u,hu,K⟩:=K0.fxOld ha
 have HQu:=jmT (show ∀j,j<n→isQ (u j) (fvR a j) from fun j hj=>by
  have h1:=hu j hj;have h2:(u j).fv.ok=true:=List.all_eq_true.1 hoa _ (List.mem_of_getElem? h1);unfold fvR;rw [h1,Option.map_some,Option.getD_some]
  exact jbR h2)
 have HQv:=jmT (show ∀j,j<n→isQ (v j) (fvR b j) from fun j hj=>by
  have h1:=hv j hj;have h2:(v j).fv.ok=true:=List.all_eq_true.1 hob _ (List.mem_of_getElem? h1);unfold fvR;rw [h1,Option.map_some,Option.getD_some]
  exact jbR h2)
 clear ha hb hoa hob hu hv K0;obtain ⟨x,hx⟩:∃x,x=fvR a:=⟨_,rfl⟩;obtain ⟨y,hy⟩:∃y,y=fvR b:=⟨_,rfl⟩;rw [←hx] at HQu;rw [←hy] at HQv;rw [←hx,←hy];clear hx hy;have r:=K.raw;go_enter Tryz.func31,Tryz.ntmps31
 go_wp2_with (first|(refine ZAL ?_;clear K r;(first|((fail_if_success revert b0);intro W b0 K r)|((fail_if_success revert b1);intro W b1 K r)|intro W b K r))|(refine ZST ?_;clear K r;intro W K r))
 refine (jmt 0 Zb4 Zb24 K).mono ?_;rintro e V1 ⟨z,rfl,gz,k1⟩;replace K:=k1;clear k1 r;have r:=K.rawS
 go_wp2_with (first|(refine ZAL ?_;clear K r;(first|((fail_if_success revert b0);intro W b0 K r)|((fail_if_success revert b1);intro W b1 K r)|intro W b K r))|(refine ZST ?_;clear K r;intro W K r))
 go_loopg [7] n (fun gk s7 wr=>∃(k:Nat) (z:Rw),k≤n∧gk=n-k∧s7=.int .i64 k∧Hid (prdK x y k=true)∧Hid (isQ z (smQ (fun i=>x i*y i) k)∧FrA w.heap.size z.A∧FrA w.heap.size z.B)∧St w [((b1,#[.int .i64 z.s,.slice z.A z.n z.c,.int .i64 z.t,.slice z.B z.m z.d],50):Blk),(b0,#[.int .i64 0,.slice none 0 0,.int .i64 0,.slice none 0 0],50)] (⟨rdP z.B z.m z.d z.k,rdS z.B z.m⟩::⟨rdP z.A z.n z.c z.l,rdS z.A z.n⟩::[(⟨fxP A n cap u,fxS A n u⟩:Hl),⟨fxP B n cap' v,fxS B n v⟩]) wr)
 case atStart=>exact ⟨0,z,Nat.zero_le _,rfl,rfl,jmT rfl,jmT (by rw [smQ];exact gz.out),K⟩
 case round =>
  clear K r gz;obtain ⟨k,z,hk,rfl,rfl,HP,HZ,K⟩:=hrel;have r:=K.rawS;by_cases hlt:k<n
  ·have hki:(k:Int)<(n:Int):=by omega
   have hk0:(0:Int)≤(k:Int):=by omega
   have hltd:decide (k<n)=true:=decide_eq_true hlt;obtain ⟨ab,ao,hA⟩:=K.fxAt (A:=A) (n:=n) (cap:=cap) (v:=u) ZMB ZO;obtain ⟨bb,bo,hB⟩:=K.fxAt (A:=B) (n:=n) (cap:=cap') (v:=v) ZMB ZO;subst hA hB;have K:=(K.fxRd (n:=n) (v:=u) (i:=k) ZMB hlt).fxRd (n:=n) (v:=v) (i:=k) ZMB hlt;go_upto_region 5 with fail
   have HS:=jmT (fun V L5 D5 (h:St w L5 D5 V) (m5:(⟨fxP (some ⟨ab,ao,none⟩) n cap u,fxS (some ⟨ab,ao,none⟩) n u⟩:Hl)∈D5) (m6:(⟨fxP (some ⟨bb,bo,none⟩) n cap' v,fxS (some ⟨bb,bo,none⟩) n v⟩:Hl)∈D5)=>(show (V.cell? ⟨ab,ao+k*4,none⟩=some (.int .i64 (u k).s)∧V.cell? ⟨ab,ao+k*4+1,none⟩=some (.slice (u k).A (u k).n (u k).c)∧V.cell? ⟨ab,ao+k*4+2,none⟩=some (.int .i64 (u k).t)∧V.cell? ⟨ab,ao+k*4+3,none⟩=some (.slice (u k).B (u k).m (u k).d))∧(V.cell? ⟨bb,bo+k*4,none⟩=some (.int .i64 (v k).s)∧V.cell? ⟨bb,bo+k*4+1,none⟩=some (.slice (v k).A (v k).n (v k).c)∧V.cell? ⟨bb,bo+k*4+2,none⟩=some (.int .i64 (v k).t)∧V.cell? ⟨bb,bo+k*4+3,none⟩=some (.slice (v k).B (v k).m (v k).d)) from ⟨h.fxCell m5 hlt,h.fxCell m6 hlt⟩))
   have HMu:=jmT (fun V L5 D5 (h:St w L5 D5 V) (m1:(⟨rdP (u k).A (u k).n (u k).c (u k).l,rdS (u k).A (u k).n⟩:Hl)∈D5) (m2:(⟨rdP (u k).B (u k).m (u k).d (u k).k,rdS (u k).B (u k).m⟩:Hl)∈D5) (m3:(⟨rdP (v k).A (v k).n (v k).c (v k).l,rdS (v k).A (v k).n⟩:Hl)∈D5) (m4:(⟨rdP (v k).B (v k).m (v k).d (v k).k,rdS (v k).B (v k).m⟩:Hl)∈D5)=>jgB h (HQu.out k hlt) (HQv.out k hlt) m1 m2 m3 m4);have K0:=K.drew;have s0:=HS.out _ _ _ K0 ZMB ZMB;clear K r
   refine jbm 13 (fun V=>(V.cell? ⟨ab,ao+k*4,none⟩=some (.int .i64 (u k).s)∧V.cell? ⟨ab,ao+k*4+1,none⟩=some (.slice (u k).A (u k).n (u k).c)∧V.cell? ⟨ab,ao+k*4+2,none⟩=some (.int .i64 (u k).t)∧V.cell? ⟨ab,ao+k*4+3,none⟩=some (.slice (u k).B (u k).m (u k).d))∧(V.cell? ⟨bb,bo+k*4,none⟩=some (.int .i64 (v k).s)∧V.cell? ⟨bb,bo+k*4+1,none⟩=some (.slice (v k).A (v k).n (v k).c)∧V.cell? ⟨bb,bo+k*4+2,none⟩=some (.int .i64 (v k).t)∧V.cell? ⟨bb,bo+k*4+3,none⟩=some (.slice (v k).B (v k).m (v k).d))) Zb9 s0 (fun hSh=>?_);clear s0;generalize World.drew wr=V0 at K0 hSh ⊢;refine jac.tkU 0 rfl ?_;refine jac.tkU 1 rfl ?_;refine jac.tkU 2 rfl ?_;refine jac.tk 3 rfl ?_;refine jac.tkU 4 rfl ?_;refine jac.tkU 5 rfl ?_;refine jac.tkU 6 rfl ?_;refine jac.tk 7 rfl ?_;refine jac.two (i:=8) (j:=12) rfl rfl rfl rfl Zb9 (fun KK hKK=>?_) (fun KK hKK=>?_)
   focus
    go_simp;go_at_call 55;refine (HMu.out _ _ _ K0 ZMB ZMB ZMB ZMB).mono ?_;rintro e V1 ⟨y1,er1,rfl,gy1,k1⟩;go_wp2_with fail;refine hKK.out _ _ (fun _=>HS.out _ _ _ k1 ZMB ZMB) (fun hSq=>?_);have hSh:=HS.out _ _ _ k1 ZMB ZMB;clear hKK KK hSq;refine ZPT ?_;refine jac.tkU 9 rfl ?_;refine jac.tkU 10 rfl ?_;refine jac.tkU 11 rfl ?_;refine jac.on 12 rfl fun KK hKK=>?_
    go_simp;have k2:=k1.new #[.int .i64 0,.slice none 0 0,.int .i64 0,.slice none 0 0] 50;generalize V1.alloc (.cells #[.int .i64 0,.slice none 0 0,.int .i64 0,.slice none 0 0] 50)=V2 at k2 ⊢;generalize V1.heap.size=g at k2 ⊢;refine hKK.out _ _ (fun _=>HS.out _ _ _ k2 ZMB ZMB) (fun hSq=>?_);have hSh:=HS.out _ _ _ k2 ZMB ZMB;clear hKK KK hSq;refine ZPT ?_
   rotate_right
   focus
    go_simp;have k1:=K0.new #[.int .i64 0,.slice none 0 0,.int .i64 0,.slice none 0 0] 50;generalize V0.alloc (.cells #[.int .i64 0,.slice none 0 0,.int .i64 0,.slice none 0 0] 50)=V1 at k1 ⊢;generalize V0.heap.size=g at k1 ⊢;refine hKK.out _ _ (fun _=>HS.out _ _ _ k1 ZMB ZMB) (fun hSq=>?_);have hSh:=HS.out _ _ _ k1 ZMB ZMB;clear hKK KK hSq;refine ZPT ?_;refine jac.on 8 rfl fun KK hKK=>?_
    go_simp;go_at_call 55;refine (HMu.out _ _ _ k1 ZMB ZMB ZMB ZMB).mono ?_;rintro e V2 ⟨y1,er1,rfl,gy1,k2⟩;go_wp2_with fail;refine hKK.out _ _ (fun _=>HS.out _ _ _ k2 ZMB ZMB) (fun hSq=>?_);have hSh:=HS.out _ _ _ k2 ZMB ZMB;clear hKK KK hSq;refine ZPT ?_;refine jac.tkU 9 rfl ?_;refine jac.tkU 10 rfl ?_;refine jac.tkU 11 rfl ?_
   all_goals
    refine jac.onF 13 rfl fun KK hKK=>?_
    have r:=k2.rawS;have zz:=k2.thaw (g:=g) (cs:=#[.int .i64 0,.slice none 0 0,.int .i64 0,.slice none 0 0]) (t:=50) ZMB;go_simp;have K9:=k2.set4Z (b:=g) (t:=50) (x0:=.int .i64 0) (x1:=.slice none 0 0) (x2:=.int .i64 0) (x3:=.slice none 0 0) (u0:=.int .i64 y1.s) (u1:=.slice y1.A y1.n y1.c) (u2:=.int .i64 y1.t) (u3:=.slice y1.B y1.m y1.d) (Upd.head _);refine hKK.out _ _ ?_;clear hKK KK r zz;refine ZPT ?_;refine jac.tkF 14 rfl ?_;refine ⟨by kernel_rfl,?_⟩;generalize ((((V2.setCell ⟨g,0,none⟩ (.int .i64 y1.s)).setCell ⟨g,1,none⟩ (.slice y1.A y1.n y1.c)).setCell ⟨g,2,none⟩ (.int .i64 y1.t)).setCell ⟨g,3,none⟩ (.slice y1.B y1.m y1.d))=W9 at K9 ⊢;clear k2 hSh HS HMu;have K:=K9;clear K9;have r:=K.rawS;by_cases he:er1=0
    ·subst he;have gz1:=jmT (gy1.out.1 rfl);have HM:=jmT (show mulK (x k) (y k)=true from by simpa using gy1.out.2);clear gy1
     go_wp2_with (first|(refine ZAL ?_;clear K r;(first|((fail_if_success revert b0);intro W b0 K r)|((fail_if_success revert b1);intro W b1 K r)|intro W b K r))|(refine ZST ?_;clear K r;intro W K r))
     refine (jkb K HZ.out.1 gz1.out ZMB ZMB ZMB ZMB).mono ?_;rintro e V8 ⟨y2,er2,rfl,gy2,k8⟩;replace K:=k8;clear k8 r gz1;have r:=K.rawS;by_cases he2:er2=0
     ·subst he2;have HZ2:=jmT (show isQ y2 (smQ (fun i=>x i*y i) (k+1))∧FrA w.heap.size y2.A∧FrA w.heap.size y2.B from ⟨by rw [smQ];exact gy2.out.1.1 rfl,gy2.out.2⟩)
      have HP2:=jmT (show prdK x y (k+1)=true from by
       have h:=gy2.out.1.2;rw [jb2,HP.out,HM.out]
       simpa using h)
      clear gy2 HZ HP HM
      go_wp2_with (first|(refine ZAL ?_;clear K r;(first|((fail_if_success revert b0);intro W b0 K r)|((fail_if_success revert b1);intro W b1 K r)|intro W b K r))|(refine ZST ?_;clear K r;intro W K r))
      go_roundg (n-(k+1))
      case rel=>exact ⟨k+1,y2,hlt,rfl,by go_num,HP2,HZ2,(K.lessS (D':=⟨rdP y2.B y2.m y2.d y2.k,rdS y2.B y2.m⟩::⟨rdP y2.A y2.n y2.c y2.l,rdS y2.A y2.n⟩::[(⟨fxP (some ⟨ab,ao,none⟩) n cap u,fxS (some ⟨ab,ao,none⟩) n u⟩:Hl),⟨fxP (some ⟨bb,bo,none⟩) n cap' v,fxS (some ⟨bb,bo,none⟩) n v⟩]) Zb10).part (L':=[((b1,#[.int .i64 y2.s,.slice y2.A y2.n y2.c,.int .i64 y2.t,.slice y2.B y2.m y2.d],50):Blk),(b0,#[.int .i64 0,.slice none 0 0,.int .i64 0,.slice none 0 0],50)]) Zb10⟩
      case measure=>omega
     ·have hx:(er2 !=0)=true:=by simpa using he2
      have HN:=jmT (show prdK x y n=false from Bool.eq_false_iff.2 fun hp=>by
       have h:=jfg hp hlt;rw [jb2,Bool.and_eq_true,Bool.and_eq_true] at h;have h2:=gy2.out.1.2;rw [h.2.2,hx] at h2
       cases h2)
      clear gy2 HP HM
      go_wp2_with (first|(refine ZAL ?_;clear K r;(first|((fail_if_success revert b0);intro W b0 K r)|((fail_if_success revert b1);intro W b1 K r)|intro W b K r))|(refine ZST ?_;clear K r;intro W K r))
      have HX:=jmT (show SumR w n x y (.returned (.tuple #[.agg #[.int .i64 z.s,.slice z.A z.n z.c,.int .i64 z.t,.slice z.B z.m z.d],.bool false])) _ from ⟨z,false,rfl,HN.out.symm,(fun h=>by cases h),⟨K.rd ZMB,K.rd ZMB⟩,HZ.out.2,K.1⟩);have r:=K.rawS;exact bodyPost_ret (v:=.tuple #[.agg #[.int .i64 z.s,.slice z.A z.n z.c,.int .i64 z.t,.slice z.B z.m z.d],.bool false]) (by simp [results,Tryz.results31,go_sem,r]) rfl HX.out
    ·have hx:(er1 !=0)=true:=by simpa using he
     have HN:=jmT (show prdK x y n=false from Bool.eq_false_iff.2 fun hp=>by
      have h:=jfg hp hlt;rw [jb2,Bool.and_eq_true,Bool.and_eq_true] at h;have h2:=gy1.out.2;rw [h.2.1,hx] at h2
      cases h2)
     clear gy1 HP
     go_wp2_with (first|(refine ZAL ?_;clear K r;(first|((fail_if_success revert b0);intro W b0 K r)|((fail_if_success revert b1);intro W b1 K r)|intro W b K r))|(refine ZST ?_;clear K r;intro W K r))
     have HX:=jmT (show SumR w n x y (.returned (.tuple #[.agg #[.int .i64 z.s,.slice z.A z.n z.c,.int .i64 z.t,.slice z.B z.m z.d],.bool false])) _ from ⟨z,false,rfl,HN.out.symm,(fun h=>by cases h),⟨K.rd ZMB,K.rd ZMB⟩,HZ.out.2,K.1⟩);have r:=K.rawS;exact bodyPost_ret (v:=.tuple #[.agg #[.int .i64 z.s,.slice z.A z.n z.c,.int .i64 z.t,.slice z.B z.m z.d],.bool false]) (by simp [results,Tryz.results31,go_sem,r]) rfl HX.out
  ·have e:n=k:=by omega
   subst e;have hltd:decide (n<n)=false:=decide_eq_false hlt;clear hlt
   go_wp2_with (first|(refine ZAL ?_;clear K r;(first|((fail_if_success revert b0);intro W b0 K r)|((fail_if_success revert b1);intro W b1 K r)|intro W b K r))|(refine ZST ?_;clear K r;intro W K r))
   have HX:=jmT (show SumR w n x y (.returned (.tuple #[.agg #[.int .i64 z.s,.slice z.A z.n z.c,.int .i64 z.t,.slice z.B z.m z.d],.bool true])) _ from ⟨z,true,rfl,HP.out.symm,(fun _=>HZ.out.1),⟨K.rd ZMB,K.rd ZMB⟩,HZ.out.2,K.1⟩);have r:=K.rawS;exact bodyPost_ret (v:=.tuple #[.agg #[.int .i64 z.s,.slice z.A z.n z.c,.int .i64 z.t,.slice z.B z.m z.d],.bool true]) (by simp [results,Tryz.results31,go_sem,r]) rfl HX.out
end Go.Proofs.YtdlcglndhhndpaaGreat
