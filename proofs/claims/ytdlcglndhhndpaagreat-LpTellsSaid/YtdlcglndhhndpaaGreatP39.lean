/- Laws and walks; conditions stand in each theorem. -/
import Derived.Test.YtdlcglndhhndpaaGreatP37
import Derived.Test.YtdlcglndhhndpaaGreatP38
set_option linter.unusedSimpArgs false
set_option linter.unusedVariables false
set_option maxHeartbeats 8000000
set_option maxRecDepth 100000
namespace Go.Proofs.YtdlcglndhhndpaaGreat
open Go.RowKit
section
variable {m N db:Nat} {b:Bool} {G:Dc} {Ld:List Blk} {Dd:List Hl} {w0 W:World} {L1:List Blk} {D:List Hl}
theorem jmP (HL:DicL m N db b G Ld Dd) (K:St w0 (Ld++L1) (Dd++D) W) (hOk:G.Ok m N) (hm:m≤1000) (hN:N≤1000) {s:Nat} (hs:s<N) :
 Calls Tryz.prog 65 #[.pointer (some ⟨db,0,none⟩),.int .i64 N,.int .i64 s] W (ConP w0 Ld L1 Dd D N (xR m G s)):=by
 have HD:=jmT HL;have HOk:=jmT hOk;have HsN:=jmT hs;have hsi:(s:Int)<(N:Int):=by omega
 have hs0:(0:Int)≤(s:Int):=by omega
 clear hOk HL hs;go_enter Tryz.func65,Tryz.ntmps65
 go_wp2_with fail;refine (jcH N w0 W _ _ K hN).mono ?_;rintro e W1 ⟨g,v,rfl,hv,K1⟩;clear K;have K:=K1;clear K1;obtain ⟨A1,k1,hown⟩:=HD.out.ownA (w0:=w0) hm;have HOR:=jmT hown;obtain ⟨A2,k2,hfree⟩:=HD.out.freeA (w0:=w0) hN;have co:=(hown _ _ _ Zb20 K).1;have cf:=(hfree _ _ _ Zb20 K).1;obtain ⟨vb,vo,hA,hvb,hcc⟩:=RdI.cellAt (hfree _ _ _ Zb20 K).2 HsN.out;subst hA;rw [jc1 HsN.out] at hcc;have hcp1:=(hfree _ _ _ Zb20 K).2.caps;clear hown hvb hfree;obtain ⟨x0,hx0⟩:∃x0:Nat→Rat,x0=fun u=>if G.free s=u then 1 else 0:=⟨_,rfl⟩
 have HX0:=jmT hx0
 have HEND:=jmT (fun (v:Nat→Rw) (x:Nat→Rat) (h1:∀u,u<N→isQ (v u) (x u)) (h2:PutX G.own (fun i=>0-G.a i s) N 0 m x0 x)=>(show ∀u,u<N→isQ (v u) (xR m G s u) from fun u hu=>by
  have h3:=h1 u hu;rw [h2 u hu,Nat.zero_add] at h3;unfold xR;by_cases e0:G.free s=u
  ·rw [if_pos e0];rw [je7 (fun i hi e2=>HOk.out.ne i s hi HsN.out (by rw [e0,e2]))] at h3;rw [hx0] at h3;simp only [if_pos e0] at h3;exact h3
  ·rw [if_neg e0];cases e2:idxP G.own u m with
   | some j=>rw [e2] at h3;exact h3
   | none =>
    rw [e2,hx0] at h3;simp only [if_neg e0] at h3
    exact h3))
 clear hx0;by_cases hge:G.free s<N
 ·obtain ⟨u,hu⟩:∃u,u=G.free s:=⟨_,rfl⟩;have hgd:decide (G.free s<N)=true:=decide_eq_true hge;have hui:(u:Int)<(N:Int):=by omega
  have hu0:(0:Int)≤(u:Int):=by omega
  have HNu:=jmT (fun V L5 D5 (h:St w0 L5 D5 V)=>(jcq 1 V Zb4).mono fun e W6 ⟨s7,A7,n7,c7,l7,t7,B7,m7,d7,k7,he,⟨hra,hrb⟩,ho,⟨hfa,hfb⟩,hbl⟩=>(⟨⟨s7,A7,n7,c7,l7,t7,B7,m7,d7,k7⟩,he,jmT (⟨ho,by decide +kernel⟩:isQ ⟨s7,A7,n7,c7,l7,t7,B7,m7,d7,k7⟩ 1),h.retF hbl hra hrb hfa hfb⟩:∃z:Rw,e=Ending.returned (.agg #[.int .i64 z.s,.slice z.A z.n z.c,.int .i64 z.t,.slice z.B z.m z.d])∧Hid (isQ z 1)∧St w0 L5 (⟨rdP z.B z.m z.d z.k,rdS z.B z.m⟩::⟨rdP z.A z.n z.c z.l,rdS z.A z.n⟩::D5) W6))
  have HV0:=jmT (show ∀z:Rw,isQ z 1→∀i,i<N→isQ (putF v u z i) (x0 i) from fun z hz i hi=>by
   rw [HX0.out];by_cases e:i=u
   ·rw [e,jaf];simp only [hu,if_true];exact hz
   ·rw [jad e];show isQ (v i) (if G.free s=i then 1 else 0);rw [if_neg ZO]
    exact hv.out i hi)
  have Hum:=jmT (show u<N by omega);rw [←hu] at hcc hgd hge;clear hu hv HX0
  go_wp2_with (first
   | (go_at_call 112;refine (HNu.out _ _ _ K).mono ?_;rintro e w3 ⟨z,rfl,gz,K3⟩)
   | (refine K3.storeR rfl rfl _ _ _ rfl g u N z rfl rfl Hum.out ZUA jae ?_;clear co cf;intro W8 K8;have co:=(HOR.out _ _ _ Zb20 K8).1))
  have HV1:=jmT (HV0.out z gz.out);replace K:=((K8.rwPut (v:=v) z u ZMB ZMB ZMB).lessS (D':=⟨rwP N (putF v u z),rwS N (putF v u z)⟩::(Dd++D)) Zb10);obtain ⟨v1,hv1⟩:∃v1,v1=putF v u z:=⟨_,rfl⟩;rw [←hv1] at K HV1;clear hv1 K3 K8 HV0 HNu gz hcc co;exact ZQ3
 ·have hgd:decide (G.free s<N)=false:=decide_eq_false hge;have hgi:¬((G.free s:Nat):Int)<(N:Int):=by omega
  have HV1:=jmT (show ∀i,i<N→isQ (v i) (x0 i) from fun i hi=>by
   rw [HX0.out];show isQ (v i) (if G.free s=i then 1 else 0);rw [if_neg ZO]
   exact hv.out i hi)
  obtain ⟨v1,hv1⟩:∃v1,v1=v:=⟨_,rfl⟩;rw [←hv1] at K HV1;clear hv1 hv HX0;go_wp2_with fail;clear co cf;exact ZQ3
end
def LstP (w:World) (n:Nat) (x:Nat→Rat) (e:Ending) (w':World):Prop:=∃A c,e=.returned (.slice A n c)∧FrK w w' A n c (ofF n fun i=>fvQ (x i))∧Below w.heap.size w w'
theorem jb0 (A:Option Addr) (n cap:Nat) (l:List Int) (w:World) (hl:RdI w w.heap.size A n cap l) (hn:n≤1000) (hb:∀x∈l,-9223372036854775808≤x∧x≤9223372036854775807) :
 Calls Tryz.prog 57 #[.slice A n cap] w (LstP w n fun i=>((gi l i:Int):Rat)):=by
 have hcap:=hl.caps;have HL:=jmT (fun W (h:Below w.heap.size w W)=>hl.up (jab _) h)
 have HB:=jmT (show ∀i,i<n→ -9223372036854775808≤gi l i∧gi l i≤9223372036854775807 from fun i hi=>by
  have e:=hl.len;unfold gi;rw [List.getD_eq_getElem?_getD,List.getElem?_eq_getElem ZO]
  exact hb _ (List.getElem_mem _))
 have K:St w ([]++[]) [⟨rwP 0 (fun _=>Rw.zero),rwS 0 (fun _=>Rw.zero)⟩] w:=(St.start w).rwNew 0;clear hl hb;go_enter Tryz.func57,Tryz.ntmps57
 go_wp2_with fail
 go_loopg [3,4] n (fun gk s3 s4 wr=>∃(k:Nat) (v:Nat→Rw) (val:Value) (X:List Blk),k≤n∧gk=n-k∧s3=val∧s4=.int .i64 k∧Hid ((∀j,j<k→(v j).fv=fvQ ((gi l j:Int):Rat))∧∀b,rwS k v b→w.heap.size≤b)∧OwL 4 Rw.cs 50 val (ofF k v) X∧St w (X++[]) [⟨rwP k v,rwS k v⟩] wr)
 case atStart=>exact ⟨0,fun _=>Rw.zero,_,[],Nat.zero_le _,rfl,rfl,rfl,jmT ⟨fun j h=>absurd h ZO,fun b ⟨i,hi,_⟩=>absurd hi ZO⟩,OwL.nil,K⟩
 case round =>
  clear K;obtain ⟨k,v,val,X,hk,rfl,rfl,rfl,HV,ho,K⟩:=hrel;by_cases hlt:k<n
  ·have hki:(k:Int)<(n:Int):=by omega
   have hk0:(0:Int)≤(k:Int):=by omega
   have hltd:decide (k<n)=true:=decide_eq_true hlt;obtain ⟨vb,vo,hA,hvb,hc⟩:=RdI.cellAt (HL.out _ K.1) hlt;subst hA;have HO:=jmT (fun W=>jfd (gi l k) W (HB.out k hlt));have Ho:=jmT ho;have Hsz:=jmT K.1.size;clear hvb ho
   go_wp2_with (first
    | (go_at_call 66;refine (HO.out _).mono ?_;rintro e W' ⟨s9,A9,n9,c9,l9,t9,B9,m9,d9,k9,rfl,⟨hra,hrb⟩,ho9,⟨hfa,hfb⟩,hbl⟩;replace K:=K.retF hbl hra hrb hfa hfb)
    | (at_builtin;refine K.app1 Ho.out jax rfl _ _ 23 rfl _ 64 Tryz.underlying23 jaF rfl rfl (⟨s9,A9,n9,c9,l9,t9,B9,m9,d9,k9⟩:Rw) _ rfl _ rfl Zb23 Zb3 ZO ?_;intro v4 X4 W4 ho4 K4))
   rw [jaP] at ho4
   have HV2:=jmT (show (∀j,j<k+1→(putF v k (⟨s9,A9,n9,c9,l9,t9,B9,m9,d9,k9⟩:Rw) j).fv=fvQ ((gi l j:Int):Rat))∧∀b,rwS (k+1) (putF v k (⟨s9,A9,n9,c9,l9,t9,B9,m9,d9,k9⟩:Rw)) b→w.heap.size≤b from ⟨fun j hj=>by
    by_cases e:j=k
    ·rw [e,jaf];exact ho9.fv
    ·rw [jad e];exact HV.out.1 j ZO,fun b ⟨j,hj,hS⟩=>by
    by_cases e:j=k
    ·rw [e,jaf] at hS;rcases hS with ⟨-,a,ha,rfl⟩|⟨-,a,ha,rfl⟩
     ·exact Nat.le_trans Hsz.out (hfa a ha)
     ·exact Nat.le_trans Hsz.out (hfb a ha)
    ·rw [jad e] at hS
     exact HV.out.2 b ⟨j,by omega,hS⟩⟩)
   have HK:=jmT ((K4.rwAdd (v:=v) (n:=k) ⟨s9,A9,n9,c9,l9,t9,B9,m9,d9,k9⟩ ZMB ZMB ZMB).lessS (D':=[⟨rwP (k+1) (putF v k ⟨s9,A9,n9,c9,l9,t9,B9,m9,d9,k9⟩),rwS (k+1) (putF v k ⟨s9,A9,n9,c9,l9,t9,B9,m9,d9,k9⟩)⟩]) Zb10);clear K4 ho9 HV Ho;go_roundg (n-(k+1))
   case rel=>exact ⟨k+1,_,_,X4,hlt,rfl,rfl,by go_num,HV2,ho4,HK.out⟩
   case measure=>omega
  ·have e:n=k:=by omega
   subst e;have hltd:decide (n<n)=false:=decide_eq_false hlt;obtain ⟨Ao,co,hv,hro⟩:=ho.frK K ZMB ZO HV.out.2;subst hv;rw [jav (g:=fun i=>fvQ ((gi l i:Int):Rat)) (fun i hi=>HV.out.1 i hi)] at hro;have HX:=jmT (show LstP w n (fun i=>((gi l i:Int):Rat)) (.returned (.slice Ao n co)) wr from ⟨Ao,co,rfl,hro,K.1⟩);clear ho K hro HV hlt;go_wp2_with fail;go_ret;exact HX.out
def okS (m n:Nat):Nat→Dc→Bool
 | 0,D=>match D.pick m n with
  | .swap _ _=>false
  | _=>true
 | t+1,D=>match D.pick m n with
  | .swap r s=>D.fitX m n r s&&okS m n t (D.xch r s)
  | _=>false
theorem jdM {m n:Nat}:∀ {t:Nat} {D:Dc},okS m n t D=true→Srch m n D (some (Dc.seq m n t D))
 | 0,D,h=>by
  refine .stop fun ⟨r,s,e⟩=>?_
  unfold okS at h;rw [e] at h;cases h
 | t+1,D,h=>by
  unfold okS at h;cases e:D.pick m n with
  | swap r s =>
   rw [e] at h;have h:(D.fitX m n r s&&okS m n t (D.xch r s))=true:=h;rw [Bool.and_eq_true] at h;have e3:D.nxt m n=D.xch r s:=by unfold Dc.nxt;rw [e]
   refine .step e h.1 ?_;rw [Dc.seq,e3];exact jdM h.2
  | best=>rw [e] at h;cases h
  | contra i=>rw [e] at h;cases h
  | endless j=>rw [e] at h;cases h
def rwJ (l:List Int) (b:Int):Rv:=⟨ofF l.length fun i=>fvQ ((gi l i:Int):Rat),fvQ ((b:Int):Rat)⟩
def fvJ (l:List Int):List Fv:=ofF l.length fun i=>fvQ ((gi l i:Int):Rat)
def pA:List Rv:=[rwJ [1,2] 4,rwJ [3,1] 6]
def pB:List Rv:=[rwJ [-1] (-3),rwJ [1] 2]
def pC:List Rv:=[rwJ [1,-1] 1]
def pD:List Rv:=[rwJ [] (-1)]
abbrev opS (l:List Fv) (ls:List Rv) (m n:Nat) (zero:Bool):Dc:=opnD n (rwA2 ls) (rwB2 ls false) (if zero=true then fun _=>0 else fvR l)
theorem jfT {l:List Fv} {ls:List Rv} {m n t r:Nat} (h:okS m n t (opS l ls m n true)=true) (hp:(Dc.seq m n t (opS l ls m n true)).pick m n=.contra r):jbw m n (rwA2 ls) (rwB2 ls false) (fvR l) (.none (yC n (Dc.seq m n t (opS l ls m n true)) r)):=.none (jdM h) hp
theorem jg6 {l:List Fv} {ls:List Rv} {m n t u:Nat} (h:okS m n t (opS l ls m n true)=true) (hp:(Dc.seq m n t (opS l ls m n true)).pick m n=.best) (h2:okS m n u (opS l ls m n false)=true):jbw m n (rwA2 ls) (rwB2 ls false) (fvR l) (jf8 m n (Dc.seq m n u (opS l ls m n false))):=.fin (jdM h) (fun r e=>by cases (hp.symm.trans e)) (jdM h2)
theorem exA1:okS 2 2 0 (opS (fvJ [1,1]) pA 2 2 true)=true:=by decide +kernel
theorem exA2:okS 2 2 2 (opS (fvJ [1,1]) pA 2 2 false)=true:=by decide +kernel
theorem exA3:(Dc.seq 2 2 0 (opS (fvJ [1,1]) pA 2 2 true)).pick 2 2=.best:=by kernel_rfl
theorem exA4:(Dc.seq 2 2 2 (opS (fvJ [1,1]) pA 2 2 false)).pick 2 2=.best:=by kernel_rfl
theorem exA5:(ofF 2 fun i=>fvQ (xB 2 (Dc.seq 2 2 2 (opS (fvJ [1,1]) pA 2 2 false)) i))=[fvQ (Rat.divInt 8 5),fvQ (Rat.divInt 6 5)]:=by decide +kernel
theorem exA6:(ofF 2 fun i=>fvQ (yB 2 (Dc.seq 2 2 2 (opS (fvJ [1,1]) pA 2 2 false)) i))=[fvQ (Rat.divInt 2 5),fvQ (Rat.divInt 1 5)]:=by decide +kernel
theorem exB1:okS 2 1 1 (opS (fvJ [1]) pB 2 1 true)=true:=by decide +kernel
theorem exB2:(Dc.seq 2 1 1 (opS (fvJ [1]) pB 2 1 true)).pick 2 1=.contra 1:=by kernel_rfl
theorem exB3:(ofF 2 fun i=>fvQ (yC 1 (Dc.seq 2 1 1 (opS (fvJ [1]) pB 2 1 true)) 1 i))=[fvQ ((1:Int):Rat),fvQ ((1:Int):Rat)]:=by decide +kernel
theorem exC1:okS 1 2 0 (opS (fvJ [1,1]) pC 1 2 true)=true:=by decide +kernel
theorem exC2:(Dc.seq 1 2 0 (opS (fvJ [1,1]) pC 1 2 true)).pick 1 2=.best:=by kernel_rfl
theorem exC3:okS 1 2 1 (opS (fvJ [1,1]) pC 1 2 false)=true:=by decide +kernel
theorem exC4:(Dc.seq 1 2 1 (opS (fvJ [1,1]) pC 1 2 false)).pick 1 2=.endless 1:=by kernel_rfl
theorem exC5:(ofF 2 fun i=>fvQ (xR 1 (Dc.seq 1 2 1 (opS (fvJ [1,1]) pC 1 2 false)) 1 i))=[fvQ ((1:Int):Rat),fvQ ((1:Int):Rat)]:=by decide +kernel
theorem exD1:okS 1 0 0 (opS [] pD 1 0 true)=true:=by decide +kernel
theorem exD2:(Dc.seq 1 0 0 (opS [] pD 1 0 true)).pick 1 0=.contra 0:=by kernel_rfl
theorem exD3:(ofF 1 fun i=>fvQ (yC 0 (Dc.seq 1 0 0 (opS [] pD 1 0 true)) 0 i))=[fvQ ((1:Int):Rat)]:=by decide +kernel
theorem St.fxOwL {w W:World} {L X:List Blk} {D:List Hl} {n:Nat} {v:Nat→Rw} {e:TypeId} {val:Value} (K:St w (X++L) D W) (ho:OwL 4 Rw.cs e val (ofF n v) X) (hm:(⟨rwP n v,rwS n v⟩:Hl)∈D) (hn:n≤1000000):∃A cap,val=.slice A n cap∧St w L (⟨fxP A n cap v,fxS A n v⟩::D) W:=by
 have hP:=K.okAt hm;obtain ⟨A,cap,hv,hr⟩:=(ho.own jax K).rd jax Zb3;rw [jam] at hv hr;refine ⟨A,cap,hv,(K.part (List.sublist_append_right _ _)).fxAdd ⟨hr,fun i hi=>hP.1 i hi⟩ fun b hS p hp e=>?_⟩;rcases hS with ⟨hn0,a,ha,rfl⟩|⟨i,hi,hS⟩
 ·rcases ho with ⟨rfl,-,-⟩|⟨g,cap2,J,rfl,rfl,-⟩
  ·injection hv with h1 h2 h3
   omega
  ·injection hv with h1 h2 h3
   subst h1;injection ha with ha
   subst ha;exact (List.pairwise_cons.1 K.2.2.1).1 p hp e.symm
 ·exact (hP.2.1 b ⟨i,hi,hS⟩).2 p (List.mem_append_right _ hp) e
theorem jcx {x y:Rat}:¬cmpQ x y<0↔y≤x:=by
 have h:=jck (x:=y) (y:=x);rw [jkk] at h;constructor
 ·intro h1;exact h.1 ZO
 ·intro h1;have:=h.2 h1;omega
theorem jhj (w0 W:World) (L:List Blk) (D:List Hl) (mb:Nat) (b:Bool) (R:List Value) (T:TypeId) (A A' B:Option Addr) (n cap m cap' capx:Nat) (l:List Fv) (ls:List Rv) (v:Nat→Rw) (y:Nat→Rat)
 (K:St w0 L D W) (hmb:(mb,(Value.bool b::R).toArray,T)∈L) (hl:RdF w0 w0.heap.size A n cap l) (hr:RdR w0 w0.heap.size A' m cap' ls) (hok:l.all Fv.ok=true) (hrow:∀(k:Nat) (X:Rv),ls[k]?=some X→rowF n X=true) (m2:(⟨fxP B m capx v,fxS B m v⟩:Hl)∈D) (hm:m≤1000) (hy:∀i,i<m→isQ (v i) (y i)) :
 Calls Tryz.prog 75 #[.pointer (some ⟨mb,0,none⟩),.agg #[.slice A n cap,.slice A' m cap'],.slice B m capx,.bool false] W (SumP w0 mb R T b L D (covB m n (rwA2 ls) (fvR l) y)):=by
 have HY:=jmT hy;have HZ:=jmT jbj;have M2:=jmT m2;have HL:=jmT hr;have HG:=jmT hl;have HRow:=jmT hrow;have HOk:=jmT hok;have hcap:=hl.caps;have hcap':=hr.caps;have hcapx:=K.fxCap m2;obtain ⟨L9,hU9,rfl⟩:=Upd.same hmb;have HU0:=jmT hU9;clear hy hr hl hrow hok hmb hU9 m2;have r:=K.raw;go_enter Tryz.func75,Tryz.ntmps75
 go_wp2_with (apply K.box;rfl;rfl;rfl;clear K r;intro W b0 K;have r:=K.rawS)
 go_loopg [17] n (fun gk s17 wr=>∃(j:Nat) (bk:Bool) (Lk:List Blk),j≤n∧gk=n-j∧s17=.int .i64 j∧Hid (Upd mb (Value.bool b::R).toArray T (Value.bool bk::R).toArray L9 Lk)∧Hid ((!bk)=(!b&&jaX (fun k=>prdK y (fun i=>rwA2 ls i k) m) (fun k=>decide ((fvR l) k≤smQ (fun i=>y i*rwA2 ls i k) m)) j))∧St w0 ((b0,#[.slice A n cap,.slice A' m cap'],38)::Lk) D wr)
 case atStart=>exact ⟨0,b,L9,Nat.zero_le _,rfl,rfl,HU0,jmT (by simp [jaX]),K⟩
 case round =>
  clear K r HU0;obtain ⟨j,bk,Lk,hj,rfl,rfl,HU,HS,K⟩:=hrel;by_cases hlt:j<n
  ·obtain ⟨gb,go,A1,n1,c1,B1,m1,d1,X,hA,hbB,hX,⟨z0,z1,z2,z3⟩,r1,r2⟩:=HG.out.atF hlt;subst hA;have hji:(j:Int)<(n:Int):=by omega
   have hj0:(0:Int)≤(j:Int):=by omega
   have y0:=(K.1.cell (p:=⟨gb,go+j*4,none⟩) hbB).trans z0;have y1:=(K.1.cell (p:=⟨gb,go+j*4+1,none⟩) hbB).trans z1;have y2:=(K.1.cell (p:=⟨gb,go+j*4+2,none⟩) hbB).trans z2;have y3:=(K.1.cell (p:=⟨gb,go+j*4+3,none⟩) hbB).trans z3;have hc1:=r1.caps;have hc2:=r2.caps;obtain ⟨g1,hg1⟩:∃g1:Rw,g1=⟨X.s,A1,n1,c1,X.l,X.t,B1,m1,d1,X.m⟩:=⟨_,rfl⟩
   have HQ1:=jmT (show isQ g1 (fvR l j) from by
    exact ZQ150)
   replace K:St w0 ((b0,#[.slice (some ⟨gb,go,none⟩) n cap,.slice A' m cap'],38)::Lk) (⟨rdP g1.B g1.m g1.d g1.k,rdS g1.B g1.m⟩::⟨rdP g1.A g1.n g1.c g1.l,rdS g1.A g1.n⟩::D) wr:=by rw [hg1];exact (K.rdOld r1).rdOld r2
   replace y0:wr.cell? ⟨gb,go+j*4,none⟩=some (.int .i64 g1.s):=by rw [hg1];exact y0
   replace y1:wr.cell? ⟨gb,go+j*4+1,none⟩=some (.slice g1.A g1.n g1.c):=by rw [hg1];exact y1
   replace y2:wr.cell? ⟨gb,go+j*4+2,none⟩=some (.int .i64 g1.t):=by rw [hg1];exact y2
   replace y3:wr.cell? ⟨gb,go+j*4+3,none⟩=some (.slice g1.B g1.m g1.d):=by rw [hg1];exact y3
   replace hc1:g1.n≤g1.c∧g1.c≤9223372036854775807∧g1.n≤140737488351232:=by rw [hg1];exact hc1
   replace hc2:g1.m≤g1.d∧g1.d≤9223372036854775807∧g1.m≤140737488351232:=by rw [hg1];exact hc2
   clear hX z0 z1 z2 z3 r1 r2 hg1;have r:=K.rawS
   go_wp2_with (first
    | (apply K.alloc;rfl;rfl;exact jaj;clear K r;intro W b1 K;have r:=K.rawS)
    | (apply K.storeA;rfl;rfl;rfl;rfl;rfl;(exact ZUP);exact jae;rfl;rfl;rfl;clear K r;intro W K;have r:=K.rawS))
   replace K:St w0 ([]++(((b1,#[.int .i64 g1.s,.slice g1.A g1.n g1.c,.int .i64 g1.t,.slice g1.B g1.m g1.d],50):Blk)::((b0,#[.slice (some ⟨gb,go,none⟩) n cap,.slice A' m cap'],38):Blk)::Lk)) _ _:=K.rwNew 0;clear r y0 y1 y2 y3
   go_loopg [11,25] m (fun gk s11 s25 wr=>∃(k:Nat) (u:Nat→Rw) (val:Value) (X:List Blk),k≤m∧gk=m-k∧s11=val∧s25=.int .i64 k∧Hid (∀i,i<k→isQ (u i) (rwA2 ls i j))∧Hid (OwL 4 Rw.cs 50 val (ofF k u) X)∧St w0 (X++(((b1,#[.int .i64 g1.s,.slice g1.A g1.n g1.c,.int .i64 g1.t,.slice g1.B g1.m g1.d],50):Blk)::((b0,#[.slice (some ⟨gb,go,none⟩) n cap,.slice A' m cap'],38):Blk)::Lk)) (⟨rwP k u,rwS k u⟩::⟨rdP g1.B g1.m g1.d g1.k,rdS g1.B g1.m⟩::⟨rdP g1.A g1.n g1.c g1.l,rdS g1.A g1.n⟩::D) wr)
   case atStart=>exact ⟨0,fun _=>Rw.zero,_,[],Nat.zero_le _,rfl,rfl,rfl,jmT (fun i h=>absurd h ZO),jmT OwL.nil,K⟩
   case round =>
    clear K;obtain ⟨k,u,val,X,hk,rfl,rfl,rfl,HA,Ho,K⟩:=hrel;by_cases hlk:k<m
    ·exact ZQ15
    ·have e:m=k:=by omega
     subst e;have hlkd:decide (m<m)=false:=decide_eq_false hlk;obtain ⟨Ac,cc,hv,K⟩:=K.fxOwL Ho.out ZMB ZO;subst hv;clear Ho hlk;have r:=K.rawS;obtain ⟨g,hg⟩:∃g:Rw,g=g1:=⟨_,rfl⟩;subst hg;have HQ:=HQ1;go_upto_region 12 with fail;clear HQ1;have hcc:=K.fxCap (A:=Ac) (n:=m) (cap:=cc) (v:=u) ZMB;have K0:=K.drew;obtain ⟨bn,hbn⟩:∃bn,bn=(bk|| !prdK y (fun i=>rwA2 ls i j) m):=⟨_,rfl⟩;obtain ⟨Ln,hU1,hU2⟩:=HU.out.next (Value.bool bn::R).toArray;have HU2:=jmT hU2;have HBn:=jmT hbn;have HPr:=jmT (jbD w0 _ _ (((b1,#[.int .i64 g.s,.slice g.A g.n g.c,.int .i64 g.t,.slice g.B g.m g.d],50):Blk)::((b0,#[.slice (some ⟨gb,go,none⟩) n cap,.slice A' m cap'],38):Blk)::Ln) _ mb bk bn R T B Ac m capx m cc v u y (fun i=>rwA2 ls i j) K0 Zb12 ZMB ⟨Nat.le_refl _,by omega⟩ HY.out HA.out hbn (.tail _ (.tail _ hU1)))
     have HCm:=jmT (fun V (y2:Rw) (z2:Rat) (hz:isQ y2 z2) (h:St w0 (((b1,#[.int .i64 g.s,.slice g.A g.n g.c,.int .i64 g.t,.slice g.B g.m g.d],50):Blk)::((b0,#[.slice (some ⟨gb,go,none⟩) n cap,.slice A' m cap'],38):Blk)::Ln) (⟨rdP y2.B y2.m y2.d y2.k,rdS y2.B y2.m⟩::⟨rdP y2.A y2.n y2.c y2.l,rdS y2.A y2.n⟩::(⟨fxP Ac m cc u,fxS Ac m u⟩:Hl)::⟨rwP m u,rwS m u⟩::⟨rdP g.B g.m g.d g.k,rdS g.B g.m⟩::⟨rdP g.A g.n g.c g.l,rdS g.A g.n⟩::D) V)=>jdT h hz HQ.out ZMB ZMB ZMB ZMB)
     have HSA:=jmT (fun V D2 Lx (h:St w0 (((b1,#[.int .i64 g.s,.slice g.A g.n g.c,.int .i64 g.t,.slice g.B g.m g.d],50):Blk)::Lx) D2 V)=>(show (V.cell? ⟨b1,0,none⟩=some (.int .i64 g.s)∧V.cell? ⟨b1,1,none⟩=some (.slice g.A g.n g.c)∧V.cell? ⟨b1,2,none⟩=some (.int .i64 g.t)∧V.cell? ⟨b1,3,none⟩=some (.slice g.B g.m g.d)) from ⟨(h.blk ZMB).cell (j:=0) rfl,(h.blk ZMB).cell (j:=1) rfl,(h.blk ZMB).cell (j:=2) rfl,(h.blk ZMB).cell (j:=3) rfl⟩));have s0:=HSA.out _ _ _ K0;clear hU1 hU2 hbn HU K r;refine jah 100 (fun V=>(V.cell? ⟨b1,0,none⟩=some (.int .i64 g.s)∧V.cell? ⟨b1,1,none⟩=some (.slice g.A g.n g.c)∧V.cell? ⟨b1,2,none⟩=some (.int .i64 g.t)∧V.cell? ⟨b1,3,none⟩=some (.slice g.B g.m g.d))) Zb9 s0 (fun hSh=>?_);clear s0;refine jaa.tkA 0 rfl ?_;refine jaa.tkA 1 rfl ?_;refine jaa.tkA 2 rfl ?_;refine jaa.tkA 4 rfl ?_;refine jaa.on 3 rfl fun KK hKK=>?_
     go_simp;go_at_call 76;refine HPr.out.mono ?_;rintro e w5 ⟨y2,z2,rfl,g2,k5⟩;go_wp2_with fail;refine hKK.out _ _ ?_ (fun hSh=>?_)
     ·exact HSA.out _ _ _ k5
     clear hKK KK;refine ZPT ?_;refine jaa.on 5 rfl fun KK hKK=>?_
     go_simp;go_at_call 54;refine (HCm.out _ _ _ g2.out.1 k5).mono ?_;rintro e w6 ⟨rfl,k6⟩;go_wp2_with fail;refine hKK.out _ _ ?_ (fun hSh=>?_)
     ·exact HSA.out _ _ _ k6
     clear hKK KK;refine ZPT ?_;have hst:=jds (q:=decide ((fvR l) j≤z2)) HS.out HBn.out (p:=fun k=>decide ((fvR l) k≤smQ (fun i=>y i*rwA2 ls i k) m)) (t:=fun k=>prdK y (fun i=>rwA2 ls i k) m) (fun h=>by rw [g2.out.2 h]);have Hst:=jmT hst;have HK:=jmT ((k6.lessS (D':=D) Zb13).part (List.sublist_cons_self _ _));clear hst k5 K0 HPr HCm HSA g2 HBn HS HA HQ HY HRow;by_cases hle:(fvR l) j≤z2
     ·have hc:¬cmpQ z2 ((fvR l) j)<0:=jcx.2 hle;have hcd:decide (cmpQ z2 ((fvR l) j)<0)=false:=decide_eq_false hc;exact ZQ83
     ·have hc:cmpQ z2 ((fvR l) j)<0:=by
       have:¬¬cmpQ z2 ((fvR l) j)<0:=fun h=>hle (jcx.1 h)
       omega
      have hcd:decide (cmpQ z2 ((fvR l) j)<0)=true:=decide_eq_true hc;exact ZQ64
  ·have e:n=j:=by omega
   subst e;have HE:=jmT (⟨true,bk,Lk,rfl,HU,jmT (by rw [Bool.true_and];exact HS.out),K.part (List.sublist_cons_self _ _)⟩:SumP w0 mb R T b L9 D (covB m n (rwA2 ls) (fvR l) y) (.returned (.bool true)) wr);exact jjV
theorem jhX {n i:Nat} {f:Nat→Fv} (hi:i<n):fvR (ofF n f) i=(f i).rat:=by
 unfold fvR;rw [jbf hi,Option.map_some,Option.getD_some]
theorem jjt {ls:List Rv} {i:Nat} {X:Rv} (h:ls[i]?=some X) (j:Nat):rwA2 ls i j=fvR X.a j:=by
 unfold rwA2 fvR;rw [h,Option.bind_some]
theorem jjv {ls:List Rv} {i:Nat} {X:Rv} (h:ls[i]?=some X):rwB2 ls false i=X.b.rat:=by
 unfold rwB2;rw [if_neg Zb4,h,Option.map_some,Option.getD_some]
theorem jfP {α:Type} {p:α→Bool} {n:Nat} {f:Nat→α} (h:∀i,i<n→p (f i)=true):(ofF n f).all p=true:=List.all_eq_true.2 fun x hx=>by
 obtain ⟨i,hi,rfl⟩:=List.mem_iff_getElem.1 hx;have hi':i<n:=by rw [jam] at hi;exact hi
 have:=jbf (f:=f) hi';rw [List.getElem?_eq_getElem hi] at this;rw [Option.some.inj this];exact h i hi'
theorem jbV {n:Nat} {X:Rv} (h:rowF (n:Int) X=true):X.a.length=n∧X.b.ok=true∧X.a.all Fv.ok=true:=by
 unfold rowF at h;rw [Bool.and_eq_true,Bool.and_eq_true,decide_eq_true_eq] at h;exact ⟨by omega,h.1.2,h.2⟩
section
variable {m n k u t:Nat} {l:List Fv} {ls:List Rv} {V:Nat→Rv}
end
end Go.Proofs.YtdlcglndhhndpaaGreat
