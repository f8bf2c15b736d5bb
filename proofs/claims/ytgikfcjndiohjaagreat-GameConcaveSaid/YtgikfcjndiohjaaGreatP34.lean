/- Laws and walks; conditions stand in each theorem. -/
import Derived.Test.YtgikfcjndiohjaaGreatP33
set_option linter.unusedSimpArgs false
set_option linter.unusedVariables false
set_option maxHeartbeats 8000000
set_option maxRecDepth 100000
namespace Go.Proofs.YtgikfcjndiohjaaGreat
open Go.RowKit
def jkB (w:World) (n g:Nat) (x:Nat→Rat) (e:Ending) (w':World):Prop :=
 ∃z:Rw,e=.returned (.tuple #[.agg #[.int .i64 z.s,.slice z.A z.n z.c,.int .i64 z.t,.slice z.B z.m z.d],.int .i64 0])∧isQ z (gsum g x n)∧(RdI w' w'.heap.size z.A z.n z.c z.l∧RdI w' w'.heap.size z.B z.m z.d z.k)∧(FrA w.heap.size z.A∧FrA w.heap.size z.B)∧Below w.heap.size w w'
theorem jgA {w0 W:World} {L:List Blk} {D:List Hl} {Y Z:Rw} {f q:Rat} (K:St w0 L D W) (hY:isQ Y f) (hZ:isQ Z q) (m1:(⟨rdP Y.A Y.n Y.c Y.l,rdS Y.A Y.n⟩:Hl)∈D) (m2:(⟨rdP Y.B Y.m Y.d Y.k,rdS Y.B Y.m⟩:Hl)∈D) (m3:(⟨rdP Z.A Z.n Z.c Z.l,rdS Z.A Z.n⟩:Hl)∈D) (m4:(⟨rdP Z.B Z.m Z.d Z.k,rdS Z.B Z.m⟩:Hl)∈D) :
 Calls Tryz.prog 21 #[.agg #[.int .i64 Y.s,.slice Y.A Y.n Y.c,.int .i64 Y.t,.slice Y.B Y.m Y.d],.agg #[.int .i64 Z.s,.slice Z.A Z.n Z.c,.int .i64 Z.t,.slice Z.B Z.m Z.d]] W (fun e W'=>∃y er,e=Ending.returned (.tuple #[.agg #[.int .i64 y.s,.slice y.A y.n y.c,.int .i64 y.t,.slice y.B y.m y.d],.int .i64 er])∧Hid (AddS f q y er∧FrA w0.heap.size y.A∧FrA w0.heap.size y.B)∧St w0 L (⟨rdP y.B y.m y.d y.k,rdS y.B y.m⟩::⟨rdP y.A y.n y.c y.l,rdS y.A y.n⟩::D) W'):=by
 obtain ⟨o,ho⟩:∃o,o=binO true (addK f q) (f+q):=⟨_,rfl⟩
 obtain ⟨er,her⟩:∃er,er=binE true (addK f q):=⟨_,rfl⟩
 have h:=je5 Y.s Y.t Z.s Z.t Y.A Y.B Z.A Z.B Y.n Y.c Y.m Y.d Z.n Z.c Z.m Z.d Y.l Y.k Z.l Z.k W (K.rd m1) (K.rd m2) (K.rd m3) (K.rd m4)
 rw [hY.1.right hY.2,hZ.1.right hZ.2,hY.1.rat,hZ.1.rat,Bool.and_true,←ho,←her] at h
 have HS:=fun y:Rw=>addS (y:=y) ho her
 clear ho her
 exact h.mono fun e W' ⟨s31,A31,n31,c31,l31,t31,B31,m31,d31,k31,he,⟨hra,hrb⟩,hop,⟨hfa,hfb⟩,hbb⟩=>⟨⟨s31,A31,n31,c31,l31,t31,B31,m31,d31,k31⟩,er,he,jpk ⟨HS _ hop,fun a ha=>Nat.le_trans K.1.size (hfa a ha),fun a ha=>Nat.le_trans K.1.size (hfb a ha)⟩,K.retF hbb hra hrb hfa hfb⟩
theorem jgg {g k:Nat} {x:Nat→Rat} (h:bitI g k=1):gsum g x (k+1)=gsum g x k+x k:=by
 unfold gsum
 rw [smQ,bitQ,h]
 grind
theorem jfc {g k:Nat} {x:Nat→Rat} (h:bitI g k≠1):gsum g x (k+1)=gsum g x k:=by
 have e:bitI g k=0:=by have:=jb8 g k;omega
 unfold gsum
 rw [smQ,bitQ,e]
 grind
theorem jhj:∀n,n<6→wrap64 ((2:Int) ^ n)=((2 ^ n:Nat):Int):=by decide +kernel
theorem jdn {w0 W:World} {L:List Blk} {D:List Hl} (p:Int) (hp: -9223372036854775808≤p∧p≤9223372036854775807) (hf:jaF ((p:Int):Rat)=true) (h:St w0 L D W):Calls Tryz.prog 32 #[.int .i64 p] W fun e W6=>∃z:Rw,e=Ending.returned (.agg #[.int .i64 z.s,.slice z.A z.n z.c,.int .i64 z.t,.slice z.B z.m z.d])∧Hid (isQ z ((p:Int):Rat)∧FrA w0.heap.size z.A∧FrA w0.heap.size z.B)∧St w0 L (⟨rdP z.B z.m z.d z.k,rdS z.B z.m⟩::⟨rdP z.A z.n z.c z.l,rdS z.A z.n⟩::D) W6 :=
 (jge p W hp).mono fun e W6 ⟨s7,A7,n7,c7,l7,t7,B7,m7,d7,k7,he,⟨hra,hrb⟩,ho,⟨hfa,hfb⟩,hbl⟩=>⟨⟨s7,A7,n7,c7,l7,t7,B7,m7,d7,k7⟩,he,jpk ⟨(⟨ho,hf⟩:isQ ⟨s7,A7,n7,c7,l7,t7,B7,m7,d7,k7⟩ _),fun a ha=>Nat.le_trans h.1.size (hfa a ha),fun a ha=>Nat.le_trans h.1.size (hfb a ha)⟩,h.retF hbl hra hrb hfa hfb⟩
theorem jfb (A:Option Addr) (n cap g:Nat) (a:List Fv) (w:World) (ha:RdF w w.heap.size A n cap a) (hn:n≤5) (hg:g<2 ^ n) (hoa:a.all Fv.ok=true) (hfit:∀k,k<n→addK (gsum g (fvR a) k) (fvR a k)=true) :
 Calls Tryz.prog 12 #[.slice A n cap,.int .i64 g] w (jkB w n g (fvR a)):=by
 have hcap:=ha.caps
 have HC:=jpk (fun W (h:Below w.heap.size w W)=>jkZ A n cap a W (ha.up jan h))
 rw [hoa] at HC
 obtain ⟨u,hu,K⟩:=(St.start w).fxOld ha
 have HQu:=jpk (show ∀j,j<n→isQ (u j) (fvR a j) from fun j hj=>by
  exact ZQ107)
 clear ha hoa hu
 obtain ⟨x,hx⟩:∃x,x=fvR a:=⟨_,rfl⟩
 rw [←hx] at HQu hfit
 rw [←hx]
 clear hx
 have HFit:=jpk hfit
 clear hfit
 have hg32:g<32:=Nat.lt_of_lt_of_le hg (Nat.pow_le_pow_right Zb4 hn)
 have hg0:¬(g:Int)<0:=by omega
 have hgd:decide ((g:Int)<0)=false:=decide_eq_false hg0
 have hg5:(g:Int)<wrap64 (2 ^ n):=by rw [jhj n ZO];exact Int.ofNat_lt.2 hg
 have hn5:(n:Int)≤5:=by omega
 have r:=K.raw
 go_enter Tryz.func12,Tryz.ntmps12
 go_wp2_with (first|(first|(refine ZAL ?_;clear K r;(first|((fail_if_success revert b0);intro W b0 K r)|((fail_if_success revert b1);intro W b1 K r)|intro W b K r))|(refine ZST ?_;clear K r;intro W K r))|(go_at_call 36;refine (HC.out _ K.1).mono ?_;rintro e W' ⟨rfl,hb⟩;replace K:=K.keep hb;clear hb r;have r:=K.rawS))
 refine (jdn 0 Zb4 Zb21 K).mono ?_
 rintro e V1 ⟨z,rfl,gz,k1⟩
 replace K:=k1
 clear k1 r
 have r:=K.rawS
 go_wp2_with (first|(refine ZAL ?_;clear K r;(first|((fail_if_success revert b0);intro W b0 K r)|((fail_if_success revert b1);intro W b1 K r)|intro W b K r))|(refine ZST ?_;clear K r;intro W K r))
 go_loopg [32] n (fun gk s32 wr=>∃(k:Nat) (z:Rw),k≤n∧gk=n-k∧s32=.int .i64 k∧Hid (isQ z (gsum g x k)∧FrA w.heap.size z.A∧FrA w.heap.size z.B)∧St w [((b1,#[.int .i64 z.s,.slice z.A z.n z.c,.int .i64 z.t,.slice z.B z.m z.d],29):Blk),(b0,#[.int .i64 0,.slice none 0 0,.int .i64 0,.slice none 0 0],29)] (⟨rdP z.B z.m z.d z.k,rdS z.B z.m⟩::⟨rdP z.A z.n z.c z.l,rdS z.A z.n⟩::[(⟨fxP A n cap u,fxS A n u⟩:Hl)]) wr)
 case atStart=>exact ⟨0,z,Nat.zero_le _,rfl,rfl,jpk (by unfold gsum;rw [smQ];exact gz.out),K⟩
 case round =>
  clear K r gz HC
  obtain ⟨k,z,hk,rfl,rfl,HZ,K⟩:=hrel
  have r:=K.rawS
  by_cases hlt:k<n
  ·have hki:(k:Int)<(n:Int):=by omega
   have hk0:(0:Int)≤(k:Int):=by omega
   have hltd:decide (k<n)=true:=decide_eq_true hlt
   obtain ⟨ab,ao,hA⟩:=K.fxAt (A:=A) (n:=n) (cap:=cap) (v:=u) ZMB ZO
   subst hA
   have K:=K.fxRd (n:=n) (v:=u) (i:=k) ZMB hlt
   have q:=K.fxCell (b:=ab) (off:=ao) (n:=n) (cap:=cap) (v:=u) ZMB (i:=k) hlt
   have HIn:=jpk (fun W=>jnP g k W hg32 ZO)
   by_cases hbit:bitI g k=1
   ·rw [decide_eq_true hbit] at HIn
    go_wp2_with (first|(first|(refine ZAL ?_;clear K r;(first|((fail_if_success revert b0);intro W b0 K r)|((fail_if_success revert b1);intro W b1 K r)|intro W b K r))|(refine ZST ?_;clear K r;intro W K r))|(go_at_call 38;refine (HIn.out _).mono ?_;rintro e W' ⟨rfl,hb⟩;replace K:=K.keep hb;clear hb r;have r:=K.rawS))
    refine (jgA K HZ.out.1 (HQu.out k hlt) ZMB ZMB ZMB ZMB).mono ?_
    rintro e V8 ⟨y2,er2,rfl,gy2,k8⟩
    have h0:er2=0:=by
     have h1:=gy2.out.1.2
     rw [HFit.out k hlt] at h1
     simpa using h1
    subst h0
    have HZ2:=jpk (show isQ y2 (gsum g x (k+1))∧FrA w.heap.size y2.A∧FrA w.heap.size y2.B from ⟨by rw [jgg hbit];exact gy2.out.1.1 rfl,gy2.out.2⟩)
    replace K:=k8
    clear k8 r gy2 HZ
    exact ZQ31
   ·rw [decide_eq_false hbit] at HIn
    go_wp2_with (first|(first|(refine ZAL ?_;clear K r;(first|((fail_if_success revert b0);intro W b0 K r)|((fail_if_success revert b1);intro W b1 K r)|intro W b K r))|(refine ZST ?_;clear K r;intro W K r))|(go_at_call 38;refine (HIn.out _).mono ?_;rintro e W' ⟨rfl,hb⟩;replace K:=K.keep hb;clear hb r;have r:=K.rawS))
    exact ZQ33
  ·have e:n=k:=by omega
   subst e
   have hltd:decide (n<n)=false:=decide_eq_false hlt
   clear hlt
   go_wp2_with (first|(refine ZAL ?_;clear K r;(first|((fail_if_success revert b0);intro W b0 K r)|((fail_if_success revert b1);intro W b1 K r)|intro W b K r))|(refine ZST ?_;clear K r;intro W K r))
   have HX:=jpk (show jkB w n g x (.returned (.tuple #[.agg #[.int .i64 z.s,.slice z.A z.n z.c,.int .i64 z.t,.slice z.B z.m z.d],.int .i64 0])) _ from ⟨z,rfl,HZ.out.1,⟨K.rd ZMB,K.rd ZMB⟩,HZ.out.2,K.1⟩)
   have r:=K.rawS
   exact bodyPost_ret (v:=.tuple #[.agg #[.int .i64 z.s,.slice z.A z.n z.c,.int .i64 z.t,.slice z.B z.m z.d],.int .i64 0]) (by simp [results,Tryz.results12,go_sem,r]) rfl HX.out
theorem St.own {w W:World} {X L:List Blk} {D:List Hl} {n:Nat} {v:Nat→Rw} {e:TypeId} {val:Value} (h:OwL 4 Rw.cs e val (ofF n v) X) (K:St w (X++L) D W) (hm:(⟨rwP n v,rwS n v⟩:Hl)∈D) (hn:n≤1000000):∃A cap S,val=.slice A n cap∧St w L (⟨rfQ A n cap (ofF n fun i=>(v i).fv),S⟩::D) W:=by
 have K2:St w L D W:=K.part (List.sublist_append_right _ _)
 rcases h with ⟨rfl,h0,rfl⟩|⟨g,cap,J,rfl,rfl,h1,h2,h3⟩
 ·have:n=0:=by rw [←jag (n:=n) (f:=v),h0];rfl
  subst this
  exact ⟨none,0,fun _=>False,rfl,K2.add ⟨Rd.nil,fun b h=>h.elim,fun _ _ _=>Rd.nil⟩⟩
 ·rw [jag] at h1 ⊢
  have hB:=K.2.1 _ (List.mem_append_left _ (List.mem_singleton.2 rfl))
  have hD:=K.2.2.2 _ hm
  have rd:∀W':World,W.heap.size≤W'.heap.size→(∀b,(b=g∨rwS n v b)→W'.heap[b]?=W.heap[b]?)→RdF W' W'.heap.size (some ⟨g,0,none⟩) n cap (ofF n fun i=>(v i).fv):=fun W' g1 g2=>by
   have hv:rwP n v W':=hD.2.2 W' g1 (fun b hS=>g2 b (Or.inr hS))
   have hB':Hb W' g (rwA n v J) e:=hB.2.of (g2 g (Or.inl rfl))
   exact ZQ39
  refine ⟨_,cap,fun b=>b=g∨rwS n v b,rfl,K2.add ⟨rd W (Nat.le_refl _) (fun _ _=>rfl),fun b hS=>?_,rd⟩⟩
  rcases hS with rfl|hS
  ·exact ⟨hB.2.lt,fun p hp e2=>(List.pairwise_cons.1 (show ((b,_,e)::L).Pairwise _ from K.2.2.1)).1 p hp e2.symm⟩
  ·exact ⟨(hD.2.1 b hS).1,fun p hp=>(hD.2.1 b hS).2 p (List.mem_append_right _ hp)⟩
theorem St.setB0 {w W:World} {L L':List Blk} {D:List Hl} {b:Nat} {t:TypeId} (h:St w L D W) {x0 x1 u0:Value} (hU:Upd b #[x0,x1] t #[u0,x1] L L'):St w L' D (W.setCell ⟨b,0,none⟩ u0) :=
 h.upd hU (jbv.set W b 0 u0) ((h.blk hU.mem).set (j:=0) u0)
theorem St.setR0 {w W:World} {L L':List Blk} {D:List Hl} {b:Nat} {t:TypeId} (h:St w L D W) {x0 x1 x2 x3 x4 u0:Value} (hU:Upd b #[x0,x1,x2,x3,x4] t #[u0,x1,x2,x3,x4] L L'):St w L' D (W.setCell ⟨b,0,none⟩ u0) :=
 h.upd hU (jbv.set W b 0 u0) ((h.blk hU.mem).set (j:=0) u0)
theorem jmS:(Tryz.prog.info? 55).map (·.size)=some 1:=by kernel_rfl
theorem Pt.fitF {q:Rat} {k:Nat} (h:Pt k q) (hk:k≤60):jaF q=true:=by
 unfold jaF
 rw [jcn h.1 hk,jcn (z:=(q.den:Int)) (by have:=h.2;omega) hk]
 rfl
theorem IsI.fit {p:Int} (h:0≤p∧p≤1000000000000000):jaF ((p:Int):Rat)=true:=by
 have h1:IsI ((p:Int):Rat) 1000000000000000:=⟨p,rfl,by omega⟩
 exact Pt.fitF (h1.pt1 (l:=3) Zb4 Zb4) Zb4
theorem jd1 (n nc cc:Nat) (C:Option Addr) (cs:List Int) (w:World) (hc:RdI w w.heap.size C nc cc cs) (hn:n≤5) (hnc:nc≤32) (hb:∀i,0≤gi cs i∧gi cs i≤1000000000000000) :
 Calls Tryz.prog 30 #[.agg #[.int .i64 (n:Int),.slice C nc cc]] w fun e w'=>∃A1 c1 A2 c2,e=.returned (.agg #[.slice A1 n c1,.slice A2 (nc-1:Nat) c2])∧RdF w' w'.heap.size A1 n c1 (gmL n)∧RdR w' w'.heap.size A2 (nc-1) c2 (gmR n (nc-1) cs)∧Below w.heap.size w w':=by
 have hcap:=hc.caps
 have HL:=jpk hc
 have HBd:=jpk hb
 have K:=St.start w
 have r:=K.raw
 clear hc hb
 go_enter Tryz.func30,Tryz.ntmps30
 go_wp2_with (first
  | (apply K.box;rfl;rfl;rfl;clear K r;intro W b0 K;have r:=K.rawS)
  | (apply K.alloc;rfl;rfl;exact jj4;clear K r;(first | ((fail_if_success revert b1);intro W b1 K) | intro W b2 K);have r:=K.rawS))
 have K2:St w ([]++[((b2,#[(.slice none 0 0),(.slice none 0 0)],57):Blk),((b1,#[.slice none 0 0,.slice none 0 0],57):Blk),((b0,#[.int .i64 (n:Int),.slice C nc cc],24):Blk)]) [⟨rwP 0 (fun _=>Rw.zero),rwS 0 (fun _=>Rw.zero)⟩] _:=K.rwNew 0
 replace K:=K2
 clear K2 r
 go_loopg [9] n (fun gk s9 wr=>∃(k:Nat) (v:Nat→Rw) (hG:Hd) (X:List Blk),k≤n∧gk=n-k∧s9=.int .i64 k∧Hid (∀j,j<k→(v j).fv=fvQ ((1:Int):Rat))∧Hid (OwL 4 Rw.cs 29 (Value.slice hG.A hG.n hG.c) (ofF k v) X)∧St w (X++[((b2,#[(Value.slice hG.A hG.n hG.c),(.slice none 0 0)],57):Blk),((b1,#[.slice none 0 0,.slice none 0 0],57):Blk),((b0,#[.int .i64 (n:Int),.slice C nc cc],24):Blk)]) [⟨rwP k v,rwS k v⟩] wr)
 case atStart=>exact ⟨0,fun _=>Rw.zero,(⟨none,0,0⟩:Hd),[],Nat.zero_le _,rfl,rfl,jpk (fun j h=>absurd h ZO),jpk OwL.nil,K⟩
 case round =>
  clear K
  obtain ⟨k,v,hG,X,hk,rfl,rfl,HV,Ho,K⟩:=hrel
  by_cases hlt:k<n
  ·have hki:(k:Int)<(n:Int):=by omega
   have hk0:(0:Int)≤(k:Int):=by omega
   have hltd:decide (k<n)=true:=decide_eq_true hlt
   go_upto_region 4 with fail
   have HS:=jpk (fun V L5 D5 (h:St w L5 D5 V) (m5:((b2,#[(Value.slice hG.A hG.n hG.c),(.slice none 0 0)],57):Blk)∈L5)=>(show V.cell? ⟨b2,0,none⟩=some (Value.slice hG.A hG.n hG.c) from (h.blk m5).cell (j:=0) rfl))
   have K0:=K.drew
   have s0:=HS.out _ _ _ K0 Zb22
   clear K
   refine jbp 6 (fun V=>V.cell? ⟨b2,0,none⟩=some (Value.slice hG.A hG.n hG.c)) Zb9 s0 (fun hSh=>?_)
   clear s0
   generalize World.drew _=V0 at K0 hSh ⊢
   refine jac.tkU 0 rfl ?_
   refine jac.tk 1 rfl ?_
   refine jac.on 2 rfl fun KK hKK=>?_
   go_simp
   go_at_call 32
   refine (jdn 1 Zb4 Zb21 K0).mono ?_
   rintro e V1 ⟨z,rfl,gz,k1⟩
   clear K0
   go_wp2_with fail
   refine hKK.out _ _ (fun _=>HS.out _ _ _ k1 Zb22) (fun hSq=>?_)
   have hSh:=HS.out _ _ _ k1 Zb22
   clear hKK KK hSq
   refine ZPT ?_
   refine jac.on 3 rfl fun KK hKK=>?_
   refine k1.litOp _ _ rfl _ rfl _ _ (jha _ _ _ _ _ _ _ _ _) ?_
   intro g1 V2 k2
   refine hKK.out _ _ (fun _=>HS.out _ _ _ k2 Zb22) (fun hSq=>?_)
   have hSh:=HS.out _ _ _ k2 Zb22
   clear hKK KK hSq
   refine ZPT ?_
   replace k2:=k2.mid
   refine jac.on 4 rfl fun KK hKK=>?_
   refine k2.appOp Ho.out ja4 _ _ 25 rfl _ 64 Tryz.underlying25 jbF rfl rfl (z:Rw) g1 _ (by exact List.mem_cons_self) rfl Zb3 ZO ?_
   intro v8 X8 W8 ho8 k8
   replace k8:=k8.cutm
   clear k1 k2
   rw [jbz] at ho8
   obtain ⟨A8,c8,hv8⟩:=ho8.shapeL
   rw [jag] at hv8
   subst hv8
   have Ho8:=jpk ho8
   clear ho8
   refine hKK.out _ _ (fun _=>HS.out _ _ _ k8 Zb22) (fun hSq=>?_)
   have hSh:=HS.out _ _ _ k8 Zb22
   clear hKK KK hSq
   refine ZPT ?_
   refine jac.tkU 5 rfl ?_
   refine jac.onF 6 rfl fun KK hKK=>?_
   have zz:=k8.thaw (g:=b2) (cs:=#[Value.slice hG.A hG.n hG.c,.slice none 0 0]) (t:=57) Zb22
   go_simp
   have K9:=((k8.perm (L':=((b2,#[(Value.slice hG.A hG.n hG.c),(.slice none 0 0)],57):Blk)::(X8++[((b1,#[.slice none 0 0,.slice none 0 0],57):Blk),((b0,#[.int .i64 (n:Int),.slice C nc cc],24):Blk)])) List.perm_middle.symm).setB0 (u0:=.slice A8 (k+1) c8) (Upd.head _)).mid
   refine hKK.out _ _ ?_
   clear hKK KK zz hSh HS
   refine ZPT ?_
   refine ⟨by kernel_rfl,?_⟩
   generalize W8.setCell ⟨b2,0,none⟩ (.slice A8 (k+1) c8)=V9 at K9 ⊢
   have HK:=jpk ((K9.rwAdd (v:=v) (n:=k) z ZMB ZMB ZMB).lessS (D':=[⟨rwP (k+1) (putF v k z),rwS (k+1) (putF v k z)⟩]) Zb10)
   have HV2:=jpk (show ∀j,j<k+1→(putF v k z j).fv=fvQ ((1:Int):Rat) from fun j hj=>by
    by_cases e:j=k
    ·rw [e,jaf]
     exact gz.out.1.1.fv
    ·rw [jad e]
     exact HV.out j ZO)
   clear K9 k8 HV Ho gz
   go_wp2_with fail
   go_roundg (n-(k+1))
   case rel=>exact ⟨k+1,_,⟨A8,k+1,c8⟩,X8,hlt,rfl,by go_num,HV2,Ho8,HK.out⟩
   case measure=>omega
  ·have e:n=k:=by omega
   subst e
   have hltd:decide (n<n)=false:=decide_eq_false hlt
   have hlt2:¬(n:Int)<(n:Int):=by omega
   obtain ⟨A1,c1,S1,hv1,K2⟩:=St.own Ho.out K ZMB ZO
   injection hv1 with e1 e2 e3
   rw [e1,e2,e3] at K2
   rw [jaD (g:=fun _=>fvQ ((1:Int):Rat)) (fun i hi=>HV.out i hi)] at K2
   change St w _ (⟨rfQ A1 n c1 (gmL n),S1⟩::_) _ at K2
   clear K Ho HV hlt
   replace K:=K2
   clear K2
   go_wp2_with fail
   have K3:St w ([]++[((b2,#[(.slice A1 n c1),(.slice none 0 0)],57):Blk),((b1,#[.slice none 0 0,.slice none 0 0],57):Blk),((b0,#[.int .i64 (n:Int),.slice C nc cc],24):Blk)]) [rrF 0 (fun _=>Rr.zero) (fun _ _=>False),⟨rfQ A1 n c1 (gmL n),S1⟩] _:=(K.lessS (D':=[⟨rfQ A1 n c1 (gmL n),S1⟩]) Zb10).rrNew
   clear K
   go_loopg [4] (nc-1) (fun gk s4 wr=>∃(k G:Nat) (u:Nat→Rr) (S:Nat→Nat→Prop) (hR:Hd) (X:List Blk),k≤nc-1∧gk=nc-1-k∧s4=.int .i64 G∧Hid (G=k+1)∧Hid (∀j,j<k→(u j).rv=jfK n cs j)∧Hid (OwL 5 Rr.cs 97 (Value.slice hR.A hR.n hR.c) (ofF k u) X)∧St w (X++[((b2,#[(.slice A1 n c1),(Value.slice hR.A hR.n hR.c)],57):Blk),((b1,#[.slice none 0 0,.slice none 0 0],57):Blk),((b0,#[.int .i64 (n:Int),.slice C nc cc],24):Blk)]) [rrF k u S,⟨rfQ A1 n c1 (gmL n),S1⟩] wr)
   case atStart=>exact ⟨0,1,fun _=>Rr.zero,fun _ _=>False,(⟨none,0,0⟩:Hd),[],Nat.zero_le _,rfl,rfl,jpk rfl,jpk (fun j h=>absurd h ZO),jpk OwL.nil,K3⟩
   case round =>
    clear K3
    obtain ⟨k,G,u,S,hR,X,hk,rfl,rfl,HG,HV,Ho,K⟩:=hrel
    have c0:=(K.blk (b:=b0) (cs:=#[.int .i64 (n:Int),.slice C nc cc]) (t:=24) Zb22).cell (j:=0) rfl
    have c1':=(K.blk (b:=b0) (cs:=#[.int .i64 (n:Int),.slice C nc cc]) (t:=24) Zb22).cell (j:=1) rfl
    by_cases hlt:G<nc
    ·have hki:(G:Int)<(nc:Int):=by omega
     have hG32:G<32:=by omega
     have hG1:1≤G:=by have:=HG.out;omega
     have hk0:(0:Int)≤(G:Int):=by omega
     have hltd:decide (G<nc)=true:=decide_eq_true hlt
     obtain ⟨vb,vo,hA,hvb,hcc⟩:=RdI.cellAt HL.out hlt
     subst hA
     have q:=(K.1.cell (p:=⟨vb,vo+G,none⟩) hvb).trans hcc
     have HNu:=jpk (fun (V:World) L5 D5 (h:St w L5 D5 V)=>jdn (gi cs G) (by have:=HBd.out G;omega) (IsI.fit (HBd.out G)) h)
     go_wp2_with (first
      | (go_at_call 32;refine (HNu.out _ _ _ K).mono ?_;rintro e W' ⟨z,rfl,gz,k1⟩;replace K:=k1;clear k1 c0 c1' q)
      | (apply K.alloc;rfl;rfl;exact ja3;clear K;intro W b3 K)
      | (apply K.storeA;rfl;rfl;rfl;rfl;rfl;(exact ZUP);exact ja2;rfl;rfl;rfl;clear K;intro W K;have c0:=(K.blk (b:=b0) (cs:=#[.int .i64 (n:Int),.slice (some ⟨vb,vo,none⟩) nc cc]) (t:=24) Zb22).cell (j:=0) rfl))
     have K4:St w ([]++((b3,#[(.slice none 0 0),.int .i64 z.s,.slice z.A z.n z.c,.int .i64 z.t,.slice z.B z.m z.d],97):Blk)::(X++[((b2,#[(.slice A1 n c1),(Value.slice hR.A hR.n hR.c)],57):Blk),((b1,#[.slice none 0 0,.slice none 0 0],57):Blk),((b0,#[.int .i64 (n:Int),.slice (some ⟨vb,vo,none⟩) nc cc],24):Blk)])) (⟨rwP 0 (fun _=>Rw.zero),rwS 0 (fun _=>Rw.zero)⟩::⟨rdP z.B z.m z.d z.k,rdS z.B z.m⟩::⟨rdP z.A z.n z.c z.l,rdS z.A z.n⟩::[rrF k u S,(⟨rfQ A1 n c1 (gmL n),S1⟩:Hl)]) _:=K.rwNew 0
     clear K
     have HSh:=jpk (fun V L5 D5 (h:St w L5 D5 V) (m6:(((b0,#[.int .i64 (n:Int),.slice (some ⟨vb,vo,none⟩) nc cc],24):Blk)∈L5))=>(show V.cell? ⟨b0,0,none⟩=some (.int .i64 (n:Int)) from (h.blk m6).cell (j:=0) rfl))
     clear c0
     go_loopg [34] n (fun gk s34 wx=>∃(j:Nat) (v:Nat→Rw) (hI:Hd) (Xi:List Blk),j≤n∧gk=n-j∧s34=.int .i64 j∧Hid (∀i,i<j→(v i).fv=fvQ (bitQ G i))∧Hid (OwL 4 Rw.cs 29 (Value.slice hI.A hI.n hI.c) (ofF j v) Xi)∧St w (Xi++((b3,#[(Value.slice hI.A hI.n hI.c),.int .i64 z.s,.slice z.A z.n z.c,.int .i64 z.t,.slice z.B z.m z.d],97):Blk)::(X++[((b2,#[(.slice A1 n c1),(Value.slice hR.A hR.n hR.c)],57):Blk),((b1,#[.slice none 0 0,.slice none 0 0],57):Blk),((b0,#[.int .i64 (n:Int),.slice (some ⟨vb,vo,none⟩) nc cc],24):Blk)])) (⟨rwP j v,rwS j v⟩::⟨rdP z.B z.m z.d z.k,rdS z.B z.m⟩::⟨rdP z.A z.n z.c z.l,rdS z.A z.n⟩::[rrF k u S,(⟨rfQ A1 n c1 (gmL n),S1⟩:Hl)]) wx)
     case atStart=>exact ⟨0,fun _=>Rw.zero,(⟨none,0,0⟩:Hd),[],Nat.zero_le _,rfl,rfl,jpk (fun j h=>absurd h ZO),jpk OwL.nil,K4⟩
     case round =>
      clear K4
      obtain ⟨j,v,hI,Xi,hj,rfl,rfl,HVi,Hi,K⟩:=hrel
      by_cases hjn:j<n
      ·have hji:(j:Int)<(n:Int):=by omega
       have hj0:(0:Int)≤(j:Int):=by omega
       have hj5:(j:Int)≤5:=by omega
       have hjd:decide (j<n)=true:=decide_eq_true hjn
       have hbk:=jf2 G hG32 j ZO
       have HNb:=jpk (fun (V:World) L5 D5 (h:St w L5 D5 V)=>jdn (bitI G j) (by have:=jb8 G j;omega) (IsI.fit (by have:=jb8 G j;omega)) h)
       go_upto_region 13 with fail
       have HS:=jpk (fun V L5 D5 (h:St w L5 D5 V) (m5:((b3,#[(Value.slice hI.A hI.n hI.c),.int .i64 z.s,.slice z.A z.n z.c,.int .i64 z.t,.slice z.B z.m z.d],97):Blk)∈L5)=>(show V.cell? ⟨b3,0,none⟩=some (Value.slice hI.A hI.n hI.c) from (h.blk m5).cell (j:=0) rfl))
       have K0:=K.drew
       have s0:=HS.out _ _ _ K0 Zb22
       clear K
       refine jbp 10 (fun V=>V.cell? ⟨b3,0,none⟩=some (Value.slice hI.A hI.n hI.c)) Zb9 s0 (fun hSh=>?_)
       clear s0
       generalize World.drew _=V0 at K0 hSh ⊢
       refine jac.tkU 0 rfl ?_
       refine jac.tk 1 rfl ?_
       refine jac.tkU 2 rfl ?_
       refine jac.tkU 3 rfl ?_
       refine jac.tkU 4 rfl ?_
       refine jac.tkU 5 rfl ?_
       refine jac.on 6 rfl fun KK hKK=>?_
       go_simp
       go_at_call 32
       refine (HNb.out _ _ _ K0).mono ?_
       rintro e V1 ⟨t,rfl,gt,k1⟩
       clear K0
       go_wp2_with fail
       refine hKK.out _ _ (fun _=>HS.out _ _ _ k1 Zb22) (fun hSq=>?_)
       have hSh:=HS.out _ _ _ k1 Zb22
       clear hKK KK hSq
       refine ZPT ?_
       refine jac.on 7 rfl fun KK hKK=>?_
       refine k1.litOp _ _ rfl _ rfl _ _ (jha _ _ _ _ _ _ _ _ _) ?_
       intro g1 V2 k2
       refine hKK.out _ _ (fun _=>HS.out _ _ _ k2 Zb22) (fun hSq=>?_)
       have hSh:=HS.out _ _ _ k2 Zb22
       clear hKK KK hSq
       refine ZPT ?_
       replace k2:=k2.mid
       refine jac.on 8 rfl fun KK hKK=>?_
       refine k2.appOp Hi.out ja4 _ _ 25 rfl _ 64 Tryz.underlying25 jbF rfl rfl (t:Rw) g1 _ (by exact List.mem_cons_self) rfl Zb3 ZO ?_
       intro v8 X8 W8 ho8 k8
       replace k8:=k8.cutm
       clear k1 k2
       rw [jbz] at ho8
       obtain ⟨A8,c8,hv8⟩:=ho8.shapeL
       rw [jag] at hv8
       subst hv8
       have Ho8:=jpk ho8
       clear ho8
       refine hKK.out _ _ (fun _=>HS.out _ _ _ k8 Zb22) (fun hSq=>?_)
       have hSh:=HS.out _ _ _ k8 Zb22
       clear hKK KK hSq
       refine ZPT ?_
       refine jac.tkU 9 rfl ?_
       refine jac.onF 10 rfl fun KK hKK=>?_
       have zz:=k8.thaw (g:=b3) (cs:=#[(Value.slice hI.A hI.n hI.c),.int .i64 z.s,.slice z.A z.n z.c,.int .i64 z.t,.slice z.B z.m z.d]) (t:=97) Zb22
       go_simp
       have K9:=((k8.perm (L':=((b3,#[(Value.slice hI.A hI.n hI.c),.int .i64 z.s,.slice z.A z.n z.c,.int .i64 z.t,.slice z.B z.m z.d],97):Blk)::(X8++(X++[((b2,#[(.slice A1 n c1),(Value.slice hR.A hR.n hR.c)],57):Blk),((b1,#[.slice none 0 0,.slice none 0 0],57):Blk),((b0,#[.int .i64 (n:Int),.slice (some ⟨vb,vo,none⟩) nc cc],24):Blk)]))) List.perm_middle.symm).setR0 (u0:=.slice A8 (j+1) c8) (Upd.head _)).mid
       refine hKK.out _ _ ?_
       clear hKK KK zz hSh HS
       refine ZPT ?_
       refine ⟨by kernel_rfl,?_⟩
       generalize W8.setCell ⟨b3,0,none⟩ (.slice A8 (j+1) c8)=V9 at K9 ⊢
       have HK:=jpk ((K9.rwAdd (v:=v) (n:=j) t ZMB ZMB ZMB).lessS (D':=⟨rwP (j+1) (putF v j t),rwS (j+1) (putF v j t)⟩::⟨rdP z.B z.m z.d z.k,rdS z.B z.m⟩::⟨rdP z.A z.n z.c z.l,rdS z.A z.n⟩::[rrF k u S,(⟨rfQ A1 n c1 (gmL n),S1⟩:Hl)]) Zb10)
       have HV2:=jpk (show ∀i,i<j+1→(putF v j t i).fv=fvQ (bitQ G i) from fun i hi=>by
        by_cases e:i=j
        ·rw [e,jaf]
         exact gt.out.1.1.fv
        ·rw [jad e]
         exact HVi.out i ZO)
       clear K9 k8 HVi Hi gt hbk
       go_wp2_with fail
       go_roundg (n-(j+1))
       case rel=>exact ⟨j+1,_,⟨A8,j+1,c8⟩,X8,hjn,rfl,by go_num,HV2,Ho8,HK.out⟩
       case measure=>omega
      ·have e:n=j:=by omega
       subst e
       have hjd:decide (n<n)=false:=decide_eq_false hjn
       have hjn2:¬(n:Int)<(n:Int):=by omega
       obtain ⟨A9,c9,S9,hv9,K2⟩:=St.own Hi.out K ZMB ZO
       rw [hv9] at K2
       rw [jaD (g:=fun i=>fvQ (bitQ G i)) (fun i hi=>HVi.out i hi)] at K2
       clear K Hi HVi hjn hv9
       replace K:=K2.mid
       clear K2
       have c3:=(K.blk (b:=b3) (cs:=#[(.slice A9 n c9),.int .i64 z.s,.slice z.A z.n z.c,.int .i64 z.t,.slice z.B z.m z.d]) (t:=97) Zb22)
       have c30:=c3.cell (j:=0) rfl
       have c31:=c3.cell (j:=1) rfl
       have c32:=c3.cell (j:=2) rfl
       have c33:=c3.cell (j:=3) rfl
       have c34:=c3.cell (j:=4) rfl
       have c2:=(K.blk (b:=b2) (cs:=#[.slice A1 n c1,Value.slice hR.A hR.n hR.c]) (t:=57) Zb22).cell (j:=1) rfl
       clear c3
       go_wp2_with (first
        | (at_builtin;refine K.app1 Ho.out jg9 rfl _ _ 55 rfl _ 88 Tryz.underlying55 jmQ rfl rfl (⟨A9,n,c9,ofF n (fun i=>fvQ (bitQ G i)),z⟩:Rr) _ rfl _ rfl (by exact rfl) Zb3 ZO ?_;clear c30 c31 c32 c33 c34 c2;intro v4 X4 W4 ho4 K4;rw [jbz] at ho4;obtain ⟨A5,c5,hv4⟩:=ho4.shapeL;rw [jag] at hv4;subst hv4)
        | (refine K4.storeS (b:=b2) (off:=1) (cs:=#[.slice A1 n c1,Value.slice hR.A hR.n hR.c]) (cs':=#[.slice A1 n c1,.slice A5 (k+1) c5]) (t:=57) rfl rfl _ _ _ rfl A5 (k+1) c5 rfl rfl ZUA rfl jmS Zb0 ?_;intro W6 K6))
       have hy:(⟨(⟨A9,n,c9,ofF n (fun i=>fvQ (bitQ G i)),z⟩:Rr).on,_⟩:Hl).ok _ _:=(K6.okAt (x:=⟨rfQ A9 n c9 (ofF n fun i=>fvQ (bitQ G i)),S9⟩) ZMB).and (K6.okR (x:=z) ZMB ZMB)
       have K10:=K6.rrAdd (u:=u) (S:=S) ZMB _ _ hy
       have HK:=jpk ((K10.lessS (D':=[_,(⟨rfQ A1 n c1 (gmL n),S1⟩:Hl)]) Zb10).cutm)
       have Ho4:=jpk ho4
       have HV2:=jpk (show ∀j,j<k+1→(putF u k (⟨A9,n,c9,ofF n (fun i=>fvQ (bitQ G i)),z⟩:Rr) j).rv=jfK n cs j from fun j hj=>by
        by_cases e:j=k
        ·rw [e,jaf]
         show (⟨ofF n (fun i=>fvQ (bitQ G i)),z.fv⟩:Rv)=jfK n cs k
         unfold jfK
         rw [HG.out] at gz ⊢
         rw [show z.fv=_ from gz.out.1.1.fv]
        ·rw [jad e]
         exact HV.out j ZO)
       have HG2:=jpk (show G+1=k+1+1 from by have:=HG.out;omega)
       have hk2:k+1≤nc-1:=by have:=HG.out;omega
       have hm:nc-1-(k+1)<nc-1-k:=by omega
       clear K4 K6 K10 hy ho4 K HV Ho gz HG HNu HSh
       go_roundg (nc-1-(k+1))
       case rel=>exact ⟨k+1,G+1,_,_,⟨A5,k+1,c5⟩,X4,hk2,rfl,by go_num,HG2,HV2,Ho4,HK.out⟩
       case measure=>exact hm
    ·have hki:¬(G:Int)<(nc:Int):=by omega
     have e:k=nc-1:=by have:=HG.out;omega
     have hltd:decide (G<nc)=false:=decide_eq_false hlt
     subst e
     obtain ⟨A2,c2,hv2,hro⟩:=Ho.out.rdR K ZMB ZO
     rw [jaD (g:=jfK n cs) (fun i hi=>HV.out i hi)] at hro
     rw [hv2] at K
     have HRo:=jpk (Ho.out)
     replace K:St w (((b2,#[(.slice A1 n c1),(.slice A2 (nc-1) c2)],57):Blk)::((b1,#[.slice none 0 0,.slice none 0 0],57):Blk)::((b0,#[.int .i64 (n:Int),.slice C nc cc],24):Blk)::X) _ _:=K.perm (by exact List.perm_append_comm (l₁:=[_,_,_]) (l₂:=X))
     have o0:=(K.blk (b:=b2) (cs:=#[.slice A1 n c1,.slice A2 (nc-1) c2]) (t:=57) ZMB).cell (j:=0) rfl
     have o1:=(K.blk (b:=b2) (cs:=#[.slice A1 n c1,.slice A2 (nc-1) c2]) (t:=57) ZMB).cell (j:=1) rfl
     rw [hv2] at HRo
     have HV3:=jpk HV.out
     clear hro Ho HV HG hlt
     go_wp2_with (apply K.storeA;rfl;rfl;rfl;rfl;rfl;(repeat (first|with_reducible apply Upd.head|with_reducible apply Upd.tail));exact jj3;rfl;rfl;rfl;clear K o0 o1;intro W5 K)
     have hB:=K.blk (b:=b1) (cs:=#[.slice A1 n c1,.slice A2 (nc-1) c2]) (t:=57) ZMB
     have z0:=hB.cell (j:=0) rfl
     have z1:=hB.cell (j:=1) rfl
     have K2:St w (X++[((b2,#[.slice A1 n c1,.slice A2 (nc-1) c2],57):Blk),((b1,#[.slice A1 n c1,.slice A2 (nc-1) c2],57):Blk),((b0,#[.int .i64 (n:Int),.slice C nc cc],24):Blk)]) _ W5:=K.perm (by exact List.perm_append_comm (l₁:=X) (l₂:=[_,_,_]))
     obtain ⟨Ao',co',hv,hro⟩:=HRo.out.rdR K2 ZMB ZO
     injection hv with e1 e2 e3
     subst e1 e3
     rw [jaD (g:=jfK n cs) (fun i hi=>HV3.out i hi)] at hro
     have HE:=jpk (show ∃A1' c1' A2' c2',Ending.returned (.agg #[.slice A1 n c1,.slice A2 (nc-1:Nat) c2])=.returned (.agg #[.slice A1' n c1',.slice A2' (nc-1:Nat) c2'])∧RdF W5 W5.heap.size A1' n c1' (gmL n)∧RdR W5 W5.heap.size A2' (nc-1) c2' (gmR n (nc-1) cs)∧Below w.heap.size w W5 from ⟨_,_,_,_,rfl,K2.getQ ZMB,hro,K2.1⟩)
     clear HRo K K2 hro HV3 hB
     exact bodyPost_ret (v:=.agg #[.slice A1 n c1,.slice A2 (nc-1:Nat) c2]) (by simp [results,Tryz.results30,go_sem,z0,z1]) rfl HE.out
def ConQ (n:Nat) (cs:List Int) (s i:Nat):Prop:=bitI s i=0→0≤gi cs (s ||| 1 <<< i)-gi cs s∧∀k,k<n→bitI s k=1→gi cs (s ||| 1 <<< i)-gi cs s≤gi cs ((s ^^^ 1 <<< k) ||| 1 <<< i)-gi cs (s ^^^ 1 <<< k)
theorem or_key:∀s,s<8→∀i,i<3→bits .or .i64 ((s:Nat):Int) (wrap64 (2 ^ i))=((s ||| 1 <<< i:Nat):Int):=by decide +kernel
theorem jn6:∀s,s<8→∀i,i<3→bits .or .i64 ((s:Nat):Int) (IntKind.i64.wrap (2 ^ i))=((s ||| 1 <<< i:Nat):Int):=by decide +kernel
theorem jmF:∀s,s<8→∀i,i<3→bitI s i=1→bits .andNot .i64 ((s:Nat):Int) (IntKind.i64.wrap (2 ^ i))=((s ^^^ 1 <<< i:Nat):Int):=by decide +kernel
theorem or_lt:∀n,n<4→∀s,s<2 ^ n→∀i,i<n→s ||| 1 <<< i<2 ^ n∧s ^^^ 1 <<< i<2 ^ n:=by decide +kernel
theorem jf6 (n N cc:Nat) (C:Option Addr) (cs:List Int) (w:World) (hc:RdI w w.heap.size C N cc cs) (hN:N=2 ^ n) (hn:n≤3) (hb:∀i,0≤gi cs i∧gi cs i≤1000000000000000) (R:Bool) (hR:R=true↔jcW n cs) :
 Calls Tryz.prog 24 #[.agg #[.int .i64 (n:Int),.slice C N cc]] w fun e w'=>e=.returned (.bool R)∧Below w.heap.size w w':=by
 have hcap:=hc.caps
 have K:=St.start w
 have r:=K.raw
 have hN8:N≤8:=by rw [hN];exact Nat.pow_le_pow_right Zb4 hn
 have hN0:0<N:=by rw [hN];exact (jbA n ZO).2
 have HLt:=jpk (fun s (hs:s<N) i (hi:i<n)=>(by rw [hN] at hs ⊢;exact or_lt n ZO s hs i hi:s ||| 1 <<< i<N∧s ^^^ 1 <<< i<N))
 have HNo:=jpk (show ∀s i,s<N→i<n→¬ConQ n cs s i→R=false from fun s i hs hi h=>by
  cases R
  ·rfl
  ·exact absurd (hR.1 rfl s ZO i hi) h)
 have HYes:=jpk (show (∀s,s<N→∀i,i<n→ConQ n cs s i)→R=true from fun h=>hR.2 fun s hs i hi=>h s ZO i hi)
 have HBd:=jpk hb
 have HL:=jpk hc
 clear hR hN hb hc
 obtain ⟨vb,vo,hA,hvb,-⟩:=RdI.cellAt HL.out (k:=0) hN0
 subst hA
 have HCe:=jpk (fun V (h:Below w.heap.size w V) k (hk:k<N)=>(show V.cell? ⟨vb,vo+k,none⟩=some (.int .i64 (gi cs k)) from by
  obtain ⟨b',o',e,hb',hc'⟩:=RdI.cellAt HL.out hk
  cases e
  exact (h.cell (p:=⟨vb,vo+k,none⟩) hb').trans hc'))
 go_enter Tryz.func24,Tryz.ntmps24
 go_wp2_with (first|(apply K.box;rfl;rfl;rfl;clear K r;intro W b0 K;have r:=K.rawS)|(go_at_call 25;refine (HI.out _).mono ?_;rintro e W' ⟨rfl,hb⟩;replace K:=K.keep hb;clear hb r;have r:=K.rawS))
 clear r
 have K2:St w [(b0,#[.int .i64 (n:Int),.slice (some ⟨vb,vo,none⟩) N cc],24)] [] _:=K
 clear K
 go_loopg [3] N (fun gk s3 wr=>∃s:Nat,s≤N∧gk=N-s∧s3=.int .i64 s∧Hid (∀s',s'<s→∀i,i<n→ConQ n cs s' i)∧St w [(b0,#[.int .i64 (n:Int),.slice (some ⟨vb,vo,none⟩) N cc],24)] [] wr)
 case atStart=>exact ⟨0,Nat.zero_le _,rfl,rfl,jpk (fun j h=>absurd h ZO),K2⟩
 case round =>
  clear K2
  obtain ⟨s,hs,rfl,rfl,HA,K⟩:=hrel
  have r:=K.rawS
  by_cases hlt:s<N
  ·have hki:(s:Int)<(N:Int):=by omega
   have hk0:(0:Int)≤(s:Int):=by omega
   have hs8:s<8:=by omega
   have hltd:decide (s<N)=true:=decide_eq_true hlt
   obtain ⟨vs,hvs⟩:∃vs,vs=gi cs s:=⟨_,rfl⟩
   have hvs1:=(HBd.out s).1
   have hvs2:=(HBd.out s).2
   rw [←hvs] at hvs1 hvs2
   have Hvs:=jpk hvs
   have HCs:=jpk (fun V h=>by have:=HCe.out V h s hlt;rw [←hvs] at this;exact this:∀V,Below w.heap.size w V→V.cell? ⟨vb,vo+s,none⟩=some (.int .i64 vs))
   clear hvs
   go_wp2_with fail
   go_loopg [4] n (fun gk s4 wx=>∃i:Nat,i≤n∧gk=n-i∧s4=.int .i64 i∧Hid (∀i',i'<i→ConQ n cs s i')∧St w [(b0,#[.int .i64 (n:Int),.slice (some ⟨vb,vo,none⟩) N cc],24)] [] wx)
   case atStart=>exact ⟨0,Nat.zero_le _,rfl,rfl,jpk (fun j h=>absurd h ZO),K⟩
   case round =>
    clear K r
    obtain ⟨i,hi,rfl,rfl,HB,K⟩:=hrel
    have r:=K.rawS
    by_cases hit:i<n
    ·have hii:(i:Int)<(n:Int):=by omega
     have hi0:(0:Int)≤(i:Int):=by omega
     have hi3:i<3:=by omega
     have hi5:(i:Int)≤5:=by omega
     have hitd:decide (i<n)=true:=decide_eq_true hit
     have HI:=jpk (fun W=>jdK s i W ZO ZO)
     by_cases hbit:bitI s i=1
     ·rw [hbit] at HI
      have HB2:=jpk (show ∀i',i'<i+1→ConQ n cs s i' from fun i' h'=>by
       by_cases e:i'=i
       ·intro h0
        rw [e] at h0
        omega
       ·exact HB.out i' ZO)
      clear hbit HB
      go_wp2_with (first|(apply K.box;rfl;rfl;rfl;clear K r;intro W b0 K;have r:=K.rawS)|(go_at_call 25;refine (HI.out _).mono ?_;rintro e W' ⟨rfl,hb⟩;replace K:=K.keep hb;clear hb r;have r:=K.rawS))
      go_roundg (n-(i+1))
      case rel=>exact ⟨i+1,hit,rfl,by go_num,HB2,K⟩
      case measure=>omega
     ·have hb0:bitI s i=0:=by have:=jb8 s i;omega
      rw [hb0] at HI
      have Hb0:=jpk hb0
      obtain ⟨a,ha⟩:∃a:Nat,a=s ||| 1 <<< i:=⟨_,rfl⟩
      have haN:=(HLt.out s hlt i hit).1
      have hor:=or_key s hs8 i hi3
      rw [←ha] at haN hor
      have Ha:=jpk ha
      obtain ⟨va,hva⟩:∃va,va=gi cs a:=⟨_,rfl⟩
      have hva1:=(HBd.out a).1
      have hva2:=(HBd.out a).2
      rw [←hva] at hva1 hva2
      have HCa:=jpk (fun V h=>by have:=HCe.out V h a haN;rw [←hva] at this;exact this:∀V,Below w.heap.size w V→V.cell? ⟨vb,vo+a,none⟩=some (.int .i64 va))
      have Hva:=jpk hva
      have haI:(a:Int)<(N:Int):=by omega
      have ha0:(0:Int)≤(a:Int):=by omega
      clear hbit hb0 ha hva
      have q1:=HCs.out _ K.1
      have q2:=HCa.out _ K.1
      go_upto_region 8 with (go_at_call 25;refine (HI.out _).mono ?_;rintro e W' ⟨rfl,hb⟩;replace K:=K.keep hb;clear hb r q1 q2;have r:=K.rawS;have q1:=HCs.out _ K.1;have q2:=HCa.out _ K.1)
      go_region
      replace K:=K.drew
      clear r q1 q2
      have r:=K.rawS
      generalize World.drew _=W2 at K r ⊢
      by_cases hneg:va-vs<0
      ·have hnd:decide (va-vs<0)=true:=decide_eq_true hneg
       have HR:=jpk (HNo.out s i hlt hit fun h=>by
        have:=(h Hb0.out).1
        rw [←Ha.out,←Hva.out,←Hvs.out] at this
        omega)
       clear HNo HYes HA HB hor
       go_wp2_with fail
       exact ZQ79
      have hnd:decide (va-vs<0)=false:=decide_eq_false hneg
      clear hor
      go_wp2_with fail
      clear r
      go_loopg [6] n (fun gk s6 wy=>∃k:Nat,k≤n∧gk=n-k∧s6=.int .i64 k∧Hid (∀k',k'<k→bitI s k'=1→gi cs (s ||| 1 <<< i)-gi cs s≤gi cs ((s ^^^ 1 <<< k') ||| 1 <<< i)-gi cs (s ^^^ 1 <<< k'))∧St w [(b0,#[.int .i64 (n:Int),.slice (some ⟨vb,vo,none⟩) N cc],24)] [] wy)
      case atStart=>exact ⟨0,Nat.zero_le _,rfl,rfl,jpk (fun j h=>absurd h ZO),K⟩
      case round =>
       clear K
       obtain ⟨k,hk,rfl,rfl,HK,K⟩:=hrel
       have r:=K.rawS
       by_cases hkt:k<n
       ·have hkn:(k:Int)<(n:Int):=by omega
        have hkz:(0:Int)≤(k:Int):=by omega
        have hk3:k<3:=by omega
        have hk5:(k:Int)≤5:=by omega
        have hktd:decide (k<n)=true:=decide_eq_true hkt
        have HIk:=jpk (fun W=>jdK s k W ZO ZO)
        by_cases hbk:bitI s k=1
        ·have hno:=jmF s hs8 k hk3 hbk
         have Hbk:=jpk hbk
         rw [hbk] at HIk
         obtain ⟨b,hb⟩:∃b:Nat,b=s ^^^ 1 <<< k:=⟨_,rfl⟩
         have hbN:=(HLt.out s hlt k hkt).2
         rw [←hb] at hno hbN
         have Hb:=jpk hb
         obtain ⟨c,hc⟩:∃c:Nat,c=b ||| 1 <<< i:=⟨_,rfl⟩
         have hcN:=(HLt.out b hbN i hit).1
         have hor:=jn6 b ZO i hi3
         rw [←hc] at hcN hor
         have Hc:=jpk hc
         obtain ⟨vc,hvc⟩:∃vc,vc=gi cs c:=⟨_,rfl⟩
         obtain ⟨ve,hve⟩:∃ve,ve=gi cs b:=⟨_,rfl⟩
         have hvc1:=(HBd.out c).1
         have hvc2:=(HBd.out c).2
         have hve1:=(HBd.out b).1
         have hve2:=(HBd.out b).2
         rw [←hvc] at hvc1 hvc2
         rw [←hve] at hve1 hve2
         have HSP:=jpk (fun V (h:St w [(b0,#[.int .i64 (n:Int),.slice (some ⟨vb,vo,none⟩) N cc],24)] [] V)=>(show V.cell? ⟨b0,1,none⟩=some (.slice (some ⟨vb,vo,none⟩) N cc)∧V.cell? ⟨vb,vo+c,none⟩=some (.int .i64 vc)∧V.cell? ⟨vb,vo+b,none⟩=some (.int .i64 ve) from ⟨(h.blk (b:=b0) (cs:=#[.int .i64 (n:Int),.slice (some ⟨vb,vo,none⟩) N cc]) (t:=24) ZMB).cell (j:=1) rfl,by have:=HCe.out V h.1 c hcN;rw [←hvc] at this;exact this,by have:=HCe.out V h.1 b hbN;rw [←hve] at this;exact this⟩))
         have Hvc:=jpk hvc
         have Hve:=jpk hve
         have hwv:IntKind.i64.wrap (vc-ve)=vc-ve:=IntWalk.i64_in _ ZO
         have hbI:(b:Int)<(N:Int):=by omega
         have hb00:(0:Int)≤(b:Int):=by omega
         have hcI:(c:Int)<(N:Int):=by omega
         have hc00:(0:Int)≤(c:Int):=by omega
         clear hb hc hvc hve hbk
         go_upto_region 14 with fail
         have hSh:=HSP.out _ K.drew
         replace K:=K.drew
         clear r
         refine jak 100 (fun V=>V.cell? ⟨b0,1,none⟩=some (.slice (some ⟨vb,vo,none⟩) N cc)∧V.cell? ⟨vb,vo+c,none⟩=some (.int .i64 vc)∧V.cell? ⟨vb,vo+b,none⟩=some (.int .i64 ve)) Zb9 hSh (fun hSh=>?_)
         generalize World.drew _=V0 at K hSh ⊢
         refine jaa.tkB 0 rfl ?_
         refine jaa.tkB 1 rfl ?_
         refine jaa.onW 2 rfl fun KK hKK=>?_
         go_simp
         refine (HIk.out _).mono ?_
         rintro e W' ⟨rfl,hb⟩
         replace K:=K.keep hb
         clear hb
         go_wp2_with fail
         refine hKK.out _ _ (HSP.out _ K) (fun hSq=>?_)
         have hSh:=HSP.out _ K
         clear hKK KK hSq
         refine ZPT ?_
         refine jaa.tkB 3 rfl ?_
         refine jaa.tkB 4 rfl ?_
         refine jaa.tkB 5 rfl ?_
         refine jaa.tkB 6 rfl ?_
         refine jaa.tkB 7 rfl ?_
         refine jaa.tkB 8 rfl ?_
         refine jaa.tkB 9 rfl ?_
         refine jaa.tkB 10 rfl ?_
         refine jaa.tkB 11 rfl ?_
         refine jaa.tkB 12 rfl ?_
         refine jaa.tkB 13 rfl ?_
         refine jaa.tkB 14 rfl ?_
         refine jaa.tkB 15 rfl ?_
         refine jaa.tkB 16 rfl ?_
         refine jaa.tkB 17 rfl ?_
         refine jaa.tkB 18 rfl ?_
         refine jaa.tkB 19 rfl ?_
         refine jaa.tkB 20 rfl ?_
         refine jaa.tkB 21 rfl ?_
         refine jaa.tkB 22 rfl ?_
         refine jaa.tkB 23 rfl ?_
         refine jaa.tkB 24 rfl ?_
         refine jaa.tkB 25 rfl ?_
         refine jaa.tkB 26 rfl ?_
         refine jaa.tkB 27 rfl ?_
         refine jaa.done Zb9 ?_
         clear hSh
         have r:=K.rawS
         by_cases hneg2:vc-ve<va-vs
         ·have hnd2:decide (vc-ve<va-vs)=true:=decide_eq_true hneg2
          have HR:=jpk (HNo.out s i hlt hit fun h=>by
           have:=(h Hb0.out).2 k hkt Hbk.out
           rw [←Ha.out,←Hva.out,←Hvs.out,←Hb.out,←Hc.out,←Hvc.out,←Hve.out] at this
           omega)
          clear HNo HYes HA HB HK hor hno
          go_wp2_with fail
          exact ZQ79
         ·have hnd2:decide (vc-ve<va-vs)=false:=decide_eq_false hneg2
          have HK2:=jpk (show ∀k',k'<k+1→bitI s k'=1→gi cs (s ||| 1 <<< i)-gi cs s≤gi cs ((s ^^^ 1 <<< k') ||| 1 <<< i)-gi cs (s ^^^ 1 <<< k') from fun k' h' hb'=>by
           by_cases e:k'=k
           ·rw [e,←Hb.out,←Ha.out,←Hva.out,←Hvs.out,←Hc.out,←Hvc.out,←Hve.out]
            omega
           ·exact HK.out k' ZO hb')
          clear hor hno HK
          go_wp2_with fail
          go_roundg (n-(k+1))
          case rel=>exact ⟨k+1,hkt,rfl,by go_num,HK2,K⟩
          case measure=>omega
        ·have hb0k:bitI s k=0:=by have:=jb8 s k;omega
         rw [hb0k] at HIk
         have HK2:=jpk (show ∀k',k'<k+1→bitI s k'=1→gi cs (s ||| 1 <<< i)-gi cs s≤gi cs ((s ^^^ 1 <<< k') ||| 1 <<< i)-gi cs (s ^^^ 1 <<< k') from fun k' h' hb'=>by
          by_cases e:k'=k
          ·rw [e] at hb'
           omega
          ·exact HK.out k' ZO hb')
         have HSP:=jpk (fun V (h:St w [(b0,#[.int .i64 (n:Int),.slice (some ⟨vb,vo,none⟩) N cc],24)] [] V)=>(show V.cell? ⟨b0,1,none⟩=some (.slice (some ⟨vb,vo,none⟩) N cc) from (h.blk (b:=b0) (cs:=#[.int .i64 (n:Int),.slice (some ⟨vb,vo,none⟩) N cc]) (t:=24) ZMB).cell (j:=1) rfl))
         clear hbk hb0k HK
         go_upto_region 14 with fail
         have hSh:=HSP.out _ K.drew
         replace K:=K.drew
         clear r
         refine jak 100 (fun V=>V.cell? ⟨b0,1,none⟩=some (.slice (some ⟨vb,vo,none⟩) N cc)) Zb9 hSh (fun hSh=>?_)
         generalize World.drew _=V0 at K hSh ⊢
         refine jaa.tkB 0 rfl ?_
         refine jaa.tkB 1 rfl ?_
         refine jaa.onW 2 rfl fun KK hKK=>?_
         go_simp
         refine (HIk.out _).mono ?_
         rintro e W' ⟨rfl,hb⟩
         replace K:=K.keep hb
         clear hb
         go_wp2_with fail
         refine hKK.out _ _ (HSP.out _ K) (fun hSq=>?_)
         have hSh:=HSP.out _ K
         clear hKK KK hSq
         refine ZPT ?_
         refine jaa.tkB 3 rfl ?_
         refine jaa.tkB 4 rfl ?_
         refine jaa.tkN 5 rfl ?_
         refine jaa.tkN 6 rfl ?_
         refine jaa.tkN 7 rfl ?_
         refine jaa.tkN 8 rfl ?_
         refine jaa.tkN 9 rfl ?_
         refine jaa.tkN 10 rfl ?_
         refine jaa.tkN 11 rfl ?_
         refine jaa.tkN 12 rfl ?_
         refine jaa.tkN 13 rfl ?_
         refine jaa.tkN 14 rfl ?_
         refine jaa.tkN 15 rfl ?_
         refine jaa.tkN 16 rfl ?_
         refine jaa.tkN 17 rfl ?_
         refine jaa.tkN 18 rfl ?_
         refine jaa.tkN 19 rfl ?_
         refine jaa.tkN 20 rfl ?_
         refine jaa.tkN 21 rfl ?_
         refine jaa.tkN 22 rfl ?_
         refine jaa.tkN 23 rfl ?_
         refine jaa.tkN 24 rfl ?_
         refine jaa.tkN 25 rfl ?_
         refine jaa.tkN 26 rfl ?_
         refine jaa.tkB 27 rfl ?_
         refine jaa.done Zb9 ?_
         clear hSh
         have r:=K.rawS
         go_wp2_with fail
         go_roundg (n-(k+1))
         case rel=>exact ⟨k+1,hkt,rfl,by go_num,HK2,K⟩
         case measure=>omega
       ·have e:k=n:=by omega
        subst e
        have hktd:decide (k<k)=false:=decide_eq_false hkt
        have hkn:¬(k:Int)<(k:Int):=by omega
        have HB2:=jpk (show ∀i',i'<i+1→ConQ k cs s i' from fun i' h'=>by
         by_cases e:i'=i
         ·rw [e]
          intro _
          refine ⟨?_,fun k' h1 h2=>HK.out k' h1 h2⟩
          rw [←Ha.out,←Hva.out,←Hvs.out]
          omega
         ·exact HB.out i' ZO)
        clear HK HB
        go_wp2_with fail
        go_roundg (k-(i+1))
        case rel=>exact ⟨i+1,hit,rfl,by go_num,HB2,K⟩
        case measure=>omega
    ·have e:i=n:=by omega
     subst e
     have hitd:decide (i<i)=false:=decide_eq_false hit
     have hin:¬(i:Int)<(i:Int):=by omega
     have HA2:=jpk (show ∀s',s'<s+1→∀i',i'<i→ConQ i cs s' i' from fun s' h' i' hi'=>by
      by_cases e:s'=s
      ·rw [e]
       exact HB.out i' hi'
      ·exact HA.out s' ZO i' hi')
     clear HB HA
     go_wp2_with fail
     go_roundg (N-(s+1))
     case rel=>exact ⟨s+1,hlt,rfl,by go_num,HA2,K⟩
     case measure=>omega
  ·have e:s=N:=by omega
   subst e
   have hltd:decide (s<s)=false:=decide_eq_false hlt
   have hsn:¬(s:Int)<(s:Int):=by omega
   have HR:=jpk (HYes.out HA.out)
   clear HNo HYes HA
   go_wp2_with fail
   exact ZQ79
end Go.Proofs.YtgikfcjndiohjaaGreat
