/- Laws and walks; conditions stand in each theorem. -/
import Derived.Test.YtgikfcjndiohjaaGreatP34
set_option linter.unusedSimpArgs false
set_option linter.unusedVariables false
set_option maxHeartbeats 8000000
set_option maxRecDepth 100000
namespace Go.Proofs.YtgikfcjndiohjaaGreat
open Go.RowKit
theorem jmR (A:Option Addr) (n cap g:Nat) (a:List Fv) (w:World) (ha:RdF w w.heap.size A n cap a) (hn:n≤5) (hg:g<2 ^ n) (hoa:a.all Fv.ok=true) (hfit:∀k,k<n→addK (gsum g (fvR a) k) (fvR a k)=true) :
 Calls Tryz.prog 13 #[.slice A n cap,.int .i64 g] w (jkB w n g (fvR a)):=by
 have hcap:=ha.caps
 have HC:=jpk (fun W (h:Below w.heap.size w W)=>jgu A n cap a W (ha.up jan h))
 rw [hoa] at HC
 obtain ⟨u,hu,K⟩:=(St.start w).fxOld ha
 have HQu:=jpk (show ∀j,j<n→isQ (u j) (fvR a j) from fun j hj=>by
  have h1:=hu j hj
  have h2:(u j).fv.ok=true:=List.all_eq_true.1 hoa _ (List.mem_of_getElem? h1)
  unfold fvR
  rw [h1,Option.map_some,Option.getD_some]
  exact jbW h2)
 clear ha hoa hu
 obtain ⟨x,hx⟩:∃x,x=fvR a:=⟨_,rfl⟩
 rw [←hx] at HQu hfit
 rw [←hx]
 clear hx
 have HFit:=jpk hfit
 clear hfit
 have hg32:g<32:=Nat.lt_of_lt_of_le hg (Nat.pow_le_pow_right Zb4 hn)
 have hg0:¬(g:Int)<0:=by omega
 have hgd:decide ((g:Int)<0)=false:=decide_eq_false hg0
 have hg5:(g:Int)<wrap64 (2 ^ (min (n:Int) 5).toNat):=by rw [show (min (n:Int) 5).toNat=n by omega,jhj n ZO];exact Int.ofNat_lt.2 hg
 have hn5:(n:Int)≤5:=by omega
 have r:=K.raw
 go_enter Tryz.func13,Tryz.ntmps13
 go_wp2_with (first|(first|(refine ZAL ?_;clear K r;(first|((fail_if_success revert b0);intro W b0 K r)|((fail_if_success revert b1);intro W b1 K r)|intro W b K r))|(refine ZST ?_;clear K r;intro W K r))|(go_at_call 39;refine (HC.out _ K.1).mono ?_;rintro e W' ⟨rfl,hb⟩;replace K:=K.keep hb;clear hb r;have r:=K.rawS))
 refine (jdV 0 Zb4 Zb21 K).mono ?_
 rintro e V1 ⟨z,rfl,gz,k1⟩
 replace K:=k1
 clear k1 r
 have r:=K.rawS
 go_wp2_with (first|(refine ZAL ?_;clear K r;(first|((fail_if_success revert b0);intro W b0 K r)|((fail_if_success revert b1);intro W b1 K r)|intro W b K r))|(refine ZST ?_;clear K r;intro W K r))
 go_loopg [7] n (fun gk s36 wr=>∃(k:Nat) (z:Rw),k≤n∧gk=n-k∧s36=.int .i64 k∧Hid (isQ z (gsum g x k)∧FrA w.heap.size z.A∧FrA w.heap.size z.B)∧St w [((b1,#[.int .i64 z.s,.slice z.A z.n z.c,.int .i64 z.t,.slice z.B z.m z.d],29):Blk),(b0,#[.int .i64 0,.slice none 0 0,.int .i64 0,.slice none 0 0],29)] (⟨rdP z.B z.m z.d z.k,rdS z.B z.m⟩::⟨rdP z.A z.n z.c z.l,rdS z.A z.n⟩::[(⟨fxP A n cap u,fxS A n u⟩:Hl)]) wr)
 case atStart=>exact ⟨0,z,Nat.zero_le _,rfl,rfl,jpk (by unfold gsum;rw [smQ];exact gz.out),K⟩
 case round =>
  clear K r gz HC
  obtain ⟨k,z,hk,rfl,rfl,HZ,K⟩:=hrel
  have r:=K.rawS
  by_cases hlt:k<n
  ·have hki:(k:Int)<(n:Int):=by omega
   have hk0:(0:Int)≤(k:Int):=by omega
   have hltd:decide (k<n)=true:=decide_eq_true hlt
   obtain ⟨ab,ao,hA⟩:=K.fxAt (A:=A) (n:=n) (cap:=cap) (v:=u) ZMB ZO
   subst hA
   have K:=K.fxRd (n:=n) (v:=u) (i:=k) ZMB hlt
   have q:=K.fxCell (b:=ab) (off:=ao) (n:=n) (cap:=cap) (v:=u) ZMB (i:=k) hlt
   have HIn:=jpk (fun W=>jdK g k W hg32 ZO)
   by_cases hbit:bitI g k=1
   ·rw [hbit] at HIn
    go_upto_region 8 with (first|(first|(refine ZAL ?_;clear K r;(first|((fail_if_success revert b0);intro W b0 K r)|((fail_if_success revert b1);intro W b1 K r)|intro W b K r))|(refine ZST ?_;clear K r;intro W K r))|(go_at_call 25;refine (HIn.out _).mono ?_;rintro e W' ⟨rfl,hb⟩;replace K:=K.keep hb;clear hb r;have r:=K.rawS))
    have HS:=jpk (fun V L5 D5 (h:St w L5 D5 V) (m4:((b1,#[.int .i64 z.s,.slice z.A z.n z.c,.int .i64 z.t,.slice z.B z.m z.d],29):Blk)∈L5) (m5:(⟨fxP (some ⟨ab,ao,none⟩) n cap u,fxS (some ⟨ab,ao,none⟩) n u⟩:Hl)∈D5)=>(show (V.cell? ⟨b1,0,none⟩=some (.int .i64 z.s)∧V.cell? ⟨b1,1,none⟩=some (.slice z.A z.n z.c)∧V.cell? ⟨b1,2,none⟩=some (.int .i64 z.t)∧V.cell? ⟨b1,3,none⟩=some (.slice z.B z.m z.d))∧(V.cell? ⟨ab,ao+k*4,none⟩=some (.int .i64 (u k).s)∧V.cell? ⟨ab,ao+k*4+1,none⟩=some (.slice (u k).A (u k).n (u k).c)∧V.cell? ⟨ab,ao+k*4+2,none⟩=some (.int .i64 (u k).t)∧V.cell? ⟨ab,ao+k*4+3,none⟩=some (.slice (u k).B (u k).m (u k).d)) from ⟨⟨(h.blk m4).cell (j:=0) rfl,(h.blk m4).cell (j:=1) rfl,(h.blk m4).cell (j:=2) rfl,(h.blk m4).cell (j:=3) rfl⟩,h.fxCell m5 hlt⟩))
    have K0:=K.drew
    have s0:=HS.out _ _ _ K0 ZMB ZMB
    clear K r q
    refine jbp 10 (fun V=>(V.cell? ⟨b1,0,none⟩=some (.int .i64 z.s)∧V.cell? ⟨b1,1,none⟩=some (.slice z.A z.n z.c)∧V.cell? ⟨b1,2,none⟩=some (.int .i64 z.t)∧V.cell? ⟨b1,3,none⟩=some (.slice z.B z.m z.d))∧(V.cell? ⟨ab,ao+k*4,none⟩=some (.int .i64 (u k).s)∧V.cell? ⟨ab,ao+k*4+1,none⟩=some (.slice (u k).A (u k).n (u k).c)∧V.cell? ⟨ab,ao+k*4+2,none⟩=some (.int .i64 (u k).t)∧V.cell? ⟨ab,ao+k*4+3,none⟩=some (.slice (u k).B (u k).m (u k).d))) Zb9 s0 (fun hSh=>?_)
    clear s0
    generalize World.drew _=V0 at K0 hSh ⊢
    refine jac.tk 0 rfl ?_
    refine jac.tkU 1 rfl ?_
    refine jac.tkU 2 rfl ?_
    refine jac.tkU 3 rfl ?_
    refine jac.tk 4 rfl ?_
    refine jac.two (i:=5) (j:=9) rfl rfl rfl rfl Zb9 (fun KK hKK=>?_) (fun KK hKK=>?_)
    focus
     go_simp
     go_at_call 40
     refine (jgB K0 HZ.out.1 (HQu.out k hlt) ZMB ZMB ZMB ZMB).mono ?_
     rintro e V1 ⟨y2,er2,rfl,gy2,k1⟩
     have h0:er2=0:=by
      have h1:=gy2.out.1.2
      rw [HFit.out k hlt] at h1
      simpa using h1
     subst h0
     go_wp2_with fail
     refine hKK.out _ _ (fun _=>HS.out _ _ _ k1 ZMB ZMB) (fun hSq=>?_)
     have hSh:=HS.out _ _ _ k1 ZMB ZMB
     clear hKK KK hSq
     refine ZPT ?_
     refine jac.tkU 6 rfl ?_
     refine jac.tkU 7 rfl ?_
     refine jac.tkU 8 rfl ?_
     refine jac.on 9 rfl fun KK hKK=>?_
     go_simp
     have k2:=k1.new #[.int .i64 0,.slice none 0 0,.int .i64 0,.slice none 0 0] 29
     generalize V1.alloc (.cells #[.int .i64 0,.slice none 0 0,.int .i64 0,.slice none 0 0] 29)=V2 at k2 ⊢
     generalize V1.heap.size=g2 at k2 ⊢
     refine hKK.out _ _ (fun _=>HS.out _ _ _ k2 ZMB ZMB) (fun hSq=>?_)
     have hSh:=HS.out _ _ _ k2 ZMB ZMB
     clear hKK KK hSq
     refine ZPT ?_
    rotate_right
    focus
     go_simp
     have k1:=K0.new #[.int .i64 0,.slice none 0 0,.int .i64 0,.slice none 0 0] 29
     generalize V0.alloc (.cells #[.int .i64 0,.slice none 0 0,.int .i64 0,.slice none 0 0] 29)=V1 at k1 ⊢
     generalize V0.heap.size=g2 at k1 ⊢
     refine hKK.out _ _ (fun _=>HS.out _ _ _ k1 ZMB ZMB) (fun hSq=>?_)
     have hSh:=HS.out _ _ _ k1 ZMB ZMB
     clear hKK KK hSq
     refine ZPT ?_
     refine jac.on 5 rfl fun KK hKK=>?_
     go_simp
     go_at_call 40
     refine (jgB k1 HZ.out.1 (HQu.out k hlt) ZMB ZMB ZMB ZMB).mono ?_
     rintro e V2 ⟨y2,er2,rfl,gy2,k2⟩
     have h0:er2=0:=by
      have h1:=gy2.out.1.2
      rw [HFit.out k hlt] at h1
      simpa using h1
     subst h0
     go_wp2_with fail
     refine hKK.out _ _ (fun _=>HS.out _ _ _ k2 ZMB ZMB) (fun hSq=>?_)
     have hSh:=HS.out _ _ _ k2 ZMB ZMB
     clear hKK KK hSq
     refine ZPT ?_
     refine jac.tkU 6 rfl ?_
     refine jac.tkU 7 rfl ?_
     refine jac.tkU 8 rfl ?_
    all_goals
     refine jac.onF 10 rfl fun KK hKK=>?_
     have r:=k2.rawS
     have zz:=k2.thaw (g:=g2) (cs:=#[.int .i64 0,.slice none 0 0,.int .i64 0,.slice none 0 0]) (t:=29) ZMB
     go_simp
     have K9:=k2.set4Z (b:=g2) (t:=29) (x0:=.int .i64 0) (x1:=.slice none 0 0) (x2:=.int .i64 0) (x3:=.slice none 0 0) (u0:=.int .i64 y2.s) (u1:=.slice y2.A y2.n y2.c) (u2:=.int .i64 y2.t) (u3:=.slice y2.B y2.m y2.d) (Upd.head _)
     refine hKK.out _ _ ?_
     clear hKK KK r zz
     refine ZPT ?_
     refine jac.tkF 11 rfl ?_
     refine ⟨by kernel_rfl,?_⟩
     generalize ((((V2.setCell ⟨g2,0,none⟩ (.int .i64 y2.s)).setCell ⟨g2,1,none⟩ (.slice y2.A y2.n y2.c)).setCell ⟨g2,2,none⟩ (.int .i64 y2.t)).setCell ⟨g2,3,none⟩ (.slice y2.B y2.m y2.d))=W9 at K9 ⊢
     have HZ2:=jpk (show isQ y2 (gsum g x (k+1))∧FrA w.heap.size y2.A∧FrA w.heap.size y2.B from ⟨by rw [jgg hbit];exact gy2.out.1.1 rfl,gy2.out.2⟩)
     clear k2 hSh HS gy2 HZ
     have K:=K9
     clear K9
     have r:=K.rawS
     go_wp2_with (first|(refine ZAL ?_;clear K r;(first|((fail_if_success revert b0);intro W b0 K r)|((fail_if_success revert b1);intro W b1 K r)|intro W b K r))|(refine ZST ?_;clear K r;intro W K r))
     go_roundg (n-(k+1))
     case rel=>exact ⟨k+1,y2,hlt,rfl,by go_num,HZ2,(K.lessS (D':=⟨rdP y2.B y2.m y2.d y2.k,rdS y2.B y2.m⟩::⟨rdP y2.A y2.n y2.c y2.l,rdS y2.A y2.n⟩::[(⟨fxP (some ⟨ab,ao,none⟩) n cap u,fxS (some ⟨ab,ao,none⟩) n u⟩:Hl)]) Zb10).part (L':=[((b1,#[.int .i64 y2.s,.slice y2.A y2.n y2.c,.int .i64 y2.t,.slice y2.B y2.m y2.d],29):Blk),(b0,#[.int .i64 0,.slice none 0 0,.int .i64 0,.slice none 0 0],29)]) Zb10⟩
     case measure=>omega
   ·have hbn:(bitI g k==1)=false:=by simp [hbit]
    go_wp2_with (first|(first|(refine ZAL ?_;clear K r;(first|((fail_if_success revert b0);intro W b0 K r)|((fail_if_success revert b1);intro W b1 K r)|intro W b K r))|(refine ZST ?_;clear K r;intro W K r))|(go_at_call 25;refine (HIn.out _).mono ?_;rintro e W' ⟨rfl,hb⟩;replace K:=K.keep hb;clear hb r;have r:=K.rawS))
    have HZ2:=jpk (show isQ z (gsum g x (k+1))∧FrA w.heap.size z.A∧FrA w.heap.size z.B from ⟨by rw [jfc hbit];exact HZ.out.1,HZ.out.2⟩)
    clear HZ
    go_roundg (n-(k+1))
    case rel=>exact ⟨k+1,z,hlt,rfl,by go_num,HZ2,(K.lessS (D':=⟨rdP z.B z.m z.d z.k,rdS z.B z.m⟩::⟨rdP z.A z.n z.c z.l,rdS z.A z.n⟩::[(⟨fxP (some ⟨ab,ao,none⟩) n cap u,fxS (some ⟨ab,ao,none⟩) n u⟩:Hl)]) Zb10).part (L':=[((b1,#[.int .i64 z.s,.slice z.A z.n z.c,.int .i64 z.t,.slice z.B z.m z.d],29):Blk),(b0,#[.int .i64 0,.slice none 0 0,.int .i64 0,.slice none 0 0],29)]) Zb10⟩
    case measure=>omega
  ·have e:n=k:=by omega
   subst e
   have hltd:decide (n<n)=false:=decide_eq_false hlt
   clear hlt
   go_wp2_with (first|(refine ZAL ?_;clear K r;(first|((fail_if_success revert b0);intro W b0 K r)|((fail_if_success revert b1);intro W b1 K r)|intro W b K r))|(refine ZST ?_;clear K r;intro W K r))
   have HX:=jpk (show jkB w n g x (.returned (.tuple #[.agg #[.int .i64 z.s,.slice z.A z.n z.c,.int .i64 z.t,.slice z.B z.m z.d],.int .i64 0])) _ from ⟨z,rfl,HZ.out.1,⟨K.rd ZMB,K.rd ZMB⟩,HZ.out.2,K.1⟩)
   have r:=K.rawS
   exact bodyPost_ret (v:=.tuple #[.agg #[.int .i64 z.s,.slice z.A z.n z.c,.int .i64 z.t,.slice z.B z.m z.d],.int .i64 0]) (by simp [results,Tryz.results13,go_sem,r]) rfl HX.out
theorem Hb.uncell {w:World} {g j:Nat} {cs:Array Value} {t:TypeId} {u:Value} (h:Hb w g cs t) (hc:w.cell? ⟨g,j,none⟩=some u):cs[j]?=some u:=by
 unfold Hb at h
 simpa [World.cell?,h] using hc
theorem jns {j:Nat} {v:Int} (h:(#[.int .i64 0,.slice none 0 0,.int .i64 0,.slice none 0 0]:Array Value)[j]?=some (.int .i64 v)):v=0∧(#[.int .i64 0,.slice none 0 0,.int .i64 0,.slice none 0 0]:Array Value)[j+1]?=some (.slice none 0 0):=by
 match j with
 | 0=>simp at h;exact ⟨h.symm,rfl⟩
 | 1=>simp at h
 | 2=>simp at h;exact ⟨h.symm,rfl⟩
 | 3=>simp at h
 | k+4=>simp at h
theorem jey {W:World} {bs B n cap:Nat} {t:TypeId} {A:Option Addr} {l:List Int} (h:Hb W bs #[.int .i64 0,.slice none 0 0,.int .i64 0,.slice none 0 0] t) (hr:RdI W B A n cap l) (hl:l≠[0]) (b:Nat) (hS:rdS A n b):b≠bs:=by
 obtain ⟨hn,a,ha,rfl⟩:=hS
 obtain ⟨h1,-,-,h4⟩:=hr
 obtain ⟨b',off,hA,-,hc⟩:=h4 hn
 intro e
 rw [hA] at ha
 cases ha
 have e:b'=bs:=e
 subst e
 obtain ⟨c0,e0,-,g0⟩:=hc 0 ZO
 have e0:c0=[.int .i64 l[0]]:=e0
 rw [e0] at g0
 have k0:=h.uncell (g0 0 _ rfl)
 obtain ⟨z0,z1⟩:=jns k0
 by_cases h2:1<l.length
 ·obtain ⟨c1,e1,-,g1⟩:=hc 1 h2
  have e1:c1=[.int .i64 l[1]]:=e1
  rw [e1] at g1
  have k1:=h.uncell (g1 0 _ rfl)
  have e9:off+1*1+0=off+0*1+0+1:=by omega
  rw [e9,z1] at k1
  cases k1
 ·refine hl ?_
  match l,h1,h2,z0 with
  | [x],_,_,z=>exact congrArg (fun u=>[u]) z
  | [],h1,_,_=>simp at h1;omega
  | _::_::_,_,h2,_=>simp at h2
theorem jh6 (n:Nat):digs n≠[0]:=fun h=>by
 have h1:=jau n
 rw [h] at h1
 have h2:n=0:=by
  have:val [0]=0:=by decide
  omega
 rw [h2,jax] at h
 cases h
theorem jmp {W:World} {bs n cap:Nat} {t:TypeId} {A:Option Addr} {v:Nat→Rw} {x:Nat→Rat} (h:Hb W bs #[.int .i64 0,.slice none 0 0,.int .i64 0,.slice none 0 0] t) (hf:fxP A n cap v W) (hx:∀i,i<n→(v i).fv=fvQ (x i)) (b:Nat) (hS:fxS A n v b):b≠bs:=by
 rcases hS with ⟨hn,a,ha,rfl⟩|⟨i,hi,hS⟩
 ·obtain ⟨h1,-,-,h4⟩:=hf.1
  obtain ⟨b',off,hA,-,hc⟩:=h4 hn
  intro e
  rw [hA] at ha
  cases ha
  have e:b'=bs:=e
  subst e
  obtain ⟨c0,e0,-,g0⟩:=hc 0 (by rw [jag];exact hn)
  have e1:c0=(v 0).cs:=by
   have e2:(ofF n v)[0]'(by rw [jag];exact hn)=v 0:=by
    have:=jaJ (f:=v) hn
    rw [List.getElem?_eq_getElem (by rw [jag];exact hn)] at this
    exact Option.some.inj this
   rw [←e2]
   exact e0
  rw [e1] at g0
  have k0:=h.uncell (g0 2 (.int .i64 (v 0).t) rfl)
  have z0:=(jns k0).1
  have h9:(v 0).t=sgI ((x 0).den:Int):=congrArg Fv.t (hx 0 hn)
  rw [z0] at h9
  have:=jbr (x 0)
  unfold sgI at h9
  split at h9
  ·omega
  ·split at h9 <;> omega
 ·have hv:=hx i hi
  have hl:(v i).l=digs (x i).num.natAbs:=congrArg Fv.l hv
  have hk:(v i).k=digs ((x i).den:Int).natAbs:=congrArg Fv.m hv
  have ho:=hf.2 i hi
  rcases hS with hS|hS
  ·exact jey h ho.1 (by rw [hl];exact jh6 _) b hS
  ·exact jey h ho.2 (by rw [hk];exact jh6 _) b hS
theorem fx_rdF {W:World} {n cap:Nat} {A:Option Addr} {v:Nat→Rw} (h:fxP A n cap v W):RdF W W.heap.size A n cap (ofF n fun i=>(v i).fv):=by
 refine ⟨jag,h.1.2.1,h.1.2.2.1,fun hn=>?_⟩
 obtain ⟨b,off,e,hlt,hc⟩:=h.1.2.2.2 hn
 refine ⟨b,off,e,hlt,fun k hk=>?_⟩
 rw [jag] at hk
 obtain ⟨cs,hr,hl,hj⟩:=hc k (by rw [jag];exact hk)
 have e2:(ofF n v)[k]'(by rw [jag];exact hk)=v k:=by
  have:=jaJ (f:=v) hk
  exact ZQ41
 rw [e2] at hr
 have hr:cs=(v k).cs:=hr
 have e3:(ofF n fun i=>(v i).fv)[k]'(by rw [jag];exact hk)=(v k).fv:=by
  have:=jaJ (f:=fun i=>(v i).fv) hk
  exact ZQ41
 rw [e3]
 exact ⟨cs,⟨_,_,_,_,_,_,hr,(h.2 k hk).1,(h.2 k hk).2⟩,hl,hj⟩
theorem St.fxZ {w W:World} {D:List Hl} {bs n cap:Nat} {A:Option Addr} {x:Nat→Rat} {t:TypeId} (K:St w [(bs,#[.int .i64 0,.slice none 0 0,.int .i64 0,.slice none 0 0],t)] D W) (h:RdF W W.heap.size A n cap (ofF n fun i=>fvQ (x i))):∃S:Nat→Prop,St w [(bs,#[.int .i64 0,.slice none 0 0,.int .i64 0,.slice none 0 0],t)] (⟨rfQ A n cap (ofF n fun i=>fvQ (x i)),S⟩::D) W:=by
 obtain ⟨v,h1,h2,h3⟩:=jka h
 have hv:∀i,i<n→(v i).fv=fvQ (x i):=fun i hi=>by
  have:=h3 i hi
  rw [jaJ hi] at this
  exact (Option.some.inj this).symm
 have hp:fxP A n cap v W:=⟨h1,fun i hi=>h2 i hi⟩
 refine ⟨fxS A n v,K.add ⟨h,fun b hS=>⟨jjy hp hS,fun p hm=>?_⟩,fun W' g1 g2=>?_⟩⟩
 ·rw [List.mem_singleton.1 hm]
  exact fun e=>jmp (K.blk (b:=bs) List.mem_cons_self) hp hv b hS e.symm
 ·have:=fx_rdF (jgc hp g1 g2)
  rw [jaD hv] at this
  exact this
theorem gm_ok (n m:Nat) (cs:List Int) (hb:∀i,0≤gi cs i∧gi cs i≤1000000000000000):((gmL n).all Fv.ok&&(gmR n m cs).all (rowF n))=true:=by
 have one:∀g l:Nat,jaF (bitQ g l)=true:=fun g l=>IsI.fit (by have:=jb8 g l;omega)
 rw [Bool.and_eq_true]
 refine ⟨jfj fun i hi=>jew Zb21,jfU fun i hi=>?_⟩
 unfold rowF jfK
 rw [jag,decide_eq_true rfl,jew (IsI.fit (hb _)),jfj fun l hl=>jew (one _ l)]
 rfl
def CoreR (w:World) (n M:Nat) (cs:List Int) (e:Ending) (w':World):Prop :=
 ∃(X1:Option Addr) (k1:Nat) (X2:Option Addr) (k2:Nat) (x y:Nat→Rat) (s:Rw),e=.returned (.tuple #[.slice X1 n k1,.agg #[.int .i64 s.s,.slice s.A s.n s.c,.int .i64 s.t,.slice s.B s.m s.d],.slice X2 M k2,.int .i64 0])∧jb7 n cs x y∧RdF w' w'.heap.size X1 n k1 (ofF n fun i=>fvQ (x i))∧RdF w' w'.heap.size X2 M k2 (ofF M fun i=>fvQ (y i))∧((∀i,i<n→jaF (x i)=true)∧∀i,i<M→jaF (y i)=true)∧isQ s (((gi cs M:Int):Rat)-smQ x n)∧(RdI w' w'.heap.size s.A s.n s.c s.l∧RdI w' w'.heap.size s.B s.m s.d s.k)∧Below w.heap.size w w'
theorem jhp {n M cc:Nat} {C:Option Addr} {cs:List Int} (hk:Gok n cs) (hN:M+1=2 ^ n) (A1 A2:Option Addr) (c1 c2:Nat) (W:World) (h1:RdF W W.heap.size A1 n c1 (gmL n)) (h2:RdR W W.heap.size A2 M c2 (gmR n M cs)) :
 Calls Tryz.prog 29 #[.agg #[.slice A1 n c1,.slice A2 M c2]] W fun e w'=>∃(X1:Option Addr) (k1:Nat) (X2:Option Addr) (k2:Nat) (x y:Nat→Rat),e=.returned (.tuple #[.slice X1 n k1,.slice X2 M k2,.int .i64 0])∧jb7 n cs x y∧RdF w' w'.heap.size X1 n k1 (ofF n fun i=>fvQ (x i))∧RdF w' w'.heap.size X2 M k2 (ofF M fun i=>fvQ (y i))∧((∀i,i<n→jaF (x i)=true)∧∀i,i<M→jaF (y i)=true)∧Below W.heap.size W w':=by
 have hp:=jbA n (by have:=hk.hn;omega)
 have hn3:=hk.hn
 rw [←hN,Nat.add_sub_cancel] at hp
 refine (jkr A1 A2 n c1 M c2 (gmL n) (gmR n M cs) W h1 h2 ZO ZO (gm_ok n _ cs hk.bd)).mono ?_
 rintro e w' ⟨E,hE,hO,hb⟩
 obtain rfl:M=2 ^ n-1:=by omega
 obtain ⟨x,y,rfl⟩:=hk.gm.best hE
 obtain ⟨X1,k1,X2,k2,h0,g1,g2,g3,g4⟩:=hO
 exact ⟨X1,k1,X2,k2,x,y,h0,hE,g1,g2,⟨g3,g4⟩,hb⟩
theorem jeY {n M:Nat} {cs:List Int} {x y:Nat→Rat} (hk:Gok n cs) (hN:M+1=2 ^ n) (hE:jb7 n cs x y) (hft:∀i,i<n→jaF (x i)=true) (X1:Option Addr) (k1:Nat) (W:World) (h:RdF W W.heap.size X1 n k1 (ofF n fun i=>fvQ (x i))) :
 Calls Tryz.prog 12 #[.slice X1 n k1,.int .i64 M] W fun e w'=>∃z:Rw,e=.returned (.tuple #[.agg #[.int .i64 z.s,.slice z.A z.n z.c,.int .i64 z.t,.slice z.B z.m z.d],.int .i64 0])∧Hid (isQ z (smQ x n))∧(RdI w' w'.heap.size z.A z.n z.c z.l∧RdI w' w'.heap.size z.B z.m z.d z.k)∧(FrA W.heap.size z.A∧FrA W.heap.size z.B)∧Below W.heap.size W w':=by
 have hn3:=hk.hn
 have hp:=jbA n ZO
 have hKd:=(hE.kd hk).congr (y:=fvR (ofF n fun i=>fvQ (x i))) (fun u hu=>jcq u hu)
 refine (jfb X1 n k1 M _ W h ZO ZO (jfj fun i hi=>jew (hft i hi)) (fun k hk2=>hKd.gadd ZO Zb4 Zb4 _ k hk2)).mono ?_
 rintro e w' ⟨z,he,hz,h1,h2,hb⟩
 refine ⟨z,he,jpk ?_,h1,h2,hb⟩
 rw [show M=2 ^ n-1 by omega,jb2 hk,jaj (fun i hi=>jcq (f:=x) i hi)] at hz
 exact hz
theorem jgG {n M:Nat} {cs:List Int} {x y:Nat→Rat} (hk:Gok n cs) (hN:M+1=2 ^ n) (hE:jb7 n cs x y):addK ((gi cs M:Int):Rat) (-(smQ x n))=true:=by
 have hn3:=hk.hn
 have h1:=(hE.kd hk).gsum ZO Zb4 Zb4 (2 ^ n-1) n (Nat.le_refl n)
 rw [jb2 hk] at h1
 have h2:IsI ((gi cs M:Int):Rat) 1000000000000000:=⟨_,rfl,by have:=hk.bd M;omega⟩
 exact ((h2.pt1 (l:=3) Zb4 Zb4).add h1.neg Zb4).1
theorem jeX (n M cc:Nat) (C:Option Addr) (cs:List Int) (w:World) (hc:RdI w w.heap.size C (M+1) cc cs) (hk:Gok n cs) (hN:M+1=2 ^ n) (HG:Hid (∀W,Below w.heap.size w W→Calls Tryz.prog 16 #[.agg #[.int .i64 (n:Int),.slice C (M+1:Nat) cc]] W fun e w'=>e=.returned (.bool true)∧Below W.heap.size W w')) :
 Calls Tryz.prog 10 #[.agg #[.int .i64 (n:Int),.slice C (M+1:Nat) cc]] w (CoreR w n M cs):=by
 have hcap:=hc.caps
 have hp:=jbA n (by have:=hk.hn;omega)
 rw [←hN,Nat.add_sub_cancel] at hp
 have hn3:=hk.hn
 have HP:=jpk (fun W (h:Below w.heap.size w W)=>jd1 n (M+1) cc C cs W (hc.up (jab _) h) ZO ZO hk.bd)
 have HL:=jpk hc
 have Hk:=jpk hk
 have HN:=jpk hN
 have HSm:=jpk (fun x y hE hft X1 k1 W h=>jeY (x:=x) (y:=y) hk hN hE hft X1 k1 W h)
 have HSo:=jpk (fun A1 c1 A2 c2 W hr1 hr2=>jhp (cc:=cc) (C:=C) hk hN A1 A2 c1 c2 W hr1 hr2)
 clear hc hk hN
 have K:=St.start w
 have r:=K.raw
 go_enter Tryz.func10,Tryz.ntmps10
 go_wp2_with (first
 | (apply K.box;rfl;rfl;rfl;clear K r;intro W b0 K;have r:=K.rawS)
 | (first | (refine ZAL ?_;clear K r;(first | ((fail_if_success revert b0);intro W b0 K r) | ((fail_if_success revert b1);intro W b1 K r) | ((fail_if_success revert b2);intro W b2 K r) | intro W b K r)) | (refine ZST ?_;clear K r;intro W K r))
 | (go_at_call 16;refine (HG.out _ K.1).mono ?_;rintro e W' ⟨rfl,hb⟩;replace K:=K.keep hb;clear hb r;have r:=K.rawS)
 | (go_at_call 30;refine (HP.out _ K.1).mono ?_;rintro e W' ⟨A1,c1,A2,c2,rfl,hr1,hr2,hb⟩;replace K:=K.keep hb;clear hb r;have r:=K.rawS)
 | (go_at_call 29;refine (HSo.out _ _ _ _ _ hr1 hr2).mono ?_;clear hr1 hr2;rintro e W' ⟨X1,k1,X2,k2,x,y,rfl,hsa,hx,hy,hft,hb⟩;replace K:=K.keep hb;clear hb r;have r:=K.rawS))
 have Hsa:=jpk hsa
 have Hft:=jpk hft
 obtain ⟨vb,vo,hA,hvb,hcc⟩:=RdI.cellAt HL.out (k:=M) ZO
 subst hA
 have K2:St w [(b1,#[.int .i64 0,.slice none 0 0,.int .i64 0,.slice none 0 0],29)] [(⟨fun V=>V.cell? ⟨b0,0,none⟩=some (.int .i64 (n:Int))∧V.cell? ⟨b0,1,none⟩=some (.slice (some ⟨vb,vo,none⟩) (M+1:Nat) cc),fun b'=>b'=b0⟩:Hl)] _:=(K.part (List.sublist_append_left [_] [_])).add ⟨⟨(K.blk (b:=b0) ZMB).cell (j:=0) rfl,(K.blk (b:=b0) ZMB).cell (j:=1) rfl⟩,fun b' hS=>by
  have hS:b'=b0:=hS
  subst hS
  refine ⟨(K.blk (b:=b') ZMB).lt,fun p hp=>?_⟩
  rw [List.mem_singleton.1 hp]
  exact (List.pairwise_cons.1 K.2.2.1).1 _ List.mem_cons_self,fun V' h1 h2=>⟨(jb9 (h2 b0 rfl)).trans ((K.blk (b:=b0) ZMB).cell (j:=0) rfl),(jb9 (h2 b0 rfl)).trans ((K.blk (b:=b0) ZMB).cell (j:=1) rfl)⟩⟩
 obtain ⟨Sx,K3⟩:=K2.fxZ hx
 obtain ⟨Sy,K4⟩:=K3.fxZ hy
 have HAd:=jpk (jgG Hk.out HN.out Hsa.out)
 have HSm2:=jpk (HSm.out x y Hsa.out Hft.out.1 X1 k1 _ hx)
 clear K K2 K3 hx hy hsa hft r HG HP HSo HSm
 have K:=K4
 clear K4
 have r:=K.rawS
 refine HSm2.out.mono ?_
 rintro e W5 ⟨z,rfl,gz,⟨hza,hzb⟩,⟨hfa,hfb⟩,hb⟩
 replace K:=K.retF hb hza hzb hfa hfb
 clear hza hzb hfa hfb hb HSm2 r
 have r:=K.rawS
 have q0:=(K.okAt (x:=(⟨fun V=>V.cell? ⟨b0,0,none⟩=some (.int .i64 (n:Int))∧V.cell? ⟨b0,1,none⟩=some (.slice (some ⟨vb,vo,none⟩) (M+1:Nat) cc),fun b'=>b'=b0⟩:Hl)) ZMB).1.1
 have q1:=(K.okAt (x:=(⟨fun V=>V.cell? ⟨b0,0,none⟩=some (.int .i64 (n:Int))∧V.cell? ⟨b0,1,none⟩=some (.slice (some ⟨vb,vo,none⟩) (M+1:Nat) cc),fun b'=>b'=b0⟩:Hl)) ZMB).1.2
 have q2:=(K.1.cell (p:=⟨vb,vo+M,none⟩) hvb).trans hcc
 have HNu:=jpk (fun (V:World) L5 D5 (h:St w L5 D5 V)=>jdn (gi cs M) (by have:=Hk.out.bd M;omega) (IsI.fit (Hk.out.bd M)) h)
 go_upto_region 9 with (first|(refine ZAL ?_;clear K r;(first|((fail_if_success revert b0);intro W b0 K r)|((fail_if_success revert b1);intro W b1 K r)|((fail_if_success revert b2);intro W b2 K r)|intro W b K r))|(refine ZST ?_;clear K r;intro W K r))
 have HS:=jpk (fun V L5 D5 (h:St w L5 D5 V) (m4:((b2,#[.int .i64 z.s,.slice z.A z.n z.c,.int .i64 z.t,.slice z.B z.m z.d],29):Blk)∈L5) (m5:(⟨fun V=>V.cell? ⟨b0,0,none⟩=some (.int .i64 (n:Int))∧V.cell? ⟨b0,1,none⟩=some (.slice (some ⟨vb,vo,none⟩) (M+1:Nat) cc),fun b'=>b'=b0⟩:Hl)∈D5)=>(show (V.cell? ⟨b2,0,none⟩=some (.int .i64 z.s)∧V.cell? ⟨b2,1,none⟩=some (.slice z.A z.n z.c)∧V.cell? ⟨b2,2,none⟩=some (.int .i64 z.t)∧V.cell? ⟨b2,3,none⟩=some (.slice z.B z.m z.d))∧V.cell? ⟨b0,1,none⟩=some (.slice (some ⟨vb,vo,none⟩) (M+1:Nat) cc)∧V.cell? ⟨vb,vo+M,none⟩=some (.int .i64 (gi cs M)) from ⟨⟨(h.blk m4).cell (j:=0) rfl,(h.blk m4).cell (j:=1) rfl,(h.blk m4).cell (j:=2) rfl,(h.blk m4).cell (j:=3) rfl⟩,(h.okAt m5).1.2,(h.1.cell (p:=⟨vb,vo+M,none⟩) hvb).trans hcc⟩))
 have hM8:(M:Int)≤8:=by omega
 have hw:IntKind.i64.wrap (M:Int)=(M:Int):=IntWalk.i64_in _ ZO
 have hM0:(M:Int)<(M:Int)+1:=by omega
 have hM1:(0:Int)≤(M:Int):=by omega
 have K0:=K.drew
 have s0:=HS.out _ _ _ K0 ZMB ZMB
 clear K r q0 q1 q2
 refine jbp 14 (fun V=>(V.cell? ⟨b2,0,none⟩=some (.int .i64 z.s)∧V.cell? ⟨b2,1,none⟩=some (.slice z.A z.n z.c)∧V.cell? ⟨b2,2,none⟩=some (.int .i64 z.t)∧V.cell? ⟨b2,3,none⟩=some (.slice z.B z.m z.d))∧V.cell? ⟨b0,1,none⟩=some (.slice (some ⟨vb,vo,none⟩) (M+1:Nat) cc)∧V.cell? ⟨vb,vo+M,none⟩=some (.int .i64 (gi cs M))) Zb9 s0 (fun hSh=>?_)
 clear s0
 generalize World.drew _=V0 at K0 hSh ⊢
 refine jac.tkU 0 rfl ?_
 refine jac.tk 1 rfl ?_
 refine jac.tkU 2 rfl ?_
 refine jac.tk 3 rfl ?_
 refine jac.tkU 4 rfl ?_
 refine jac.tkU 5 rfl ?_
 refine jac.tkU 6 rfl ?_
 refine jac.tk 7 rfl ?_
 refine jac.tk 9 rfl ?_
 refine jac.on 8 rfl fun KK hKK=>?_
 go_simp
 go_at_call 32
 refine (HNu.out _ _ _ K0).mono ?_
 rintro e V1 ⟨t,rfl,gt,k1⟩
 clear K0
 go_wp2_with fail
 refine hKK.out _ _ (fun _=>HS.out _ _ _ k1 ZMB ZMB) (fun hSq=>?_)
 have hSh:=HS.out _ _ _ k1 ZMB ZMB
 clear hKK KK hSq
 refine ZPT ?_
 refine jac.on 10 rfl fun KK hKK=>?_
 go_simp
 go_at_call 31
 refine (jcY k1 gt.out.1 gz.out ZMB ZMB ZMB ZMB).mono ?_
 rintro e V2 ⟨s,er,rfl,gs,k2⟩
 have h0:er=0:=by
  have h1:=gs.out.2
  rw [HAd.out] at h1
  simpa using h1
 subst h0
 have GS:=jpk (gs.out.1 rfl)
 clear k1 gs gt HAd
 go_wp2_with fail
 refine hKK.out _ _ (fun _=>HS.out _ _ _ k2 ZMB ZMB) (fun hSq=>?_)
 have hSh:=HS.out _ _ _ k2 ZMB ZMB
 clear hKK KK hSq
 refine ZPT ?_
 refine jac.tkU 11 rfl ?_
 refine jac.tkU 12 rfl ?_
 refine jac.tkU 13 rfl ?_
 refine jac.onF 14 rfl fun KK hKK=>?_
 have r:=k2.rawS
 have zz:=k2.thaw (g:=b1) (cs:=#[.int .i64 0,.slice none 0 0,.int .i64 0,.slice none 0 0]) (t:=29) ZMB
 go_simp
 have K9:=k2.set4Z (b:=b1) (t:=29) (x0:=.int .i64 0) (x1:=.slice none 0 0) (x2:=.int .i64 0) (x3:=.slice none 0 0) (u0:=.int .i64 s.s) (u1:=.slice s.A s.n s.c) (u2:=.int .i64 s.t) (u3:=.slice s.B s.m s.d) (.tail _ (.head _))
 refine hKK.out _ _ ?_
 clear hKK KK r zz
 refine ZPT ?_
 refine jac.tkF 15 rfl ?_
 refine ⟨by kernel_rfl,?_⟩
 generalize (((V2.setCell ⟨b1,0,none⟩ (.int .i64 s.s)).setCell ⟨b1,1,none⟩ (.slice s.A s.n s.c)).setCell ⟨b1,2,none⟩ (.int .i64 s.t)).setCell ⟨b1,3,none⟩ (.slice s.B s.m s.d)=W9 at K9 ⊢
 clear k2 hSh HS gz
 have K:=K9
 clear K9
 have r:=K.rawS
 go_upto_region 12 with (first|(refine ZAL ?_;clear K r;(first|((fail_if_success revert b0);intro W b0 K r)|((fail_if_success revert b1);intro W b1 K r)|((fail_if_success revert b2);intro W b2 K r)|intro W b K r))|(refine ZST ?_;clear K r;intro W K r))
 have HS:=jpk (fun V L5 D5 (h:St w L5 D5 V) (m4:((b1,#[.int .i64 s.s,.slice s.A s.n s.c,.int .i64 s.t,.slice s.B s.m s.d],29):Blk)∈L5)=>(show (V.cell? ⟨b1,0,none⟩=some (.int .i64 s.s)∧V.cell? ⟨b1,1,none⟩=some (.slice s.A s.n s.c)∧V.cell? ⟨b1,2,none⟩=some (.int .i64 s.t)∧V.cell? ⟨b1,3,none⟩=some (.slice s.B s.m s.d)) from ⟨(h.blk m4).cell (j:=0) rfl,(h.blk m4).cell (j:=1) rfl,(h.blk m4).cell (j:=2) rfl,(h.blk m4).cell (j:=3) rfl⟩))
 have K0:=K.drew
 have s0:=HS.out _ _ _ K0 ZMB
 clear K r
 refine jbp 4 (fun V=>(V.cell? ⟨b1,0,none⟩=some (.int .i64 s.s)∧V.cell? ⟨b1,1,none⟩=some (.slice s.A s.n s.c)∧V.cell? ⟨b1,2,none⟩=some (.int .i64 s.t)∧V.cell? ⟨b1,3,none⟩=some (.slice s.B s.m s.d))) Zb9 s0 (fun hSh=>?_)
 clear s0
 generalize World.drew _=V0 at K0 hSh ⊢
 refine jac.tkU 0 rfl ?_
 refine jac.tk 1 rfl ?_
 refine jac.tkU 2 rfl ?_
 refine jac.tkU 3 rfl ?_
 refine jac.onF 4 rfl fun KK hKK=>?_
 have r:=K0.rawS
 have zz:=K0.thaw (g:=b1) (cs:=#[.int .i64 s.s,.slice s.A s.n s.c,.int .i64 s.t,.slice s.B s.m s.d]) (t:=29) ZMB
 go_simp
 have K9:=K0.set4Z (b:=b1) (t:=29) (x0:=.int .i64 s.s) (x1:=.slice s.A s.n s.c) (x2:=.int .i64 s.t) (x3:=.slice s.B s.m s.d) (u0:=.int .i64 s.s) (u1:=.slice s.A s.n s.c) (u2:=.int .i64 s.t) (u3:=.slice s.B s.m s.d) (.tail _ (.head _))
 refine hKK.out _ _ ?_
 clear hKK KK r zz
 refine ZPT ?_
 refine jac.tkF 5 rfl ?_
 refine jac.tkF 6 rfl ?_
 simp only [Act.put,List.getElem_toArray,List.getElem_cons_succ,List.getElem_cons_zero,List.setIfInBounds_toArray,List.set_cons_zero,List.set_cons_succ]
 refine ⟨by kernel_rfl,?_⟩
 generalize (((V0.setCell ⟨b1,0,none⟩ (.int .i64 s.s)).setCell ⟨b1,1,none⟩ (.slice s.A s.n s.c)).setCell ⟨b1,2,none⟩ (.int .i64 s.t)).setCell ⟨b1,3,none⟩ (.slice s.B s.m s.d)=W8 at K9 ⊢
 clear K0 hSh HS
 have K:=K9
 clear K9
 have r:=K.rawS
 go_wp2_with (first|(refine ZAL ?_;clear K r;(first|((fail_if_success revert b0);intro W b0 K r)|((fail_if_success revert b1);intro W b1 K r)|((fail_if_success revert b2);intro W b2 K r)|intro W b K r))|(refine ZST ?_;clear K r;intro W K r))
 have HX:=jpk (show CoreR w n M cs (.returned (.tuple #[.slice X1 n k1,.agg #[.int .i64 s.s,.slice s.A s.n s.c,.int .i64 s.t,.slice s.B s.m s.d],.slice X2 M k2,.int .i64 0])) _ from ⟨X1,k1,X2,k2,x,y,s,rfl,Hsa.out,K.getQ ZMB,K.getQ ZMB,Hft.out,GS.out,⟨K.rd ZMB,K.rd ZMB⟩,K.1⟩)
 clear r
 have r:=K.rawS
 exact bodyPost_ret (v:=.tuple #[.slice X1 n k1,.agg #[.int .i64 s.s,.slice s.A s.n s.c,.int .i64 s.t,.slice s.B s.m s.d],.slice X2 M k2,.int .i64 0]) (by simp [results,Tryz.results10,go_sem,r]) rfl HX.out
theorem jkT {w0 W:World} {L:List Blk} {D:List Hl} {Y Z:Rw} {f q:Rat} (K:St w0 L D W) (hY:isQ Y f) (hZ:isQ Z q) (m1:(⟨rdP Y.A Y.n Y.c Y.l,rdS Y.A Y.n⟩:Hl)∈D) (m2:(⟨rdP Y.B Y.m Y.d Y.k,rdS Y.B Y.m⟩:Hl)∈D) (m3:(⟨rdP Z.A Z.n Z.c Z.l,rdS Z.A Z.n⟩:Hl)∈D) (m4:(⟨rdP Z.B Z.m Z.d Z.k,rdS Z.B Z.m⟩:Hl)∈D) :
 Calls Tryz.prog 49 #[.agg #[.int .i64 Y.s,.slice Y.A Y.n Y.c,.int .i64 Y.t,.slice Y.B Y.m Y.d],.agg #[.int .i64 Z.s,.slice Z.A Z.n Z.c,.int .i64 Z.t,.slice Z.B Z.m Z.d]] W fun e W'=>e=.returned (.int .i64 (cmpQ f q))∧St w0 L D W':=by
 have h:=jfH Y.s Y.t Z.s Z.t Y.A Y.B Z.A Z.B Y.n Y.c Y.m Y.d Z.n Z.c Z.m Z.d Y.l Y.k Z.l Z.k W (K.rd m1) (K.rd m2) (K.rd m3) (K.rd m4)
 rw [hY.1.right hY.2,hZ.1.right hZ.2,hY.1.rat,hZ.1.rat] at h
 exact h.mono fun e W' ⟨he,hb⟩=>⟨he,K.keep hb⟩
theorem IsI.fitG {p:Int} (h:0≤p∧p≤1000000000000000):jaF ((p:Int):Rat)=true:=IsI.fit h
def jc4 (n N:Nat) (cs:List Int) (a:List Fv):Bool:=(decide (a.length=n)&&a.all fnF)&&(List.range N).all fun g=>decide (gsum g (fvR a) n≤((gi cs g:Int):Rat))
theorem jmW {n N:Nat} {cs:List Int} {a:List Fv} {g:Nat} (hg:g<N) (h:¬gsum g (fvR a) n≤((gi cs g:Int):Rat)):jc4 n N cs a=false:=by
 unfold jc4
 have:(List.range N).all (fun g=>decide (gsum g (fvR a) n≤((gi cs g:Int):Rat)))=false:=List.all_eq_false.2 ⟨g,List.mem_range.2 hg,by rw [decide_eq_false h];simp⟩
 rw [this,Bool.and_false]
theorem jee {n N:Nat} {cs:List Int} {a:List Fv} (hl:(decide (a.length=n)&&a.all fnF)=true) (h:∀g,g<N→gsum g (fvR a) n≤((gi cs g:Int):Rat)):jc4 n N cs a=true:=by
 unfold jc4
 rw [hl,Bool.true_and]
 exact List.all_eq_true.2 fun g hg=>decide_eq_true (h g (List.mem_range.1 hg))
theorem jdA (n N cc:Nat) (C:Option Addr) (cs:List Int) (X:Option Addr) (nx cx:Nat) (a:List Fv) (w:World) (hc:RdI w w.heap.size C N cc cs) (hN:N=2 ^ n) (hn:n≤5) (hb:∀i,0≤gi cs i∧gi cs i≤1000000000000000)
 (hx:RdF w w.heap.size X nx cx a) (hf:(decide (a.length=n)&&a.all fnF)=true→∀g k,k<n→addK (gsum g (fvR a) k) (fvR a k)=true) :
 Calls Tryz.prog 20 #[.agg #[.int .i64 (n:Int),.slice C N cc],.slice X nx cx] w fun e w'=>e=.returned (.bool (jc4 n N cs a))∧Below w.heap.size w w':=by
 have hcap:=hc.caps
 have hcx:=hx.caps
 have hlx:=hx.len
 have HLe:=jpk (fun W (h:Below w.heap.size w W)=>jhw X nx cx n a W (hx.up jan h))
 have HL:=jpk hc
 have HBd:=jpk hb
 have K:=St.start w
 have r:=K.raw
 cases hl:(decide (a.length=n)&&a.all fnF)
 ·have e:jc4 n N cs a=false:=by unfold jc4;rw [hl,Bool.false_and]
  rw [e]
  rw [hl] at HLe
  clear e hl hf hx hc hb
  go_enter Tryz.func20,Tryz.ntmps20
  go_wp2_with (first|(apply K.box;rfl;rfl;rfl;clear K r;intro W b0 K;have r:=K.rawS)|(go_at_call 46;refine (HLe.out _ K.1).mono ?_;rintro e W' ⟨rfl,hb⟩;replace K:=K.keep hb;clear hb r;have r:=K.rawS))
  go_ret
  exact ⟨rfl,K.1⟩
 have hlen:a.length=n:=of_decide_eq_true (Bool.and_eq_true .. ▸ hl:_∧_).1
 obtain rfl:nx=n:=by omega
 have hok:=je8 (Bool.and_eq_true .. ▸ hl:_∧_).2
 have HSm:=jpk (fun g W (h:Below w.heap.size w W) (hg:g<N)=>jmR X nx cx g a W (hx.up jan h) hn ZO hok (fun k hk=>hf hl g k hk))
 have HNo:=jpk (fun g (hg:g<N) h=>jmW (n:=nx) (cs:=cs) (a:=a) hg h)
 have HYes:=jpk (fun h=>jee (N:=N) (cs:=cs) hl h)
 have HNu:=jpk (fun g (V:World) L5 D5 (h:St w L5 D5 V)=>jdV (gi cs g) (by have:=hb g;omega) (IsI.fitG (hb g)) h)
 generalize jc4 nx N cs a=R at *
 have hN32:N≤32:=by rw [hN];exact Nat.pow_le_pow_right Zb4 hn
 obtain ⟨x,hxe⟩:∃x,x=fvR a:=⟨_,rfl⟩
 rw [←hxe] at HSm HNo HYes
 rw [hl] at HLe
 clear hl hf hx hc hb hlen hok hlx hN hxe
 go_enter Tryz.func20,Tryz.ntmps20
 go_wp2_with (first|(apply K.box;rfl;rfl;rfl;clear K r;intro W b0 K;have r:=K.rawS)|(go_at_call 46;refine (HLe.out _ K.1).mono ?_;rintro e W' ⟨rfl,hb⟩;replace K:=K.keep hb;clear hb r;have r:=K.rawS))
 have K2:St w [(b0,#[.int .i64 (nx:Int),.slice C N cc],24)] [] _:=K
 clear r K
 go_loopg [5] N (fun gk s5 wr=>∃k:Nat,k≤N∧gk=N-k∧s5=.int .i64 k∧Hid (∀j,j<k→gsum j x nx≤((gi cs j:Int):Rat))∧St w [(b0,#[.int .i64 (nx:Int),.slice C N cc],24)] [] wr)
 case atStart=>exact ⟨0,Nat.zero_le _,rfl,rfl,jpk (fun j h=>absurd h ZO),K2⟩
 case round =>
  clear K2
  obtain ⟨k,hk,rfl,rfl,HA,K⟩:=hrel
  have r:=K.rawS
  by_cases hlt:k<N
  ·have hki:(k:Int)<(N:Int):=by omega
   have hk0:(0:Int)≤(k:Int):=by omega
   have hltd:decide (k<N)=true:=decide_eq_true hlt
   obtain ⟨vb,vo,hA,hvb,hcc⟩:=RdI.cellAt HL.out hlt
   subst hA
   have HNo2:=jpk (HNo.out k hlt)
   have HSk:=jpk (fun W h=>HSm.out k W h hlt)
   have HNk:=jpk (fun V L5 D5 h=>HNu.out k V L5 D5 h)
   go_upto_region 7 with (first
    | (first | (refine ZAL ?_;clear K r;(first | ((fail_if_success revert b0);intro W b0 K r) | ((fail_if_success revert b1);intro W b1 K r) | intro W b K r)) | (refine ZST ?_;clear K r;intro W K r))
    | (go_at_call 13;refine (HSk.out _ K.1).mono ?_;rintro e W5 ⟨z,rfl,gz,⟨hza,hzb⟩,⟨hfa,hfb⟩,hb⟩;replace K:=K.retF hb hza hzb hfa hfb;clear hza hzb hfa hfb hb r;have r:=K.rawS))
   have GZ:=jpk gz
   have HS:=jpk (fun V L5 D5 (h:St w L5 D5 V) (m4:((b1,#[.int .i64 z.s,.slice z.A z.n z.c,.int .i64 z.t,.slice z.B z.m z.d],29):Blk)∈L5) (m5:((b0,#[.int .i64 (nx:Int),.slice (some ⟨vb,vo,none⟩) N cc],24):Blk)∈L5)=>(show (V.cell? ⟨b1,0,none⟩=some (.int .i64 z.s)∧V.cell? ⟨b1,1,none⟩=some (.slice z.A z.n z.c)∧V.cell? ⟨b1,2,none⟩=some (.int .i64 z.t)∧V.cell? ⟨b1,3,none⟩=some (.slice z.B z.m z.d))∧V.cell? ⟨b0,1,none⟩=some (.slice (some ⟨vb,vo,none⟩) N cc)∧V.cell? ⟨vb,vo+k,none⟩=some (.int .i64 (gi cs k)) from ⟨⟨(h.blk m4).cell (j:=0) rfl,(h.blk m4).cell (j:=1) rfl,(h.blk m4).cell (j:=2) rfl,(h.blk m4).cell (j:=3) rfl⟩,(h.blk m5).cell (j:=1) rfl,(h.1.cell (p:=⟨vb,vo+k,none⟩) hvb).trans hcc⟩))
   have K0:=K.drew
   have s0:=HS.out _ _ _ K0 ZMB ZMB
   clear K r gz
   refine jak 100 (fun V=>(V.cell? ⟨b1,0,none⟩=some (.int .i64 z.s)∧V.cell? ⟨b1,1,none⟩=some (.slice z.A z.n z.c)∧V.cell? ⟨b1,2,none⟩=some (.int .i64 z.t)∧V.cell? ⟨b1,3,none⟩=some (.slice z.B z.m z.d))∧V.cell? ⟨b0,1,none⟩=some (.slice (some ⟨vb,vo,none⟩) N cc)∧V.cell? ⟨vb,vo+k,none⟩=some (.int .i64 (gi cs k))) Zb9 s0 (fun hSh=>?_)
   clear s0
   generalize World.drew _=V0 at K0 hSh ⊢
   refine jaa.tkB 0 rfl ?_
   refine jaa.tkB 1 rfl ?_
   refine jaa.tkB 2 rfl ?_
   refine jaa.tkB 3 rfl ?_
   refine jaa.tkB 4 rfl ?_
   refine jaa.tkB 5 rfl ?_
   refine jaa.tkB 6 rfl ?_
   refine jaa.tkB 7 rfl ?_
   refine jaa.tkB 8 rfl ?_
   refine jaa.onW 9 rfl fun KK hKK=>?_
   go_simp
   go_at_call 22
   refine (HNk.out _ _ _ K0).mono ?_
   rintro e V1 ⟨t,rfl,gt,k1⟩
   clear K0
   go_wp2_with fail
   refine hKK.out _ _ (HS.out _ _ _ k1 ZMB ZMB) (fun hSq=>?_)
   have hSh:=HS.out _ _ _ k1 ZMB ZMB
   clear hKK KK hSq
   refine ZPT ?_
   refine jaa.onW 10 rfl fun KK hKK=>?_
   go_simp
   go_at_call 49
   refine (jkT k1 GZ.out gt.out.1 ZMB ZMB ZMB ZMB).mono ?_
   rintro e V2 ⟨rfl,k2⟩
   clear k1
   have HC:=jpk (jcm (x:=gsum k x nx) (y:=((gi cs k:Int):Rat)))
   generalize hcq:cmpQ (gsum k x nx) ((gi cs k:Int):Rat)=cq at HC ⊢
   clear hcq GZ gt
   go_wp2_with fail
   refine hKK.out _ _ (HS.out _ _ _ k2 ZMB ZMB) (fun hSq=>?_)
   have hSh:=HS.out _ _ _ k2 ZMB ZMB
   clear hKK KK hSq
   refine ZPT ?_
   refine jaa.tkB 11 rfl ?_
   refine jaa.tkB 12 rfl ?_
   refine jaa.done Zb9 ?_
   have K:=k2
   clear k2 hSh HS
   have r:=K.rawS
   by_cases hgt:cq>0
   ·have hgd:decide (cq>0)=true:=decide_eq_true hgt
    have hgd2:decide (0<cq)=true:=decide_eq_true hgt
    have HR:=jpk (HNo2.out fun h=>absurd (HC.out.2 h) ZO)
    clear HNo HYes HNo2 HC HA
    exact ZQ75
   ·have hgd:decide (cq>0)=false:=decide_eq_false hgt
    have hgd2:decide (0<cq)=false:=decide_eq_false hgt
    have HA2:=jpk (show ∀j,j<k+1→gsum j x nx≤((gi cs j:Int):Rat) from fun j hj=>by
     by_cases e:j=k
     ·rw [e]
      exact HC.out.1 ZO
     ·exact HA.out j ZO)
    clear HC HA HNo2
    go_wp2_with (first|(refine ZAL ?_;clear K r;(first|((fail_if_success revert b0);intro W b0 K r)|((fail_if_success revert b1);intro W b1 K r)|intro W b K r))|(refine ZST ?_;clear K r;intro W K r))
    go_roundg (N-(k+1))
    case rel=>exact ⟨k+1,hlt,rfl,by go_num,HA2,(K.less (fun _ h=>by cases h)).part Zb10⟩
    case measure=>omega
  ·have e:N=k:=by omega
   subst e
   have hltd:decide (N<N)=false:=decide_eq_false hlt
   have HR:=jpk (HYes.out HA.out)
   clear HNo HYes HA hlt
   exact ZQ75
theorem jm8 {rd:Int} {nc:Nat} {cs:List Int} (h3:rd≤3) (hl:cs.length=nc) (h:jfJ rd cs=true):∃n M,rd=((n:Nat):Int)∧nc=M+1∧Gok n cs∧M+1=2 ^ n:=by
 unfold jfJ at h
 rw [Bool.and_eq_true,Bool.and_eq_true,Bool.and_eq_true,decide_eq_true_eq,decide_eq_true_eq,decide_eq_true_eq] at h
 obtain ⟨⟨h0,h1⟩,h2,h4⟩:=h
 obtain ⟨n,rfl⟩:∃n:Nat,rd=((n:Nat):Int):=⟨rd.toNat,by omega⟩
 have h5:cs.length=2 ^ n:=by
  have:((n:Nat):Int).toNat=n:=by omega
  rw [this] at h1
  exact_mod_cast h1
 have h6:=(jbA n ZO).2
 refine ⟨n,nc-1,rfl,by omega,⟨by omega,h5,h2,fun i=>?_⟩,by omega⟩
 by_cases hi:i<cs.length
 ·have h7:=List.all_eq_true.1 h4 _ (List.getElem_mem hi)
  unfold okM at h7
  rw [Bool.and_eq_true,decide_eq_true_eq,decide_eq_true_eq] at h7
  unfold gi
  rw [List.getD_eq_getElem?_getD,List.getElem?_eq_getElem hi,Option.getD_some]
  exact h7
 ·unfold gi
  rw [List.getD_eq_getElem?_getD,List.getElem?_eq_none ZO,Option.getD_none]
  exact ⟨Int.le_refl 0,by decide⟩
theorem jnF (rd:Int) (C:Option Addr) (nc cc:Nat) (w:World) (HG:Hid (∀W,Below w.heap.size w W→Calls Tryz.prog 16 #[.agg #[.int .i64 rd,.slice C nc cc]] W fun e w'=>e=.returned (.bool false)∧Below W.heap.size W w')) :
 Calls Tryz.prog 10 #[.agg #[.int .i64 rd,.slice C nc cc]] w fun e w'=>e=.returned (.tuple #[.slice none 0 0,.agg #[.int .i64 0,.slice none 0 0,.int .i64 0,.slice none 0 0],.slice none 0 0,.int .i64 1])∧Below w.heap.size w w':=by
 have K:=St.start w
 have r:=K.raw
 go_enter Tryz.func10,Tryz.ntmps10
 go_wp2_with (first|(apply K.box;rfl;rfl;rfl;clear K r;intro W b0 K;have r:=K.rawS)|(first|(refine ZAL ?_;clear K r;(first|((fail_if_success revert b0);intro W b0 K r)|((fail_if_success revert b1);intro W b1 K r)|((fail_if_success revert b2);intro W b2 K r)|((fail_if_success revert b3);intro W b3 K r)|((fail_if_success revert b4);intro W b4 K r)|intro W b K r))|(refine ZST ?_;clear K r;intro W K r))|(go_at_call 16;refine (HG.out _ K.1).mono ?_;rintro e W' ⟨rfl,hb⟩;replace K:=K.keep hb;clear hb r;have r:=K.rawS))
 exact bodyPost_ret (v:=.tuple #[.slice none 0 0,.agg #[.int .i64 0,.slice none 0 0,.int .i64 0,.slice none 0 0],.slice none 0 0,.int .i64 1]) (by simp [results,Tryz.results10,go_sem,r]) rfl ⟨rfl,K.1⟩
theorem jhY {w0 W:World} {L:List Blk} {D:List Hl} {Y Z:Rw} {q:Rat} (K:St w0 L D W) (hY:isQ Y q) (hZ:isQ Z q) (m1:(⟨rdP Y.A Y.n Y.c Y.l,rdS Y.A Y.n⟩:Hl)∈D) (m2:(⟨rdP Y.B Y.m Y.d Y.k,rdS Y.B Y.m⟩:Hl)∈D) (m3:(⟨rdP Z.A Z.n Z.c Z.l,rdS Z.A Z.n⟩:Hl)∈D) (m4:(⟨rdP Z.B Z.m Z.d Z.k,rdS Z.B Z.m⟩:Hl)∈D) :
 Calls Tryz.prog 15 #[.agg #[.int .i64 Y.s,.slice Y.A Y.n Y.c,.int .i64 Y.t,.slice Y.B Y.m Y.d],.agg #[.int .i64 Z.s,.slice Z.A Z.n Z.c,.int .i64 Z.t,.slice Z.B Z.m Z.d]] W fun e W'=>e=.returned (.bool true)∧St w0 L D W':=by
 have h:=jd2 Y.s Y.t Z.s Z.t Y.A Y.B Z.A Z.B Y.n Y.c Y.m Y.d Z.n Z.c Z.m Z.d Y.l Y.k Z.l Z.k W (K.rd m1) (K.rd m2) (K.rd m3) (K.rd m4)
 have e0:jhz Y.s Y.l Y.t Y.k Z.s Z.l Z.t Z.k=true:=by
  have e1:=jgb Y.fv Z.fv
  rw [hY.fv,hZ.fv,decide_eq_true rfl] at e1
  have e2:=hY.fv
  have e3:=hZ.fv
  unfold fvQ at e1 e2 e3
  injection e2 with a1 a2 a3 a4
  injection e3 with b1 b2 b3 b4
  rw [a1,a2,a3,a4,b1,b2,b3,b4]
  exact e1
 rw [e0] at h
 exact h.mono fun e W' ⟨he,hb⟩=>⟨he,K.keep hb⟩
theorem jjF {n:Nat} {x:Nat→Rat} (hn:n≤20) (h:∀i,i<n→Pt 1 (x i)) (g:Nat):∀k,k≤n→Pt (2*k+1) (gsum g x k)
 | 0,_=>by
  unfold gsum
  rw [smQ]
  exact Pt.zero
 | k+1,hk=>by
  have h1:=jjF hn h g k ZO
  by_cases hb:bitI g k=1
  ·rw [jgg hb]
   exact (h1.add (h k hk) ZO).2
  ·rw [jfc hb]
   exact h1.mono ZO
theorem jgV {n:Nat} {o:List Fv} (hn:n≤5) (hf:jfE 5 1 o=true) (hl:(decide (o.length=n)&&o.all fnF)=true):∀g k,k<n→addK (gsum g (fvR o) k) (fvR o k)=true:=fun g k hk=>by
 rw [Bool.and_eq_true,decide_eq_true_eq] at hl
 have h1:∀i,i<n→Pt 1 (fvR o i):=fvR_pt (fun x hx=>by
  unfold jfE at hf
  rw [Bool.and_eq_true] at hf
  exact List.all_eq_true.1 hf.2 x hx) (je8 hl.2) hl.1
 exact ((jjF ZO h1 g k ZO).add (h1 k hk) ZO).1
theorem jmX {n M:Nat} {cs:List Int} {x y:Nat→Rat} (hk:Gok n cs) (hN:M+1=2 ^ n) (hE:jb7 n cs x y) (hft:∀i,i<n→jaF (x i)=true):jc4 n (M+1) cs (ofF n fun i=>fvQ (x i))=true:=by
 have hs:=hE.stab hk
 refine jee (by rw [jag,decide_eq_true rfl,jdH hs.1 hft];rfl) fun g hg=>?_
 have e:gsum g (fvR (ofF n fun i=>fvQ (x i))) n=gsum g x n:=jaj fun l hl=>by rw [jcq (f:=x) l hl]
 rw [e]
 exact hs.2 g ZO
theorem jpg {n M:Nat} {cs:List Int} {o:List Fv} (hN:M+1=2 ^ n) (h:jc4 n (M+1) cs o=true):Stab n cs (fvR o)∧o.length=n∧o.all Fv.ok=true:=by
 unfold jc4 at h
 rw [Bool.and_eq_true,Bool.and_eq_true,decide_eq_true_eq] at h
 refine ⟨⟨fun u hu=>(jnL h.1.2 u ZO).1,fun g hg=>?_⟩,h.1.1,je8 h.1.2⟩
 exact of_decide_eq_true (List.all_eq_true.1 h.2 g (List.mem_range.2 ZO))
end Go.Proofs.YtgikfcjndiohjaaGreat
