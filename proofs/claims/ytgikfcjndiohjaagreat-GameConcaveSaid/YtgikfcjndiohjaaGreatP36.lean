/- Laws and walks; conditions stand in each theorem. -/
import Derived.Test.YtgikfcjndiohjaaGreatP35
set_option linter.unusedSimpArgs false
set_option linter.unusedVariables false
set_option maxHeartbeats 8000000
set_option maxRecDepth 100000
namespace Go.Proofs.YtgikfcjndiohjaaGreat
open Go.RowKit
theorem jh1 (q:Rat):cmpQ q q=0:=by
 have h1:=jcm.2 (Rat.le_refl (a:=q))
 unfold cmpQ at *
 simp
theorem jgC {n M:Nat} {cs:List Int} (hk:Gok n cs) (hN:M+1=2 ^ n) (X Y:Option Addr) (nx cx ny cy:Nat) (a b:List Fv) (A1 A2:Option Addr) (c1 c2:Nat) (W:World) (h1:RdF W W.heap.size A1 n c1 (gmL n)) (h2:RdR W W.heap.size A2 M c2 (gmR n M cs)) (hx:RdF W W.heap.size X nx cx a) (hy:RdF W W.heap.size Y ny cy b) :
 Calls Tryz.prog 44 #[.agg #[.slice A1 n c1,.slice A2 M c2],.slice X nx cx,.slice Y ny cy,.int .i64 0] W fun e w'=>e=.returned (.bool (chkO n M (gmL n) (gmR n M cs) a b))∧Below W.heap.size W w':=by
 have hp:=jbA n (by have:=hk.hn;omega)
 have hn3:=hk.hn
 rw [←hN,Nat.add_sub_cancel] at hp
 exact jhZ A1 A2 X Y n c1 M c2 nx cx ny cy (gmL n) (gmR n M cs) a b 0 W h1 h2 hx hy ZO ZO (gm_ok n _ cs hk.bd)
theorem jjA (n M cc:Nat) (C:Option Addr) (cs:List Int) (X Y:Option Addr) (cx ny cy:Nat) (a b:List Fv) (s:Rw) (q:Rat) (w:World) (hc:RdI w w.heap.size C (M+1) cc cs) (hk:Gok n cs) (hN:M+1=2 ^ n) (HG:Hid (∀W,Below w.heap.size w W→Calls Tryz.prog 16 #[.agg #[.int .i64 (n:Int),.slice C (M+1:Nat) cc]] W fun e w'=>e=.returned (.bool true)∧Below W.heap.size W w'))
 (hx:RdF w w.heap.size X n cx a) (hy:RdF w w.heap.size Y ny cy b) (hs1:RdI w w.heap.size s.A s.n s.c s.l) (hs2:RdI w w.heap.size s.B s.m s.d s.k) (hs:isQ s q) (hno:chkO n M (gmL n) (gmR n M cs) a b=false) :
 Calls Tryz.prog 18 #[.agg #[.int .i64 (n:Int),.slice C (M+1:Nat) cc],.slice X n cx,.agg #[.int .i64 s.s,.slice s.A s.n s.c,.int .i64 s.t,.slice s.B s.m s.d],.slice Y ny cy] w fun e w'=>e=.returned (.int .i64 23)∧Below w.heap.size w w':=by
 have hcap:=hc.caps
 have hcx:=hx.caps
 have hcy:=hy.caps
 have hp:=jbA n (by have:=hk.hn;omega)
 rw [←hN,Nat.add_sub_cancel] at hp
 have hn3:=hk.hn
 have HP:=jpk (fun W (h:Below w.heap.size w W)=>(jd1 n (M+1) cc C cs W (hc.up (jab _) h) ZO ZO hk.bd:Calls _ _ _ W fun e w'=>∃A1 c1 A2 c2,e=.returned (.agg #[.slice A1 n c1,.slice A2 M c2])∧RdF w' w'.heap.size A1 n c1 (gmL n)∧RdR w' w'.heap.size A2 M c2 (gmR n M cs)∧Below W.heap.size W w'))
 have HW:=jpk (fun W (h:Below w.heap.size w W)=>(show Calls Tryz.prog 37 #[.agg #[.int .i64 s.s,.slice s.A s.n s.c,.int .i64 s.t,.slice s.B s.m s.d]] W fun e w'=>e=.returned (.bool false)∧Below W.heap.size W w' from by
  exact ZQ115))
 have HCk:=jpk (fun A1 A2 c1 c2 W (h:Below w.heap.size w W) h1 h2=>jgC hk hN X Y n cx ny cy a b A1 A2 c1 c2 W h1 h2 (hx.up jan h) (hy.up jan h))
 rw [hno] at HCk
 clear hc hk hN hx hy hs1 hs2 hs hno
 have K:=St.start w
 have r:=K.raw
 go_enter Tryz.func18,Tryz.ntmps18
 go_wp2_with (first
 | (apply K.box;rfl;rfl;rfl;clear K r;(first | ((fail_if_success revert b0);intro W b0 K) | intro W b1 K);have r:=K.rawS)
 | (first | (refine ZAL ?_;clear K r;(first | ((fail_if_success revert b0);intro W b0 K r) | ((fail_if_success revert b1);intro W b1 K r) | ((fail_if_success revert b2);intro W b2 K r) | intro W b K r)) | (refine ZST ?_;clear K r;intro W K r))
 | (go_at_call 16;refine (HG.out _ K.1).mono ?_;rintro e W' ⟨rfl,hb⟩;replace K:=K.keep hb;clear hb r;have r:=K.rawS)
 | (go_at_call 37;refine (HW.out _ K.1).mono ?_;rintro e W' ⟨rfl,hb⟩;replace K:=K.keep hb;clear hb r;have r:=K.rawS)
 | (go_at_call 30;refine (HP.out _ K.1).mono ?_;rintro e W' ⟨A1,c1,A2,c2,rfl,hr1,hr2,hb⟩;replace K:=K.keep hb;clear hb r;have r:=K.rawS)
 | (go_at_call 44;refine (HCk.out _ _ _ _ _ K.1 hr1 hr2).mono ?_;clear hr1 hr2;rintro e W' ⟨rfl,hb⟩;replace K:=K.keep hb;clear hb r;have r:=K.rawS))
 go_ret
 exact ⟨rfl,K.1⟩
theorem jex (n M cc:Nat) (C:Option Addr) (cs:List Int) (X Y:Option Addr) (cx cy:Nat) (x y:Nat→Rat) (s:Rw) (w:World) (hc:RdI w w.heap.size C (M+1) cc cs) (hk:Gok n cs) (hN:M+1=2 ^ n) (HG:Hid (∀W,Below w.heap.size w W→Calls Tryz.prog 16 #[.agg #[.int .i64 (n:Int),.slice C (M+1:Nat) cc]] W fun e w'=>e=.returned (.bool true)∧Below W.heap.size W w'))
 (hx:RdF w w.heap.size X n cx (ofF n fun i=>fvQ (x i))) (hy:RdF w w.heap.size Y M cy (ofF M fun i=>fvQ (y i))) (hs1:RdI w w.heap.size s.A s.n s.c s.l) (hs2:RdI w w.heap.size s.B s.m s.d s.k) (hs:isQ s (((gi cs M:Int):Rat)-smQ x n)) (hE:jb7 n cs x y) (hft:(∀i,i<n→jaF (x i)=true)∧∀i,i<M→jaF (y i)=true) :
 Calls Tryz.prog 18 #[.agg #[.int .i64 (n:Int),.slice C (M+1:Nat) cc],.slice X n cx,.agg #[.int .i64 s.s,.slice s.A s.n s.c,.int .i64 s.t,.slice s.B s.m s.d],.slice Y M cy] w fun e w'=>e=.returned (.int .i64 0)∧Below w.heap.size w w':=by
 have hcap:=hc.caps
 have hcx:=hx.caps
 have hcy:=hy.caps
 have hp:=jbA n (by have:=hk.hn;omega)
 rw [←hN,Nat.add_sub_cancel] at hp
 have hn3:=hk.hn
 have HP:=jpk (fun W (h:Below w.heap.size w W)=>(jd1 n (M+1) cc C cs W (hc.up (jab _) h) ZO ZO hk.bd:Calls _ _ _ W fun e w'=>∃A1 c1 A2 c2,e=.returned (.agg #[.slice A1 n c1,.slice A2 M c2])∧RdF w' w'.heap.size A1 n c1 (gmL n)∧RdR w' w'.heap.size A2 M c2 (gmR n M cs)∧Below W.heap.size W w'))
 have HW:=jpk (fun W (h:Below w.heap.size w W)=>(show Calls Tryz.prog 37 #[.agg #[.int .i64 s.s,.slice s.A s.n s.c,.int .i64 s.t,.slice s.B s.m s.d]] W fun e w'=>e=.returned (.bool false)∧Below W.heap.size W w' from by
  have h9:=jds s.s s.t s.A s.B s.n s.c s.m s.d s.l s.k W (hs1.up (jab _) h) (hs2.up (jab _) h)
  rw [hs.1.right hs.2] at h9
  exact h9))
 have HCk:=jpk (fun A1 A2 c1 c2 W (h:Below w.heap.size w W) h1 h2=>jgC hk hN X Y n cx M cy (ofF n fun i=>fvQ (x i)) (ofF M fun i=>fvQ (y i)) A1 A2 c1 c2 W h1 h2 (hx.up jan h) (hy.up jan h))
 have hyes:chkO n M (gmL n) (gmR n M cs) (ofF n fun i=>fvQ (x i)) (ofF M fun i=>fvQ (y i))=true:=by
  obtain rfl:M=2 ^ n-1:=by omega
  exact hk.gm.chk hE hft.1 hft.2
 rw [hyes] at HCk
 have HSm:=jpk (fun W (h:Below w.heap.size w W)=>jeY hk hN hE hft.1 X cx W (hx.up jan h))
 have HAd:=jpk (jgG hk hN hE)
 have HNu:=jpk (fun (V:World) L5 D5 (h:St w L5 D5 V)=>jdn (gi cs M) (by have:=hk.bd M;omega) (IsI.fit (hk.bd M)) h)
 obtain ⟨vb,vo,hA,hvb,hcc⟩:=RdI.cellAt hc (k:=M) ZO
 have K:=((St.start w).rdOld hs1).rdOld hs2
 have HS:=jpk hs
 subst hA
 clear hc hk hN hx hy hs1 hs2 hs hyes hE hft
 have hM8:(M:Int)≤8:=by omega
 have hw:IntKind.i64.wrap (M:Int)=(M:Int):=IntWalk.i64_in _ ZO
 have hM0:(M:Int)<(M:Int)+1:=by omega
 have hM1:(0:Int)≤(M:Int):=by omega
 have r:=K.raw
 go_enter Tryz.func18,Tryz.ntmps18
 go_wp2_with (first
 | (apply K.box;rfl;rfl;rfl;clear K r;(first | ((fail_if_success revert b0);intro W b0 K) | intro W b1 K);have r:=K.rawS)
 | (first | (refine ZAL ?_;clear K r;(first | ((fail_if_success revert b0);intro W b0 K r) | ((fail_if_success revert b1);intro W b1 K r) | ((fail_if_success revert b2);intro W b2 K r) | intro W b K r)) | (refine ZST ?_;clear K r;intro W K r))
 | (go_at_call 16;refine (HG.out _ K.1).mono ?_;rintro e W' ⟨rfl,hb⟩;replace K:=K.keep hb;clear hb r;have r:=K.rawS)
 | (go_at_call 37;refine (HW.out _ K.1).mono ?_;rintro e W' ⟨rfl,hb⟩;replace K:=K.keep hb;clear hb r;have r:=K.rawS)
 | (go_at_call 30;refine (HP.out _ K.1).mono ?_;rintro e W' ⟨A1,c1,A2,c2,rfl,hr1,hr2,hb⟩;replace K:=K.keep hb;clear hb r;have r:=K.rawS)
 | (go_at_call 44;refine (HCk.out _ _ _ _ _ K.1 hr1 hr2).mono ?_;clear hr1 hr2;rintro e W' ⟨rfl,hb⟩;replace K:=K.keep hb;clear hb r;have r:=K.rawS))
 refine (HSm.out _ K.1).mono ?_
 rintro e W5 ⟨z,rfl,gz,⟨hza,hzb⟩,⟨hfa,hfb⟩,hb⟩
 replace K:=K.retF hb hza hzb hfa hfb
 clear hza hzb hfa hfb hb HSm r HG HP HW HCk
 have r:=K.rawS
 have q2:=(K.1.cell (p:=⟨vb,vo+M,none⟩) hvb).trans hcc
 go_upto_region 8 with (first|(refine ZAL ?_;clear K r;(first|((fail_if_success revert b0);intro W b0 K r)|((fail_if_success revert b1);intro W b1 K r)|((fail_if_success revert b2);intro W b2 K r)|intro W b K r))|(refine ZST ?_;clear K r;intro W K r))
 have HS2:=jpk (fun V L5 D5 (h:St w L5 D5 V) (m4:((b2,#[.int .i64 z.s,.slice z.A z.n z.c,.int .i64 z.t,.slice z.B z.m z.d],29):Blk)∈L5) (m5:((b0,#[.int .i64 (n:Int),.slice (some ⟨vb,vo,none⟩) (M+1:Nat) cc],24):Blk)∈L5)=>(show (V.cell? ⟨b2,0,none⟩=some (.int .i64 z.s)∧V.cell? ⟨b2,1,none⟩=some (.slice z.A z.n z.c)∧V.cell? ⟨b2,2,none⟩=some (.int .i64 z.t)∧V.cell? ⟨b2,3,none⟩=some (.slice z.B z.m z.d))∧V.cell? ⟨b0,1,none⟩=some (.slice (some ⟨vb,vo,none⟩) (M+1:Nat) cc)∧V.cell? ⟨vb,vo+M,none⟩=some (.int .i64 (gi cs M)) from ⟨⟨(h.blk m4).cell (j:=0) rfl,(h.blk m4).cell (j:=1) rfl,(h.blk m4).cell (j:=2) rfl,(h.blk m4).cell (j:=3) rfl⟩,(h.blk m5).cell (j:=1) rfl,(h.1.cell (p:=⟨vb,vo+M,none⟩) hvb).trans hcc⟩))
 have K0:=K.drew
 have s0:=HS2.out _ _ _ K0 ZMB ZMB
 clear K r q2
 refine jbp 15 (fun V=>(V.cell? ⟨b2,0,none⟩=some (.int .i64 z.s)∧V.cell? ⟨b2,1,none⟩=some (.slice z.A z.n z.c)∧V.cell? ⟨b2,2,none⟩=some (.int .i64 z.t)∧V.cell? ⟨b2,3,none⟩=some (.slice z.B z.m z.d))∧V.cell? ⟨b0,1,none⟩=some (.slice (some ⟨vb,vo,none⟩) (M+1:Nat) cc)∧V.cell? ⟨vb,vo+M,none⟩=some (.int .i64 (gi cs M))) Zb9 s0 (fun hSh=>?_)
 clear s0
 generalize World.drew _=V0 at K0 hSh ⊢
 refine jac.tkU 0 rfl ?_
 refine jac.tk 1 rfl ?_
 refine jac.tkU 2 rfl ?_
 refine jac.tk 3 rfl ?_
 refine jac.tkU 4 rfl ?_
 refine jac.tkU 5 rfl ?_
 refine jac.tkU 6 rfl ?_
 refine jac.tk 7 rfl ?_
 refine jac.tk 9 rfl ?_
 refine jac.two (i:=8) (j:=14) rfl rfl rfl rfl Zb9 (fun KK hKK=>?_) (fun KK hKK=>?_)
 focus
  go_simp
  go_at_call 32
  refine (HNu.out _ _ _ K0).mono ?_
  rintro e V1 ⟨t,rfl,gt,k1⟩
  go_wp2_with fail
  refine hKK.out _ _ (fun _=>HS2.out _ _ _ k1 ZMB ZMB) (fun hSq=>?_)
  have hSh:=HS2.out _ _ _ k1 ZMB ZMB
  clear hKK KK hSq
  refine ZPT ?_
  refine jac.two (i:=10) (j:=14) rfl rfl rfl rfl Zb9 (fun KK hKK=>?_) (fun KK hKK=>?_)
  focus
   go_simp
   go_at_call 31
   refine (jcY k1 gt.out.1 gz.out ZMB ZMB ZMB ZMB).mono ?_
   rintro e V2 ⟨y2,er,rfl,gs,k2⟩
   have h0:er=0:=by
    have h1:=gs.out.2
    rw [HAd.out] at h1
    simpa using h1
   subst h0
   go_wp2_with fail
   refine hKK.out _ _ (fun _=>HS2.out _ _ _ k2 ZMB ZMB) (fun hSq=>?_)
   have hSh:=HS2.out _ _ _ k2 ZMB ZMB
   clear hKK KK hSq
   refine ZPT ?_
   refine jac.tkU 11 rfl ?_
   refine jac.tkU 12 rfl ?_
   refine jac.tkU 13 rfl ?_
   refine jac.on 14 rfl fun KK hKK=>?_
   go_simp
   have k3:=k2.new #[.int .i64 0,.slice none 0 0,.int .i64 0,.slice none 0 0] 29
   generalize V2.alloc (.cells #[.int .i64 0,.slice none 0 0,.int .i64 0,.slice none 0 0] 29)=V3 at k3 ⊢
   generalize V2.heap.size=g2 at k3 ⊢
   refine hKK.out _ _ (fun _=>HS2.out _ _ _ k3 ZMB ZMB) (fun hSq=>?_)
   have hSh:=HS2.out _ _ _ k3 ZMB ZMB
   clear hKK KK hSq
   refine ZPT ?_
  rotate_right
  focus
   go_simp
   have k2:=k1.new #[.int .i64 0,.slice none 0 0,.int .i64 0,.slice none 0 0] 29
   generalize V1.alloc (.cells #[.int .i64 0,.slice none 0 0,.int .i64 0,.slice none 0 0] 29)=V2 at k2 ⊢
   generalize V1.heap.size=g2 at k2 ⊢
   refine hKK.out _ _ (fun _=>HS2.out _ _ _ k2 ZMB ZMB) (fun hSq=>?_)
   have hSh:=HS2.out _ _ _ k2 ZMB ZMB
   clear hKK KK hSq
   refine ZPT ?_
   refine jac.on 10 rfl fun KK hKK=>?_
   go_simp
   go_at_call 31
   refine (jcY k2 gt.out.1 gz.out ZMB ZMB ZMB ZMB).mono ?_
   rintro e V3 ⟨y2,er,rfl,gs,k3⟩
   have h0:er=0:=by
    have h1:=gs.out.2
    rw [HAd.out] at h1
    simpa using h1
   subst h0
   go_wp2_with fail
   refine hKK.out _ _ (fun _=>HS2.out _ _ _ k3 ZMB ZMB) (fun hSq=>?_)
   have hSh:=HS2.out _ _ _ k3 ZMB ZMB
   clear hKK KK hSq
   refine ZPT ?_
   refine jac.tkU 11 rfl ?_
   refine jac.tkU 12 rfl ?_
   refine jac.tkU 13 rfl ?_
 rotate_right
 focus
  go_simp
  have k1:=K0.new #[.int .i64 0,.slice none 0 0,.int .i64 0,.slice none 0 0] 29
  generalize V0.alloc (.cells #[.int .i64 0,.slice none 0 0,.int .i64 0,.slice none 0 0] 29)=V1 at k1 ⊢
  generalize V0.heap.size=g2 at k1 ⊢
  refine hKK.out _ _ (fun _=>HS2.out _ _ _ k1 ZMB ZMB) (fun hSq=>?_)
  have hSh:=HS2.out _ _ _ k1 ZMB ZMB
  clear hKK KK hSq
  refine ZPT ?_
  refine jac.on 8 rfl fun KK hKK=>?_
  go_simp
  go_at_call 32
  refine (HNu.out _ _ _ k1).mono ?_
  rintro e V2 ⟨t,rfl,gt,k2⟩
  go_wp2_with fail
  refine hKK.out _ _ (fun _=>HS2.out _ _ _ k2 ZMB ZMB) (fun hSq=>?_)
  have hSh:=HS2.out _ _ _ k2 ZMB ZMB
  clear hKK KK hSq
  refine ZPT ?_
  refine jac.on 10 rfl fun KK hKK=>?_
  go_simp
  go_at_call 31
  refine (jcY k2 gt.out.1 gz.out ZMB ZMB ZMB ZMB).mono ?_
  rintro e V3 ⟨y2,er,rfl,gs,k3⟩
  have h0:er=0:=by
   have h1:=gs.out.2
   rw [HAd.out] at h1
   simpa using h1
  subst h0
  go_wp2_with fail
  refine hKK.out _ _ (fun _=>HS2.out _ _ _ k3 ZMB ZMB) (fun hSq=>?_)
  have hSh:=HS2.out _ _ _ k3 ZMB ZMB
  clear hKK KK hSq
  refine ZPT ?_
  refine jac.tkU 11 rfl ?_
  refine jac.tkU 12 rfl ?_
  refine jac.tkU 13 rfl ?_
 all_goals
  refine jac.onF 15 rfl fun KK hKK=>?_
  have r:=k3.rawS
  have zz:=k3.thaw (g:=g2) (cs:=#[.int .i64 0,.slice none 0 0,.int .i64 0,.slice none 0 0]) (t:=29) ZMB
  go_simp
  have K9:=k3.set4Z (b:=g2) (t:=29) (x0:=.int .i64 0) (x1:=.slice none 0 0) (x2:=.int .i64 0) (x3:=.slice none 0 0) (u0:=.int .i64 y2.s) (u1:=.slice y2.A y2.n y2.c) (u2:=.int .i64 y2.t) (u3:=.slice y2.B y2.m y2.d) (Upd.head _)
  refine hKK.out _ _ ?_
  clear hKK KK r zz
  refine ZPT ?_
  refine jac.tkF 16 rfl ?_
  simp only [Act.put,List.getElem_toArray,List.getElem_cons_succ,List.getElem_cons_zero,List.setIfInBounds_toArray,List.set_cons_zero,List.set_cons_succ]
  refine ⟨by kernel_rfl,?_⟩
  generalize ((((V3.setCell ⟨g2,0,none⟩ (.int .i64 y2.s)).setCell ⟨g2,1,none⟩ (.slice y2.A y2.n y2.c)).setCell ⟨g2,2,none⟩ (.int .i64 y2.t)).setCell ⟨g2,3,none⟩ (.slice y2.B y2.m y2.d))=W9 at K9 ⊢
  have GS:=jpk (gs.out.1 rfl)
  clear k3 hSh HS2 gs gt gz
  have K:=K9
  clear K9
  have r:=K.rawS
  go_wp2_with (first|(refine ZAL ?_;clear K r;(first|((fail_if_success revert b0);intro W b0 K r)|((fail_if_success revert b1);intro W b1 K r)|((fail_if_success revert b2);intro W b2 K r)|intro W b K r))|(refine ZST ?_;clear K r;intro W K r))
  refine (jcX K GS.out HS.out ZMB ZMB ZMB ZMB).mono ?_
  rintro e V9 ⟨rfl,K⟩
  have hcm:=jh1 (((gi cs M:Int):Rat)-smQ x n)
  rw [hcm]
  clear r
  have r:=K.rawS
  go_wp2_with (first|(refine ZAL ?_;clear K r;(first|((fail_if_success revert b0);intro W b0 K r)|((fail_if_success revert b1);intro W b1 K r)|((fail_if_success revert b2);intro W b2 K r)|intro W b K r))|(refine ZST ?_;clear K r;intro W K r))
  go_ret
  exact ⟨rfl,K.1⟩
theorem exC_gb:jfJ 3 exC=true:=by decide +kernel
theorem St.rwTwo {w W:World} {L:List Blk} {D:List Hl} (K:St w L D W) (z h:Rw) (p:Nat→Bool) (n:Nat) (m1:(⟨rdP z.A z.n z.c z.l,rdS z.A z.n⟩:Hl)∈D) (m2:(⟨rdP z.B z.m z.d z.k,rdS z.B z.m⟩:Hl)∈D) (m3:(⟨rdP h.A h.n h.c h.l,rdS h.A h.n⟩:Hl)∈D) (m4:(⟨rdP h.B h.m h.d h.k,rdS h.B h.m⟩:Hl)∈D):St w L (⟨rwP n (fun i=>if p i then h else z),rwS n (fun i=>if p i then h else z)⟩::D) W:=by
 have kz:=K.okR (x:=z) m1 m2
 have kh:=K.okR (x:=h) m3 m4
 refine K.add ⟨fun i hi=>?_,fun b ⟨i,hi,hS⟩=>?_,fun W' g1 g2 i hi=>?_⟩
 ·show (if p i then h else z).on W
  split
  ·exact kh.1
  ·exact kz.1
 ·have hS:(if p i then h else z).S b:=hS
  split at hS
  ·exact kh.2.1 b hS
  ·exact kz.2.1 b hS
 ·show (if p i then h else z).on W'
  by_cases e:p i=true
  ·rw [if_pos e]
   exact kh.2.2 W' g1 fun b hS=>g2 b ⟨i,hi,by show (if p i then h else z).S b;rw [if_pos e];exact hS⟩
  ·rw [if_neg e]
   exact kz.2.2 W' g1 fun b hS=>g2 b ⟨i,hi,by show (if p i then h else z).S b;rw [if_neg e];exact hS⟩
theorem jdS (w:World):Calls Tryz.prog 6 #[] w fun e w'=>e=.returned (.bool true)∧Below w.heap.size w w':=by
 have K:=St.start w
 go_enter Tryz.func6,Tryz.ntmps6
 go_wp2_with fail
 replace K:=(K.keep ((Below.refl _ _).alloc (Nat.le_refl _) _)).addI (Rd.litG jap 3 exC #[.int .i64 0,.int .i64 10,.int .i64 10,.int .i64 14,.int .i64 10,.int .i64 14,.int .i64 14,.int .i64 24] 8 _ rfl rfl rfl Zb4)
 have e0:(w.alloc (.cells #[.int .i64 0,.int .i64 10,.int .i64 10,.int .i64 14,.int .i64 10,.int .i64 14,.int .i64 14,.int .i64 24] 3)).heap.size=w.heap.size+1:=Array.size_push _
 have K1:=K.new #[.int .i64 3,.slice (some ⟨w.heap.size,0,none⟩) 8 8] 24
 rw [e0] at K1
 have HI:RdI _ _ (some ⟨w.heap.size,0,none⟩) 8 8 exC:=K1.rd ZMB
 generalize w.heap.size+1=b0 at K1 ⊢
 generalize hC:some (⟨w.heap.size,0,none⟩:Addr)=C at K1 HI ⊢
 generalize (w.alloc (.cells #[.int .i64 0,.int .i64 10,.int .i64 10,.int .i64 14,.int .i64 10,.int .i64 14,.int .i64 14,.int .i64 24] 3)).alloc (.cells #[.int .i64 3,.slice C 8 8] 24)=W1 at K1 HI ⊢
 clear K e0 hC
 have HG:=jpk (fun W (h:Below W1.heap.size W1 W)=>(show Calls Tryz.prog 16 #[.agg #[.int .i64 ((3:Nat):Int),.slice C (7+1:Nat) 8]] W fun e w'=>e=.returned (.bool true)∧Below W.heap.size W w' from by
  have:=jcH 3 C 8 8 exC W (HI.up (jab _) h) Zb4 Zb4
  rw [exC_gb] at this
  exact this))
 refine (jeX 3 7 8 C exC W1 HI jfB Zb4 HG).mono ?_
 rintro e W5 ⟨X1,k1,X2,k2,x,y,s,rfl,hE,hx,hy,hft,hs,⟨hsa,hsb⟩,hb5⟩
 have hcx:=hx.caps
 have hcy:=hy.caps
 have hcs:=HI.caps
 obtain ⟨ex,ey⟩:=jjf hE
 have hx2:=hx
 have hy2:=hy
 rw [ex] at hx2
 rw [ey] at hy2
 have hsum:(((gi exC 7:Int):Rat)-smQ x 3)=((3:Int):Rat):=by
  obtain ⟨⟨p0,p1,p2⟩,-⟩:=jje hE
  simp only [smQ]
  rw [p0,p1,p2]
  decide +kernel
 have hs3:isQ s ((3:Int):Rat):=by rw [←hsum];exact hs
 have HB5:=jpk (K1.1.trans (hb5.mono K1.1.size))
 have HC5:=jpk (show ∀V,Below W5.heap.size W5 V→V.cell? ⟨b0,0,none⟩=some (.int .i64 3)∧V.cell? ⟨b0,1,none⟩=some (.slice C 8 8) from fun V h=>by
  have hB:=(K1.keep hb5).blk (b:=b0) (cs:=#[.int .i64 3,.slice C 8 8]) (t:=24) ZMB
  exact ZQ71)
 have HI5:=HI.up (jab _) hb5
 have HG5:=jpk (fun W (h:Below W5.heap.size W5 W)=>HG.out W (hb5.trans (h.mono hb5.size)))
 have HCY:=jpk (fun W (h:Below W5.heap.size W5 W)=>jex 3 7 8 C exC X1 X2 k1 k2 x y s W (HI5.up (jab _) h) jfB Zb4 (jpk fun V h2=>HG5.out V (h.trans (h2.mono h.size))) (hx.up jan h) (hy.up jan h) (hsa.up (jab _) h) (hsb.up (jab _) h) hs hE hft)
 have HCN:=jpk (fun A3 c3 W (h:Below W5.heap.size W5 W) h3=>jjA 3 7 8 C exC A3 X2 c3 7 k2 (fvJ [8,6,7]) exY s _ W (HI5.up (jab _) h) jfB Zb4 (jpk fun V h2=>HG5.out V (h.trans (h2.mono h.size))) h3 (hy2.up jan h) (hsa.up (jab _) h) (hsb.up (jab _) h) hs exC_no)
 have HGZ:=jpk (fun W=>(show Calls Tryz.prog 16 #[.agg #[.int .i64 0,.slice none 0 0]] W fun e w'=>e=.returned (.bool false)∧Below W.heap.size W w' from jcH 0 none 0 0 [] W Rd.nil Zb4 Zb4))
 have HSX:=jpk (fun A3 n3 c3 W (h:Below W5.heap.size W5 W) h3=>jeG (fvJ [7,7,7]) X1 A3 3 k1 n3 c3 W (hx2.up jan h) h3)
 have HSY:=jpk (fun A3 n3 c3 W (h:Below W5.heap.size W5 W) h3=>jeG exY X2 A3 7 k2 n3 c3 W (hy2.up jan h) h3)
 have HIs:=jpk (fun W (h:Below W5.heap.size W5 W)=>jgX s 3 1 ((3:Int):Rat) W (hsa.up (jab _) h) (hsb.up (jab _) h) (fun W=>jg1 3 W Zb4) hs3.fv)
 have K:=(St.start W5).rdOld hsa
 replace K:=K.rdOld hsb
 clear hE hx hy hft hs hsa hsb hb5 ex ey hx2 hy2 hsum hs3 HI HI5 HG K1
 have r:=K.rawS
 go_wp2_with (first|(refine ZAL ?_;clear K r;(first|((fail_if_success revert b0);intro W b0 K r)|((fail_if_success revert b1);intro W b1 K r)|intro W b K r))|(refine ZST ?_;clear K r;intro W K r))
 refine (jn5 _).mono ?_
 rintro e W' ⟨s5,A5,n5,c5,l5,t5,B5,m5,d5,k5,rfl,⟨hra,hrb⟩,ho5,⟨hfa,hfb⟩,hb⟩
 replace K:=K.retF hb hra hrb hfa hfb
 have GH:=jpk (ho5.std)
 clear r hra hrb hfa hfb hb ho5
 have r:=K.rawS
 go_wp2_with (first|(refine ZAL ?_;clear K r;(first|((fail_if_success revert b0);intro W b0 K r)|((fail_if_success revert b1);intro W b1 K r)|intro W b K r))|(refine ZST ?_;clear K r;intro W K r))
 refine (jdV 0 Zb4 Zb21 K).mono ?_
 rintro e V1 ⟨z,rfl,gz,k1'⟩
 replace K:=k1'
 clear k1' r
 have GZ:=jpk gz.out.1
 clear gz
 have r:=K.rawS
 go_wp2_with (first|(refine ZAL ?_;clear K r;(first|((fail_if_success revert b0);intro W b0 K r)|((fail_if_success revert b1);intro W b1 K r)|intro W b K r))|(refine ZST ?_;clear K r;intro W K r))
 have Kw:=(K.rwTwo z (⟨s5,A5,n5,c5,l5,t5,B5,m5,d5,k5⟩:Rw) (fun i:Nat=>i==2||i==4||i==5) 7 ZMB ZMB ZMB ZMB).new (rwA 7 (fun i=>if (fun i:Nat=>i==2||i==4||i==5) i then (⟨s5,A5,n5,c5,l5,t5,B5,m5,d5,k5⟩:Rw) else z) []) 29
 have ec:rwA 7 (fun i=>if (fun i:Nat=>i==2||i==4||i==5) i then (⟨s5,A5,n5,c5,l5,t5,B5,m5,d5,k5⟩:Rw) else z) []=#[.int .i64 z.s,.slice z.A z.n z.c,.int .i64 z.t,.slice z.B z.m z.d,.int .i64 z.s,.slice z.A z.n z.c,.int .i64 z.t,.slice z.B z.m z.d,.int .i64 s5,.slice A5 n5 c5,.int .i64 t5,.slice B5 m5 d5,.int .i64 z.s,.slice z.A z.n z.c,.int .i64 z.t,.slice z.B z.m z.d,.int .i64 s5,.slice A5 n5 c5,.int .i64 t5,.slice B5 m5 d5,.int .i64 s5,.slice A5 n5 c5,.int .i64 t5,.slice B5 m5 d5,.int .i64 z.s,.slice z.A z.n z.c,.int .i64 z.t,.slice z.B z.m z.d]:=rfl
 have HWt:RdF _ _ _ 7 7 (ofF 7 fun i=>fvQ ((fun i=>if (fun i:Nat=>i==2||i==4||i==5) i then Rat.divInt 1 2 else ((0:Int):Rat)) i)):=Kw.rdOwn List.mem_cons_self Zb4 (fun i hi=>by
  show isQ (if (fun i:Nat=>i==2||i==4||i==5) i then (⟨s5,A5,n5,c5,l5,t5,B5,m5,d5,k5⟩:Rw) else z) (if (fun i:Nat=>i==2||i==4||i==5) i then Rat.divInt 1 2 else ((0:Int):Rat))
  split
  ·exact ⟨GH.out,by decide +kernel⟩
  ·exact GZ.out)
 have ew:(ofF 7 fun i=>fvQ ((fun i=>if (fun i:Nat=>i==2||i==4||i==5) i then Rat.divInt 1 2 else ((0:Int):Rat)) i))=exY:=rfl
 rw [ew] at HWt
 rw [ec] at HWt Kw
 clear ec ew
 obtain ⟨W6,hW6⟩:∃W6,W6=W.alloc (.cells #[.int .i64 z.s,.slice z.A z.n z.c,.int .i64 z.t,.slice z.B z.m z.d,.int .i64 z.s,.slice z.A z.n z.c,.int .i64 z.t,.slice z.B z.m z.d,.int .i64 s5,.slice A5 n5 c5,.int .i64 t5,.slice B5 m5 d5,.int .i64 z.s,.slice z.A z.n z.c,.int .i64 z.t,.slice z.B z.m z.d,.int .i64 s5,.slice A5 n5 c5,.int .i64 t5,.slice B5 m5 d5,.int .i64 s5,.slice A5 n5 c5,.int .i64 t5,.slice B5 m5 d5,.int .i64 z.s,.slice z.A z.n z.c,.int .i64 z.t,.slice z.B z.m z.d] 29):=⟨_,rfl⟩
 have eS:W6.heap.size=W.heap.size+1:=by rw [hW6];exact Array.size_push _
 rw [←hW6] at HWt Kw ⊢
 rw [←eS]
 clear hW6 eS
 generalize W.heap.size=g6 at HWt Kw ⊢
 have hB1:=Kw.blk (b:=b1) (cs:=#[.int .i64 s.s,.slice s.A s.n s.c,.int .i64 s.t,.slice s.B s.m s.d]) (t:=29) ZMB
 have HB6:=jpk Kw.1
 have HC6:=jpk (show ∀V,Below W6.heap.size W6 V→V.cell? ⟨b0,0,none⟩=some (.int .i64 3)∧V.cell? ⟨b0,1,none⟩=some (.slice C 8 8)∧V.cell? ⟨b1,0,none⟩=some (.int .i64 s.s)∧V.cell? ⟨b1,1,none⟩=some (.slice s.A s.n s.c)∧V.cell? ⟨b1,2,none⟩=some (.int .i64 s.t)∧V.cell? ⟨b1,3,none⟩=some (.slice s.B s.m s.d) from fun V h=>⟨(HC5.out V (Kw.1.trans (h.mono Kw.1.size))).1,(HC5.out V (Kw.1.trans (h.mono Kw.1.size))).2,(h.cell (p:=⟨b1,0,none⟩) hB1.lt).trans (hB1.cell (j:=0) rfl),(h.cell (p:=⟨b1,1,none⟩) hB1.lt).trans (hB1.cell (j:=1) rfl),(h.cell (p:=⟨b1,2,none⟩) hB1.lt).trans (hB1.cell (j:=2) rfl),(h.cell (p:=⟨b1,3,none⟩) hB1.lt).trans (hB1.cell (j:=3) rfl)⟩)
 have HWu:=jpk (fun V (h:Below W6.heap.size W6 V)=>HWt.up jan h)
 clear K Kw r HC5 hB1 GH GZ HWt
 have K:=St.start W6
 have q0:=trivial
 have q1:=trivial
 have q2:=trivial
 have q3:=trivial
 have q4:=trivial
 have q5:=trivial
 replace K:=(K.keep ((Below.refl _ _).alloc (Nat.le_refl _) _)).addI (Rd.litG jap 3 [7,7,7] #[.int .i64 7,.int .i64 7,.int .i64 7] 3 _ rfl rfl rfl Zb4)
 refine (jeA _ 3 _ [7,7,7] _ ?qa Zb4 Zb4).mono ?_
 case qa=>exact K.rd ZMB
 rintro e W' ⟨A20,c20,rfl,hf,hb⟩
 have hcap20:=hf.now.caps
 replace K:=(K.keep hb).addF (show RdF _ _ A20 3 c20 (fvJ [7,7,7]) from hf.now)
 clear hf hb
 clear q0 q1 q2 q3 q4 q5;obtain ⟨q0,q1,q2,q3,q4,q5⟩:=HC6.out _ K.1
 go_wp2_with fail
 refine (HSX.out _ _ _ _ (HB6.out.trans (K.1.mono HB6.out.size)) (K.getQ ZMB)).mono ?_
 rintro e W' ⟨rfl,hb⟩
 replace K:=K.keep hb;clear hb;clear q0 q1 q2 q3 q4 q5;obtain ⟨q0,q1,q2,q3,q4,q5⟩:=HC6.out _ K.1
 go_wp2_with fail
 refine (HIs.out _ (HB6.out.trans (K.1.mono HB6.out.size))).mono ?_
 rintro e W' ⟨rfl,hb⟩
 replace K:=K.keep hb;clear hb;clear q0 q1 q2 q3 q4 q5;obtain ⟨q0,q1,q2,q3,q4,q5⟩:=HC6.out _ K.1
 go_wp2_with fail
 refine (HSY.out _ _ _ _ (HB6.out.trans (K.1.mono HB6.out.size)) (HWu.out _ K.1)).mono ?_
 rintro e W' ⟨rfl,hb⟩
 replace K:=K.keep hb;clear hb;clear q0 q1 q2 q3 q4 q5;obtain ⟨q0,q1,q2,q3,q4,q5⟩:=HC6.out _ K.1
 go_wp2_with fail
 refine (HCY.out _ (HB6.out.trans (K.1.mono HB6.out.size))).mono ?_
 rintro e W' ⟨rfl,hb⟩
 replace K:=K.keep hb;clear hb;clear q0 q1 q2 q3 q4 q5;obtain ⟨q0,q1,q2,q3,q4,q5⟩:=HC6.out _ K.1
 go_upto_region 9 with fail
 have hSh:=HC6.out _ (K.drew).1
 replace K:=K.drew
 clear q0 q1 q2 q3 q4 q5
 refine jak 100 (fun V=>V.cell? ⟨b0,0,none⟩=some (.int .i64 3)∧V.cell? ⟨b0,1,none⟩=some (.slice C 8 8)∧V.cell? ⟨b1,0,none⟩=some (.int .i64 s.s)∧V.cell? ⟨b1,1,none⟩=some (.slice s.A s.n s.c)∧V.cell? ⟨b1,2,none⟩=some (.int .i64 s.t)∧V.cell? ⟨b1,3,none⟩=some (.slice s.B s.m s.d)) Zb9 hSh (fun hSh=>?_)
 generalize World.drew _=V0 at K hSh ⊢
 refine jaa.tkB 0 rfl ?_
 refine jaa.tkB 1 rfl ?_
 refine jaa.tkB 2 rfl ?_
 refine jaa.tkB 5 rfl ?_
 refine jaa.tkB 6 rfl ?_
 refine jaa.onW 3 rfl fun KK hKK=>?_
 go_simp
 replace K:=(K.keep ((Below.refl _ _).alloc (Nat.le_refl _) _)).addI (Rd.litG jap 3 [8,6,7] #[.int .i64 8,.int .i64 6,.int .i64 7] 3 _ rfl rfl rfl Zb4)
 refine hKK.out _ _ (HC6.out _ K.1) (fun hSq=>?_)
 have hSh:=HC6.out _ K.1
 clear hKK KK hSq
 refine ZPT ?_
 refine jaa.onW 4 rfl fun KK hKK=>?_
 go_simp
 refine (jeA _ 3 _ [8,6,7] _ ?qa Zb4 Zb4).mono ?_
 case qa=>exact K.rd ZMB
 rintro e W' ⟨A30,c30,rfl,hf,hb⟩
 have hcap30:=hf.now.caps
 replace K:=(K.keep hb).addF (show RdF _ _ A30 3 c30 (fvJ [8,6,7]) from hf.now)
 clear hf hb
 go_wp2_with fail
 refine hKK.out _ _ (HC6.out _ K.1) (fun hSq=>?_)
 have hSh:=HC6.out _ K.1
 clear hKK KK hSq
 refine ZPT ?_
 refine jaa.onW 7 rfl fun KK hKK=>?_
 go_simp
 refine (HCN.out _ _ _ (HB6.out.trans (K.1.mono HB6.out.size)) (K.getQ ZMB)).mono ?_
 rintro e W' ⟨rfl,hb⟩
 replace K:=K.keep hb
 clear hb
 go_wp2_with fail
 refine hKK.out _ _ (HC6.out _ K.1) (fun hSq=>?_)
 have hSh:=HC6.out _ K.1
 clear hKK KK hSq
 refine ZPT ?_
 refine jaa.tkB 8 rfl ?_
 refine jaa.tkB 9 rfl ?_
 refine jaa.tkB 10 rfl ?_
 refine jaa.tkB 11 rfl ?_
 refine jaa.onW 12 rfl fun KK hKK=>?_
 go_simp
 refine (HG5.out _ (HB6.out.trans (K.1.mono HB6.out.size))).mono ?_
 rintro e W' ⟨rfl,hb⟩
 replace K:=K.keep hb
 clear hb
 go_wp2_with fail
 refine hKK.out _ _ (HC6.out _ K.1) (fun hSq=>?_)
 have hSh:=HC6.out _ K.1
 clear hKK KK hSq
 refine ZPT ?_
 refine jaa.tkB 13 rfl ?_
 refine jaa.tkB 14 rfl ?_
 refine jaa.tkB 15 rfl ?_
 refine jaa.onW 16 rfl fun KK hKK=>?_
 go_simp
 refine (HGZ.out _).mono ?_
 rintro e W' ⟨rfl,hb⟩
 replace K:=K.keep hb
 clear hb
 go_wp2_with fail
 refine hKK.out _ _ (HC6.out _ K.1) (fun hSq=>?_)
 have hSh:=HC6.out _ K.1
 clear hKK KK hSq
 refine ZPT ?_
 refine jaa.tkB 17 rfl ?_
 refine jaa.tkB 18 rfl ?_
 refine jaa.tkB 19 rfl ?_
 refine jaa.done Zb9 ?_
 have HE:=jpk (HB5.out.trans (Below.mono (HB6.out.trans (K.1.mono HB6.out.size)) HB5.out.size))
 clear hSh
 go_wp2_with fail
 go_ret
 exact ⟨rfl,HE.out⟩
end Go.Proofs.YtgikfcjndiohjaaGreat
