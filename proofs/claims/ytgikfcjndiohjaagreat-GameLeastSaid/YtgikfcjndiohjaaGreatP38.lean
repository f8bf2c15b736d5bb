/- Laws and walks; conditions stand in each theorem. -/
import Derived.Test.YtgikfcjndiohjaaGreatP36
set_option linter.unusedSimpArgs false
set_option linter.unusedVariables false
set_option maxHeartbeats 8000000
set_option maxRecDepth 100000
namespace Go.Proofs.YtgikfcjndiohjaaGreat
open Go.RowKit
theorem jks {n N:Nat} {cs:List Int} {o:List Fv} (h:jc4 n N cs o=true):(decide (o.length=n)&&o.all fnF)=true:=by
 unfold jc4 at h
 rw [Bool.and_eq_true] at h
 exact h.1
theorem jh5 {n M:Nat} {cs:List Int} {x y:Nat→Rat} (hk:Gok n cs) (hN:M+1=2 ^ n) (hE:jb7 n cs x y):addK (smQ x n) (((gi cs M:Int):Rat)-smQ x n)=true:=by
 have hn3:=hk.hn
 have h1:=(hE.kd hk).gsum ZO Zb4 Zb4 (2 ^ n-1) n (Nat.le_refl n)
 rw [jb2 hk] at h1
 have h2:IsI ((gi cs M:Int):Rat) 1000000000000000:=⟨_,rfl,by have:=hk.bd M;omega⟩
 have h3:=((h2.pt1 (l:=3) Zb4 Zb4).add h1.neg Zb4).2
 rw [←Rat.sub_eq_add_neg] at h3
 exact (h1.add h3 Zb4).1
theorem jgh (rd:Int) (C:Option Addr) (nc cc:Nat) (cs:List Int) (O:Option Addr) (no co:Nat) (o:List Fv) (w:World) (hc:RdI w w.heap.size C nc cc cs) (ho:RdF w w.heap.size O no co o) :
 Calls Tryz.prog 4 #[.agg #[.int .i64 rd,.slice C nc cc],.slice O no co] w fun e w'=>e=.returned (.bool true)∧Below w.heap.size w w':=by
 have hcap:=hc.caps
 have hco:=ho.caps
 have K:=St.start w
 have r:=K.raw
 have HSm:=jpk jdS
 have HFw:=jpk (jed rd C nc cc)
 have HSo:=jpk (fun W (h:Below w.heap.size w W)=>jhC 5 O no co o W (ho.up jan h))
 cases hf:(decide (rd≤3)&&decide (nc≤10))
 case false =>
  rw [hf] at HFw
  clear hf hc ho
  go_enter Tryz.func4,Tryz.ntmps4
  go_wp2_with (first
   | (apply K.box;rfl;rfl;rfl;clear K r;intro W b0 K;have r:=K.rawS)
   | (go_at_call 6;refine (HSm.out _).mono ?_;rintro e W' ⟨rfl,hb⟩;replace K:=K.keep hb;clear hb r;have r:=K.rawS)
   | (go_at_call 7;refine (HFw.out _).mono ?_;rintro e W' ⟨rfl,hb⟩;replace K:=K.keep hb;clear hb r;have r:=K.rawS)
   | (go_at_call 8;refine (HSo.out _ K.1).mono ?_;rintro e W' ⟨rfl,hb⟩;replace K:=K.keep hb;clear hb r;have r:=K.rawS)
   | (go_at_call 10;refine (HCn.out _ K.1).mono ?_;rintro e W' ⟨rfl,hb⟩;replace K:=K.keep hb;clear hb r;have r:=K.rawS)
   | (go_at_call 16;refine (HRt.out _ K.1).mono ?_;rintro e W' ⟨rfl,hb⟩;replace K:=K.keep hb;clear hb r;have r:=K.rawS)
   | (first | (refine ZAL ?_;clear K r;(first | ((fail_if_success revert b0);intro W b0 K r) | ((fail_if_success revert b1);intro W b1 K r) | ((fail_if_success revert b2);intro W b2 K r) | ((fail_if_success revert b3);intro W b3 K r) | ((fail_if_success revert b4);intro W b4 K r) | intro W b K r)) | (refine ZST ?_;clear K r;intro W K r)))
  go_ret
  exact ⟨rfl,K.1⟩
 rw [hf] at HFw
 cases hfo:jfE 5 1 o
 case false =>
  rw [hfo] at HSo
  clear hf hfo hc ho
  go_enter Tryz.func4,Tryz.ntmps4
  go_wp2_with (first
   | (apply K.box;rfl;rfl;rfl;clear K r;intro W b0 K;have r:=K.rawS)
   | (go_at_call 6;refine (HSm.out _).mono ?_;rintro e W' ⟨rfl,hb⟩;replace K:=K.keep hb;clear hb r;have r:=K.rawS)
   | (go_at_call 7;refine (HFw.out _).mono ?_;rintro e W' ⟨rfl,hb⟩;replace K:=K.keep hb;clear hb r;have r:=K.rawS)
   | (go_at_call 8;refine (HSo.out _ K.1).mono ?_;rintro e W' ⟨rfl,hb⟩;replace K:=K.keep hb;clear hb r;have r:=K.rawS)
   | (go_at_call 10;refine (HCn.out _ K.1).mono ?_;rintro e W' ⟨rfl,hb⟩;replace K:=K.keep hb;clear hb r;have r:=K.rawS)
   | (go_at_call 16;refine (HRt.out _ K.1).mono ?_;rintro e W' ⟨rfl,hb⟩;replace K:=K.keep hb;clear hb r;have r:=K.rawS)
   | (first | (refine ZAL ?_;clear K r;(first | ((fail_if_success revert b0);intro W b0 K r) | ((fail_if_success revert b1);intro W b1 K r) | ((fail_if_success revert b2);intro W b2 K r) | ((fail_if_success revert b3);intro W b3 K r) | ((fail_if_success revert b4);intro W b4 K r) | intro W b K r)) | (refine ZST ?_;clear K r;intro W K r)))
  go_ret
  exact ⟨rfl,K.1⟩
 rw [hfo] at HSo
 rw [Bool.and_eq_true,decide_eq_true_eq,decide_eq_true_eq] at hf
 have HRt:=jpk (fun W (h:Below w.heap.size w W)=>jcH rd C nc cc cs W (hc.up (jab _) h) hf.1 hf.2)
 cases hr:jfJ rd cs
 case false =>
  rw [hr] at HRt
  have HCn:=jpk (fun W (h:Below w.heap.size w W)=>jnF rd C nc cc W (jpk fun V h2=>HRt.out V (h.trans (h2.mono h.size))))
  clear hf hfo hr hc ho
  go_enter Tryz.func4,Tryz.ntmps4
  go_wp2_with (first
   | (apply K.box;rfl;rfl;rfl;clear K r;intro W b0 K;have r:=K.rawS)
   | (go_at_call 6;refine (HSm.out _).mono ?_;rintro e W' ⟨rfl,hb⟩;replace K:=K.keep hb;clear hb r;have r:=K.rawS)
   | (go_at_call 7;refine (HFw.out _).mono ?_;rintro e W' ⟨rfl,hb⟩;replace K:=K.keep hb;clear hb r;have r:=K.rawS)
   | (go_at_call 8;refine (HSo.out _ K.1).mono ?_;rintro e W' ⟨rfl,hb⟩;replace K:=K.keep hb;clear hb r;have r:=K.rawS)
   | (go_at_call 10;refine (HCn.out _ K.1).mono ?_;rintro e W' ⟨rfl,hb⟩;replace K:=K.keep hb;clear hb r;have r:=K.rawS)
   | (go_at_call 16;refine (HRt.out _ K.1).mono ?_;rintro e W' ⟨rfl,hb⟩;replace K:=K.keep hb;clear hb r;have r:=K.rawS)
   | (first | (refine ZAL ?_;clear K r;(first | ((fail_if_success revert b0);intro W b0 K r) | ((fail_if_success revert b1);intro W b1 K r) | ((fail_if_success revert b2);intro W b2 K r) | ((fail_if_success revert b3);intro W b3 K r) | ((fail_if_success revert b4);intro W b4 K r) | intro W b K r)) | (refine ZST ?_;clear K r;intro W K r)))
  go_ret
  exact ⟨rfl,K.1⟩
 obtain ⟨n,M,rfl,rfl,hk,hN⟩:=jm8 hf.1 hc.len hr
 rw [hr] at HRt
 have hn3:=hk.hn
 have hp:=jbA n ZO
 rw [←hN,Nat.add_sub_cancel] at hp
 have HCo:=jpk (fun W (h:Below w.heap.size w W)=>jeX n M cc C cs W (hc.up (jab _) h) hk hN (jpk fun V h2=>HRt.out V (h.trans (h2.mono h.size))))
 have hM8:(M:Int)≤8:=by omega
 have Hk:=jpk hk
 have HN:=jpk hN
 have Hfo:=jpk hfo
 have Hc:=jpk hc
 have Ho:=jpk ho
 clear hf hr hk hN hp hfo hc ho
 go_enter Tryz.func4,Tryz.ntmps4
 go_wp2_with (first
 | (apply K.box;rfl;rfl;rfl;clear K r;intro W b0 K;have r:=K.rawS)
 | (go_at_call 6;refine (HSm.out _).mono ?_;rintro e W' ⟨rfl,hb⟩;replace K:=K.keep hb;clear hb r;have r:=K.rawS)
 | (go_at_call 7;refine (HFw.out _).mono ?_;rintro e W' ⟨rfl,hb⟩;replace K:=K.keep hb;clear hb r;have r:=K.rawS)
 | (go_at_call 8;refine (HSo.out _ K.1).mono ?_;rintro e W' ⟨rfl,hb⟩;replace K:=K.keep hb;clear hb r;have r:=K.rawS)
 | (go_at_call 10;refine (HCn.out _ K.1).mono ?_;rintro e W' ⟨rfl,hb⟩;replace K:=K.keep hb;clear hb r;have r:=K.rawS)
 | (go_at_call 16;refine (HRt.out _ K.1).mono ?_;rintro e W' ⟨rfl,hb⟩;replace K:=K.keep hb;clear hb r;have r:=K.rawS)
 | (first | (refine ZAL ?_;clear K r;(first | ((fail_if_success revert b0);intro W b0 K r) | ((fail_if_success revert b1);intro W b1 K r) | ((fail_if_success revert b2);intro W b2 K r) | ((fail_if_success revert b3);intro W b3 K r) | ((fail_if_success revert b4);intro W b4 K r) | intro W b K r)) | (refine ZST ?_;clear K r;intro W K r)))
 refine (HCo.out _ K.1).mono ?_
 rintro e W5 ⟨X1,k1,X2,k2,x,y,s,rfl,hE,hx,hy,hft,hs,⟨hsa,hsb⟩,hb5⟩
 have hk:=Hk.out
 have hN:=HN.out
 have hfo:=Hfo.out
 have hc:=Hc.out
 have ho:=Ho.out
 have hp:=jbA n ZO
 rw [←hN,Nat.add_sub_cancel] at hp
 have hcx:=hx.caps
 have hcy:=hy.caps
 have HB5:=jpk (K.1.trans (hb5.mono K.1.size))
 have HC5:=jpk (show ∀V,Below W5.heap.size W5 V→V.cell? ⟨b0,0,none⟩=some (.int .i64 (n:Int))∧V.cell? ⟨b0,1,none⟩=some (.slice C (M+1:Nat) cc) from fun V h=>by
  have hB:=(K.keep hb5).blk (b:=b0) (cs:=#[.int .i64 (n:Int),.slice C (M+1:Nat) cc]) (t:=24) ZMB
  exact ZQ71)
 have HI5:=hc.up (jab _) HB5.out
 have ho5:=ho.up jan HB5.out
 have HG5:=jpk (fun W (h:Below W5.heap.size W5 W)=>HRt.out W (HB5.out.trans (h.mono HB5.out.size)))
 have HCY:=jpk (fun W (h:Below W5.heap.size W5 W)=>jex n M cc C cs X1 X2 k1 k2 x y s W (HI5.up (jab _) h) hk hN (jpk fun V h2=>HG5.out V (h.trans (h2.mono h.size))) (hx.up jan h) (hy.up jan h) (hsa.up (jab _) h) (hsb.up (jab _) h) hs hE hft)
 have HS1:=jpk (fun W (h:Below W5.heap.size W5 W)=>jdA n (M+1) cc C cs X1 n k1 (ofF n fun i=>fvQ (x i)) W (HI5.up (jab _) h) hN ZO hk.bd (hx.up jan h) (fun _ g k hk2=>((hE.kd hk).congr (y:=fvR (ofF n fun i=>fvQ (x i))) (fun u hu=>jcq u hu)).gadd ZO Zb4 Zb4 g k hk2))
 rw [jmX hk hN hE hft.1] at HS1
 have HS2:=jpk (fun W (h:Below W5.heap.size W5 W)=>jdA n (M+1) cc C cs O no co o W (HI5.up (jab _) h) hN ZO hk.bd (ho5.up jan h) (fun hl=>jgV ZO hfo hl))
 have HSu:=jpk (fun W (h:Below W5.heap.size W5 W)=>jeY hk hN hE hft.1 X1 k1 W (hx.up jan h))
 have hsn:decide (s.s<0)=false:=by
  rw [hs.neg_iff]
  refine decide_eq_false (Rat.not_lt.2 ?_)
  have h1:=hE.le_all hk
  rw [show 2 ^ n-1=M by omega] at h1
  grind
 have hsn2:¬s.s<0:=of_decide_eq_false hsn
 obtain ⟨vb,vo,hA,hvb,hcc⟩:=RdI.cellAt HI5 (k:=M) ZO
 subst hA
 have Hs:=jpk hs
 have HE:=jpk hE
 have Ho5:=jpk ho5
 have K5:=((St.start W5).rdOld hsa).rdOld hsb
 clear K r hE hx hy hft hs hsa hsb hb5 hc ho hfo hk hN hp HI5 ho5 HCo HFw HSo HRt HSm Ho Hc
 have K:=K5
 clear K5
 obtain ⟨c0,c1⟩:=HC5.out _ K.1
 have r:=K.rawS
 go_wp2_with (first
 | (refine ZAL ?_;clear K r c0 c1;(first | ((fail_if_success revert b0);intro W b0 K r) | ((fail_if_success revert b1);intro W b1 K r) | ((fail_if_success revert b2);intro W b2 K r) | ((fail_if_success revert b3);intro W b3 K r) | ((fail_if_success revert b4);intro W b4 K r) | intro W b K r);obtain ⟨c0,c1⟩:=HC5.out _ K.1)
 | (refine ZST ?_;clear K r c0 c1;intro W K r;obtain ⟨c0,c1⟩:=HC5.out _ K.1)
 | (go_at_call 18;refine (HCY.out _ K.1).mono ?_;rintro e W' ⟨rfl,hb⟩;replace K:=K.keep hb;clear hb r c0 c1;obtain ⟨c0,c1⟩:=HC5.out _ K.1;have r:=K.rawS)
 | (go_at_call 20;refine (HS1.out _ K.1).mono ?_;rintro e W' ⟨rfl,hb⟩;replace K:=K.keep hb;clear hb r c0 c1;obtain ⟨c0,c1⟩:=HC5.out _ K.1;have r:=K.rawS))
 refine (HSu.out _ K.1).mono ?_
 rintro e W6 ⟨z,rfl,gz,⟨hza,hzb⟩,⟨hfa,hfb⟩,hb⟩
 replace K:=K.retF hb hza hzb hfa hfb
 clear hza hzb hfa hfb hb HSu r c0 c1
 obtain ⟨c0,c1⟩:=HC5.out _ K.1
 have r:=K.rawS
 go_wp2_with (first
 | (refine ZAL ?_;clear K r c0 c1;(first | ((fail_if_success revert b0);intro W b0 K r) | ((fail_if_success revert b1);intro W b1 K r) | ((fail_if_success revert b2);intro W b2 K r) | ((fail_if_success revert b3);intro W b3 K r) | ((fail_if_success revert b4);intro W b4 K r) | intro W b K r);obtain ⟨c0,c1⟩:=HC5.out _ K.1)
 | (refine ZST ?_;clear K r c0 c1;intro W K r;obtain ⟨c0,c1⟩:=HC5.out _ K.1)
 | (go_at_call 18;refine (HCY.out _ K.1).mono ?_;rintro e W' ⟨rfl,hb⟩;replace K:=K.keep hb;clear hb r c0 c1;obtain ⟨c0,c1⟩:=HC5.out _ K.1;have r:=K.rawS)
 | (go_at_call 20;refine (HS1.out _ K.1).mono ?_;rintro e W' ⟨rfl,hb⟩;replace K:=K.keep hb;clear hb r c0 c1;obtain ⟨c0,c1⟩:=HC5.out _ K.1;have r:=K.rawS))
 refine (jgA K gz.out Hs.out ZMB ZMB ZMB ZMB).mono ?_
 rintro e W7 ⟨t,er,rfl,gt,k7⟩
 have h0:er=0:=by
  have h1:=gt.out.1.2
  rw [jh5 Hk.out HN.out HE.out] at h1
  simpa using h1
 subst h0
 have GT:=jpk (show isQ t ((gi cs M:Int):Rat) from by
  have h1:=gt.out.1.1 rfl
  rw [show smQ x n+(((gi cs M:Int):Rat)-smQ x n)=((gi cs M:Int):Rat) by grind] at h1
  exact h1)
 replace K:=k7
 clear k7 gt r c0 c1
 obtain ⟨c0,c1⟩:=HC5.out _ K.1
 have r:=K.rawS
 go_wp2_with (first
 | (refine ZAL ?_;clear K r c0 c1;(first | ((fail_if_success revert b0);intro W b0 K r) | ((fail_if_success revert b1);intro W b1 K r) | ((fail_if_success revert b2);intro W b2 K r) | ((fail_if_success revert b3);intro W b3 K r) | ((fail_if_success revert b4);intro W b4 K r) | intro W b K r);obtain ⟨c0,c1⟩:=HC5.out _ K.1)
 | (refine ZST ?_;clear K r c0 c1;intro W K r;obtain ⟨c0,c1⟩:=HC5.out _ K.1)
 | (go_at_call 18;refine (HCY.out _ K.1).mono ?_;rintro e W' ⟨rfl,hb⟩;replace K:=K.keep hb;clear hb r c0 c1;obtain ⟨c0,c1⟩:=HC5.out _ K.1;have r:=K.rawS)
 | (go_at_call 20;refine (HS1.out _ K.1).mono ?_;rintro e W' ⟨rfl,hb⟩;replace K:=K.keep hb;clear hb r c0 c1;obtain ⟨c0,c1⟩:=HC5.out _ K.1;have r:=K.rawS))
 have HS:=jpk (fun V L5 D5 (h:St W5 L5 D5 V) (m4:((b3,#[.int .i64 t.s,.slice t.A t.n t.c,.int .i64 t.t,.slice t.B t.m t.d],29):Blk)∈L5)=>(show (V.cell? ⟨b3,0,none⟩=some (.int .i64 t.s)∧V.cell? ⟨b3,1,none⟩=some (.slice t.A t.n t.c)∧V.cell? ⟨b3,2,none⟩=some (.int .i64 t.t)∧V.cell? ⟨b3,3,none⟩=some (.slice t.B t.m t.d))∧V.cell? ⟨b0,1,none⟩=some (.slice (some ⟨vb,vo,none⟩) (M+1:Nat) cc)∧V.cell? ⟨vb,vo+M,none⟩=some (.int .i64 (gi cs M)) from ⟨⟨(h.blk m4).cell (j:=0) rfl,(h.blk m4).cell (j:=1) rfl,(h.blk m4).cell (j:=2) rfl,(h.blk m4).cell (j:=3) rfl⟩,(HC5.out _ h.1).2,(h.1.cell (p:=⟨vb,vo+M,none⟩) hvb).trans hcc⟩))
 have hw:IntKind.i64.wrap (M:Int)=(M:Int):=IntWalk.i64_in _ ZO
 have hM0:(M:Int)<(M:Int)+1:=by omega
 have hM1:(0:Int)≤(M:Int):=by omega
 have K0:=K.drew
 have s0:=HS.out _ _ _ K0 ZMB
 clear K r c0 c1
 refine jak 100 (fun V=>(V.cell? ⟨b3,0,none⟩=some (.int .i64 t.s)∧V.cell? ⟨b3,1,none⟩=some (.slice t.A t.n t.c)∧V.cell? ⟨b3,2,none⟩=some (.int .i64 t.t)∧V.cell? ⟨b3,3,none⟩=some (.slice t.B t.m t.d))∧V.cell? ⟨b0,1,none⟩=some (.slice (some ⟨vb,vo,none⟩) (M+1:Nat) cc)∧V.cell? ⟨vb,vo+M,none⟩=some (.int .i64 (gi cs M))) Zb9 s0 (fun hSh=>?_)
 clear s0
 generalize World.drew _=V0 at K0 hSh ⊢
 refine jaa.tkB 0 rfl ?_
 refine jaa.tkB 1 rfl ?_
 refine jaa.tkB 2 rfl ?_
 refine jaa.tkB 3 rfl ?_
 refine jaa.tkB 4 rfl ?_
 refine jaa.tkB 5 rfl ?_
 refine jaa.tkB 6 rfl ?_
 refine jaa.tkB 7 rfl ?_
 refine jaa.tkB 8 rfl ?_
 refine jaa.tkB 9 rfl ?_
 refine jaa.tkB 10 rfl ?_
 refine jaa.tkB 11 rfl ?_
 refine jaa.tkB 12 rfl ?_
 refine jaa.tkB 13 rfl ?_
 refine jaa.tkB 14 rfl ?_
 refine jaa.tkB 15 rfl ?_
 refine jaa.onW 16 rfl fun KK hKK=>?_
 go_simp
 refine (jdV (gi cs M) (by have:=Hk.out.bd M;omega) (IsI.fit (Hk.out.bd M)) K0).mono ?_
 rintro e V1 ⟨a2,rfl,ga,k1⟩
 clear K0
 go_wp2_with fail
 refine hKK.out _ _ (HS.out _ _ _ k1 ZMB) (fun hSq=>?_)
 have hSh:=HS.out _ _ _ k1 ZMB
 clear hKK KK hSq
 refine ZPT ?_
 refine jaa.onW 17 rfl fun KK hKK=>?_
 go_simp
 refine (jhY k1 GT.out ga.out.1 ZMB ZMB ZMB ZMB).mono ?_
 rintro e V2 ⟨rfl,k2⟩
 clear k1 ga
 go_wp2_with fail
 refine hKK.out _ _ (HS.out _ _ _ k2 ZMB) (fun hSq=>?_)
 have hSh:=HS.out _ _ _ k2 ZMB
 clear hKK KK hSq
 refine ZPT ?_
 refine jaa.tkB 18 rfl ?_
 refine jaa.tkB 19 rfl ?_
 refine jaa.done Zb9 ?_
 have K:=k2
 clear k2 hSh HS
 obtain ⟨c0,c1⟩:=HC5.out _ K.1
 have r:=K.rawS
 cases hst:jc4 n (M+1) cs o
 case false =>
  rw [hst] at HS2
  clear hst
  go_wp2_with (go_at_call 20;refine (HS2.out _ K.1).mono ?_;rintro e W' ⟨rfl,hb⟩;replace K:=K.keep hb;clear hb r c0 c1;obtain ⟨c0,c1⟩:=HC5.out _ K.1;have r:=K.rawS)
  go_ret
  exact ⟨rfl,HB5.out.trans (K.1.mono HB5.out.size)⟩
 rw [hst] at HS2
 obtain ⟨hst1,hst2,hst3⟩:=jpg HN.out hst
 obtain rfl:no=n:=by have:=Ho5.out.len;omega
 have HSz:=jpk (fun W (h:Below W5.heap.size W5 W)=>jfb O no co M o W (Ho5.out.up jan h) ZO (by have:=HN.out;omega) hst3 (fun k hk=>jgV ZO Hfo.out (jks hst) M k hk))
 have Hle:=jpk (show smQ (fvR o) no≤smQ x no from HE.out.great Hk.out hst1)
 have Heq:=jpk (show gsum M (fvR o) no=smQ (fvR o) no from by
  rw [show M=2 ^ no-1 by have:=HN.out;omega]
  exact jb2 Hk.out _)
 clear hst hst1 hst2 hst3
 go_wp2_with (go_at_call 20;refine (HS2.out _ K.1).mono ?_;rintro e W' ⟨rfl,hb⟩;replace K:=K.keep hb;clear hb r c0 c1;obtain ⟨c0,c1⟩:=HC5.out _ K.1;have r:=K.rawS)
 refine (HSz.out _ K.1).mono ?_
 rintro e W8 ⟨z2,rfl,gz2,⟨hza,hzb⟩,⟨hfa,hfb⟩,hb⟩
 replace K:=K.retF hb hza hzb hfa hfb
 clear hza hzb hfa hfb hb HSz r c0 c1
 obtain ⟨c0,c1⟩:=HC5.out _ K.1
 have r:=K.rawS
 have GZ2:=jpk (show isQ z2 (smQ (fvR o) no) from by rw [←Heq.out];exact gz2)
 clear gz2 Heq
 go_wp2_with (first
 | (refine ZAL ?_;clear K r c0 c1;(first | ((fail_if_success revert b0);intro W b0 K r) | ((fail_if_success revert b1);intro W b1 K r) | ((fail_if_success revert b2);intro W b2 K r) | ((fail_if_success revert b3);intro W b3 K r) | ((fail_if_success revert b4);intro W b4 K r) | intro W b K r);obtain ⟨c0,c1⟩:=HC5.out _ K.1)
 | (refine ZST ?_;clear K r c0 c1;intro W K r;obtain ⟨c0,c1⟩:=HC5.out _ K.1)
 | (go_at_call 18;refine (HCY.out _ K.1).mono ?_;rintro e W' ⟨rfl,hb⟩;replace K:=K.keep hb;clear hb r c0 c1;obtain ⟨c0,c1⟩:=HC5.out _ K.1;have r:=K.rawS)
 | (go_at_call 20;refine (HS1.out _ K.1).mono ?_;rintro e W' ⟨rfl,hb⟩;replace K:=K.keep hb;clear hb r c0 c1;obtain ⟨c0,c1⟩:=HC5.out _ K.1;have r:=K.rawS))
 refine (jcX K GZ2.out gz.out ZMB ZMB ZMB ZMB).mono ?_
 rintro e V1 ⟨rfl,k1⟩
 have hc9:=jcm.2 Hle.out
 generalize cmpQ (smQ (fvR o) no) (smQ x no)=cq at hc9 ⊢
 have hc8:decide (cq≤0)=true:=decide_eq_true hc9
 have HX:=jpk (HB5.out.trans (k1.1.mono HB5.out.size))
 clear k1 K r c0 c1
 go_wp2_with fail
 go_ret
 exact ⟨rfl,HX.out⟩
end Go.Proofs.YtgikfcjndiohjaaGreat
