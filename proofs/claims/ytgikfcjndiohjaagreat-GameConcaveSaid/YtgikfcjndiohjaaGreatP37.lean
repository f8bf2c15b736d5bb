/- Laws and walks; conditions stand in each theorem. -/
import Derived.Test.YtgikfcjndiohjaaGreatP36
set_option linter.unusedSimpArgs false
set_option linter.unusedVariables false
set_option maxHeartbeats 8000000
set_option maxRecDepth 100000
namespace Go.Proofs.YtgikfcjndiohjaaGreat
open Go.RowKit
def ordO (n:Nat) (lo:List Int) (k:Nat):Nat:=(if k<lo.length then (gi lo k).toNat else k)%n
theorem jfY (a b:Nat):((a:Nat):Int).tmod ((b:Nat):Int)=((a%b:Nat):Int):=rfl
theorem jfL (a b:Nat):((a:Nat):Int)%((b:Nat):Int)=((a%b:Nat):Int):=rfl
theorem bit0 (l:Nat):bitI 0 l=0:=by unfold bitI;simp
theorem isum0:∀n,n≤3→isum 0 (fun _=>1) n=(((0:Nat):Nat):Int):=fun n hn=>by
 have h:∀n,n<4→isum 0 (fun _=>1) n=0:=by decide +kernel
 exact h n ZO
theorem jn8:∀s,s<9→∀i,i<3→bits .or .i64 ((s:Nat):Int) (wrap64 (2 ^ i))=((s ||| 1 <<< i:Nat):Int):=by decide +kernel
theorem jn7:∀s,s<9→∀i,i<3→bits .or .i64 ((s:Nat):Int) (IntKind.i64.wrap (2 ^ i))=((s ||| 1 <<< i:Nat):Int):=by decide +kernel
theorem jnS:∀n,n<4→∀G,G<2 ^ n→∀w,w<n→bitI G w=0→G ||| 1 <<< w<2 ^ n∧isum (G ||| 1 <<< w) (fun _=>1) n=isum G (fun _=>1) n+1:=by decide +kernel
theorem jmv:∀G,G<8→∀w,w<3→∀j,j<3→(bitI (G ||| 1 <<< w) j=1→j=w∨bitI G j=1):=by decide +kernel
theorem jmh {p q:Int} (h1:0≤p) (h2:p≤1000000000000000) (h3:0≤q) (h4:q≤1000000000000000):jaF ((p-q:Int):Rat)=true:=by
 have h1:IsI ((p-q:Int):Rat) 1000000000000000:=⟨p-q,rfl,by omega⟩
 exact Pt.fitF (h1.pt1 (l:=3) Zb4 Zb4) Zb4
theorem nx_key:∀n,n<4→∀G,G<2 ^ n→isum G (fun _=>1) n<(n:Int)→∀w,w<n→bitI G (nxW n G n w)=0∧nxW n G n w<n:=by decide +kernel
theorem jmk:∀n,n<4→∀j,j<n→bitI (2 ^ n-1) j=1:=by decide +kernel
theorem jjr {n:Nat} {cs:List Int} {g:Nat} {f:Nat→Int} (hn:n≤3) (h:Fair n cs g f) (hb:∀i,0≤gi cs i∧gi cs i≤1000000000000000):∀j,j<n→0≤f j∧f j≤1000000000000000:=by
 obtain ⟨_,h1,_,h3⟩:=h
 have h4:n=0∨n=1∨n=2∨n=3:=by omega
 have h5:=(hb (2 ^ n-1)).2
 rw [←h3] at h5
 clear h3 hb
 have e10:bitI 1 0=1:=by decide
 have e30:bitI 3 0=1:=by decide
 have e31:bitI 3 1=1:=by decide
 have e70:bitI 7 0=1:=by decide
 have e71:bitI 7 1=1:=by decide
 have e72:bitI 7 2=1:=by decide
 intro j hj
 rcases h4 with rfl|rfl|rfl|rfl
 ·omega
 ·have:=h1 0 Zb4
  rw [show (2:Nat) ^ 1-1=1 from rfl] at h5
  simp only [isum,e10] at h5
  obtain rfl:j=0:=by omega
  omega
 ·have:=h1 0 Zb4
  have:=h1 1 Zb4
  rw [show (2:Nat) ^ 2-1=3 from rfl] at h5
  simp only [isum,e30,e31] at h5
  rcases (show j=0∨j=1 by omega) with rfl|rfl <;> omega
 ·have:=h1 0 Zb4
  have:=h1 1 Zb4
  have:=h1 2 Zb4
  rw [show (2:Nat) ^ 3-1=7 from rfl] at h5
  simp only [isum,e70,e71,e72] at h5
  rcases (show j=0∨j=1∨j=2 by omega) with rfl|rfl|rfl <;> omega
theorem jjs {n:Nat} {cs:List Int} {g:Nat} {f:Nat→Int} (hn:n≤3) (h:Fair n cs g f) (hb:∀i,0≤gi cs i∧gi cs i≤1000000000000000):Kd 1000000000000000 n (fun u=>((f u:Int):Rat)) :=
 ⟨1,by decide,by decide,fun u hu=>⟨f u,by rw [show (((1:Int):Int):Rat)=1 from rfl,Rat.mul_one],by have:=jjr hn h hb u hu;omega⟩⟩
theorem jgM {n:Nat} {cs:List Int} {g:Nat} {f:Nat→Int} (hn:n≤3) (h:Fair n cs g f) (hb:∀i,0≤gi cs i∧gi cs i≤1000000000000000):∀j,j<n→jaF ((f j:Int):Rat)=true:=fun j hj=>IsI.fit (jjr hn h hb j hj)
theorem jgN {n:Nat} {f:Nat→Int} (g':Nat):gsum g' (fvR (ofF n fun i=>fvQ ((f i:Int):Rat))) n=((isum g' f n:Int):Rat):=by
 rw [←jdJ]
 exact jaj fun l hl=>by rw [jcq (f:=fun i=>((f i:Int):Rat)) l hl]
theorem jjt {n M:Nat} {cs:List Int} {g:Nat} {f:Nat→Int} (hn:n≤3) (hN:M+1=2 ^ n) (h:Fair n cs g f) (hb:∀i,0≤gi cs i∧gi cs i≤1000000000000000):jc4 n (M+1) cs (ofF n fun i=>fvQ ((f i:Int):Rat))=true:=by
 refine jee (by rw [jag,decide_eq_true rfl,jdH (f:=fun i=>((f i:Int):Rat)) (fun u hu=>Rat.intCast_le_intCast.2 (h.2.1 u hu)) (jgM hn h hb)];rfl) fun g hg=>?_
 rw [jgN g]
 exact Rat.intCast_le_intCast.2 (h.2.2.1 g ZO)
theorem jeW (rd:Int) (C:Option Addr) (nc cc:Nat) (cs:List Int) (O:Option Addr) (no co:Nat) (lo:List Int) (w:World) (hc:RdI w w.heap.size C nc cc cs) (ho:Rd 1 (flat u8E) w w.heap.size O no co lo) (hlo:∀y∈lo,0≤y∧y≤255) :
 Calls Tryz.prog 5 #[.agg #[.int .i64 rd,.slice C nc cc],.slice O no co] w fun e w'=>e=.returned (.bool true)∧Below w.heap.size w w':=by
 have hcap:=hc.caps
 have hco:=ho.caps
 have K:=St.start w
 have r:=K.raw
 have HSm:=jpk jdS
 have HFw:=jpk (jed rd C nc cc)
 cases hf:(decide (rd≤3)&&decide (nc≤10))
 case false =>
  rw [hf] at HFw
  clear hf hc ho
  go_enter Tryz.func5,Tryz.ntmps5
  go_wp2_with (first
   | (apply K.box;rfl;rfl;rfl;clear K r;intro W b0 K;have r:=K.rawS)
   | (go_at_call 6;refine (HSm.out _).mono ?_;rintro e W' ⟨rfl,hb⟩;replace K:=K.keep hb;clear hb r;have r:=K.rawS)
   | (go_at_call 7;refine (HFw.out _).mono ?_;rintro e W' ⟨rfl,hb⟩;replace K:=K.keep hb;clear hb r;have r:=K.rawS)
   | (go_at_call 24;refine (HCv.out _ K.1).mono ?_;rintro e W' ⟨rfl,hb⟩;replace K:=K.keep hb;clear hb r;have r:=K.rawS)
   | (go_at_call 16;refine (HRt.out _ K.1).mono ?_;rintro e W' ⟨rfl,hb⟩;replace K:=K.keep hb;clear hb r;have r:=K.rawS)
   | (first | (refine ZAL ?_;clear K r;(first | ((fail_if_success revert b0);intro W b0 K r) | ((fail_if_success revert b1);intro W b1 K r) | ((fail_if_success revert b2);intro W b2 K r) | ((fail_if_success revert b3);intro W b3 K r) | intro W b K r)) | (refine ZST ?_;clear K r;intro W K r)))
  go_ret
  exact ⟨rfl,K.1⟩
 rw [hf] at HFw
 rw [Bool.and_eq_true,decide_eq_true_eq,decide_eq_true_eq] at hf
 have HRt:=jpk (fun W (h:Below w.heap.size w W)=>jcH rd C nc cc cs W (hc.up (jab _) h) hf.1 hf.2)
 cases hr:jfJ rd cs
 case false =>
  rw [hr] at HRt
  clear hf hr hc ho
  go_enter Tryz.func5,Tryz.ntmps5
  go_wp2_with (first
   | (apply K.box;rfl;rfl;rfl;clear K r;intro W b0 K;have r:=K.rawS)
   | (go_at_call 6;refine (HSm.out _).mono ?_;rintro e W' ⟨rfl,hb⟩;replace K:=K.keep hb;clear hb r;have r:=K.rawS)
   | (go_at_call 7;refine (HFw.out _).mono ?_;rintro e W' ⟨rfl,hb⟩;replace K:=K.keep hb;clear hb r;have r:=K.rawS)
   | (go_at_call 24;refine (HCv.out _ K.1).mono ?_;rintro e W' ⟨rfl,hb⟩;replace K:=K.keep hb;clear hb r;have r:=K.rawS)
   | (go_at_call 16;refine (HRt.out _ K.1).mono ?_;rintro e W' ⟨rfl,hb⟩;replace K:=K.keep hb;clear hb r;have r:=K.rawS)
   | (first | (refine ZAL ?_;clear K r;(first | ((fail_if_success revert b0);intro W b0 K r) | ((fail_if_success revert b1);intro W b1 K r) | ((fail_if_success revert b2);intro W b2 K r) | ((fail_if_success revert b3);intro W b3 K r) | intro W b K r)) | (refine ZST ?_;clear K r;intro W K r)))
  go_ret
  exact ⟨rfl,K.1⟩
 obtain ⟨n,M,rfl,rfl,hk,hN⟩:=jm8 hf.1 hc.len hr
 rw [hr] at HRt
 have hn3:=hk.hn
 obtain ⟨R,hR⟩:∃R:Bool,R=true↔jcW n cs:=by
  by_cases h:jcW n cs
  ·exact ⟨true,by simp [h]⟩
  ·exact ⟨false,by simp [h]⟩
 have HCv:=jpk (fun W (h:Below w.heap.size w W)=>jf6 n (M+1) cc C cs W (hc.up (jab _) h) hN hn3 hk.bd R hR)
 cases R
 case false =>
  clear hf hr hk hN hc ho hR
  go_enter Tryz.func5,Tryz.ntmps5
  go_wp2_with (first
   | (apply K.box;rfl;rfl;rfl;clear K r;intro W b0 K;have r:=K.rawS)
   | (go_at_call 6;refine (HSm.out _).mono ?_;rintro e W' ⟨rfl,hb⟩;replace K:=K.keep hb;clear hb r;have r:=K.rawS)
   | (go_at_call 7;refine (HFw.out _).mono ?_;rintro e W' ⟨rfl,hb⟩;replace K:=K.keep hb;clear hb r;have r:=K.rawS)
   | (go_at_call 24;refine (HCv.out _ K.1).mono ?_;rintro e W' ⟨rfl,hb⟩;replace K:=K.keep hb;clear hb r;have r:=K.rawS)
   | (go_at_call 16;refine (HRt.out _ K.1).mono ?_;rintro e W' ⟨rfl,hb⟩;replace K:=K.keep hb;clear hb r;have r:=K.rawS)
   | (first | (refine ZAL ?_;clear K r;(first | ((fail_if_success revert b0);intro W b0 K r) | ((fail_if_success revert b1);intro W b1 K r) | ((fail_if_success revert b2);intro W b2 K r) | ((fail_if_success revert b3);intro W b3 K r) | intro W b K r)) | (refine ZST ?_;clear K r;intro W K r)))
  go_ret
  exact ⟨rfl,K.1⟩
 by_cases hn0:n=0
 ·subst hn0
  clear hf hr hk hN hc ho hR
  go_enter Tryz.func5,Tryz.ntmps5
  go_wp2_with (first
   | (apply K.box;rfl;rfl;rfl;clear K r;intro W b0 K;have r:=K.rawS)
   | (go_at_call 6;refine (HSm.out _).mono ?_;rintro e W' ⟨rfl,hb⟩;replace K:=K.keep hb;clear hb r;have r:=K.rawS)
   | (go_at_call 7;refine (HFw.out _).mono ?_;rintro e W' ⟨rfl,hb⟩;replace K:=K.keep hb;clear hb r;have r:=K.rawS)
   | (go_at_call 24;refine (HCv.out _ K.1).mono ?_;rintro e W' ⟨rfl,hb⟩;replace K:=K.keep hb;clear hb r;have r:=K.rawS)
   | (go_at_call 16;refine (HRt.out _ K.1).mono ?_;rintro e W' ⟨rfl,hb⟩;replace K:=K.keep hb;clear hb r;have r:=K.rawS)
   | (first | (refine ZAL ?_;clear K r;(first | ((fail_if_success revert b0);intro W b0 K r) | ((fail_if_success revert b1);intro W b1 K r) | ((fail_if_success revert b2);intro W b2 K r) | ((fail_if_success revert b3);intro W b3 K r) | intro W b K r)) | (refine ZST ?_;clear K r;intro W K r)))
  go_ret
  exact ⟨rfl,K.1⟩
 have hp:=jbA n ZO
 rw [←hN,Nat.add_sub_cancel] at hp
 have hcp:=hR.1 rfl
 have HCo:=jpk (fun W (h:Below w.heap.size w W)=>jeX n M cc C cs W (hc.up (jab _) h) hk hN (jpk fun V h2=>HRt.out V (h.trans (h2.mono h.size))))
 have hM8:(M:Int)≤8:=by omega
 have HM7:=jpk (show M+1≤8 from by rw [hN];exact Nat.pow_le_pow_right Zb4 hn3)
 have hnz:(n:Int)≠0:=by omega
 have hnzd:((n:Int)==0)=false:=by simp [hn0]
 have Hk:=jpk hk
 have HN:=jpk hN
 have Hc:=jpk hc
 have Ho:=jpk ho
 have Hlo:=jpk hlo
 have HCp:=jpk hcp
 clear hf hr hk hN hp hc ho hR hcp hlo
 go_enter Tryz.func5,Tryz.ntmps5
 go_wp2_with (first
 | (apply K.box;rfl;rfl;rfl;clear K r;intro W b0 K;have r:=K.rawS)
 | (go_at_call 6;refine (HSm.out _).mono ?_;rintro e W' ⟨rfl,hb⟩;replace K:=K.keep hb;clear hb r;have r:=K.rawS)
 | (go_at_call 7;refine (HFw.out _).mono ?_;rintro e W' ⟨rfl,hb⟩;replace K:=K.keep hb;clear hb r;have r:=K.rawS)
 | (go_at_call 24;refine (HCv.out _ K.1).mono ?_;rintro e W' ⟨rfl,hb⟩;replace K:=K.keep hb;clear hb r;have r:=K.rawS)
 | (go_at_call 16;refine (HRt.out _ K.1).mono ?_;rintro e W' ⟨rfl,hb⟩;replace K:=K.keep hb;clear hb r;have r:=K.rawS)
 | (first | (refine ZAL ?_;clear K r;(first | ((fail_if_success revert b0);intro W b0 K r) | ((fail_if_success revert b1);intro W b1 K r) | ((fail_if_success revert b2);intro W b2 K r) | ((fail_if_success revert b3);intro W b3 K r) | intro W b K r)) | (refine ZST ?_;clear K r;intro W K r)))
 refine (HCo.out _ K.1).mono ?_
 rintro e W5 ⟨X1,k1,X2,k2,x,y,s,rfl,hE,hx,hy,hft,hs,⟨hsa,hsb⟩,hb5⟩
 have hk:=Hk.out
 have hN:=HN.out
 have HB5:=jpk (K.1.trans (hb5.mono K.1.size))
 have HC5:=jpk (show ∀V,Below W5.heap.size W5 V→V.cell? ⟨b0,0,none⟩=some (.int .i64 (n:Int))∧V.cell? ⟨b0,1,none⟩=some (.slice C (M+1:Nat) cc) from fun V h=>by
  have hB:=(K.keep hb5).blk (b:=b0) (cs:=#[.int .i64 (n:Int),.slice C (M+1:Nat) cc]) (t:=24) ZMB
  exact ZQ71)
 have HI5:=jpk (Hc.out.up (jab _) HB5.out)
 have HO5:=jpk (Ho.out.up (jab _) HB5.out)
 have hfair:=jpk (jmE (o:=ordO n lo) hn3 ZO hk.zero HCp.out (fun k _=>Nat.mod_lt _ ZO))
 have hs0:s.s=0:=by
  have ht:=hE.tight hk hfair.out.2.1 hfair.out.2.2.1 hfair.out.2.2.2
  rw [show 2 ^ n-1=M by omega] at ht
  rw [ht,Rat.sub_self] at hs
  have h1:s.s=sgI (0:Rat).num:=hs.1.1.1
  rw [h1]
  decide
 obtain ⟨vb,vo,hA,hvb,-⟩:=RdI.cellAt HI5.out (k:=0) ZO
 subst hA
 have HCe:=jpk (fun V (h:Below W5.heap.size W5 V) k (hk:k<M+1)=>(show V.cell? ⟨vb,vo+k,none⟩=some (.int .i64 (gi cs k)) from by
  obtain ⟨b',o',e,hb',hc'⟩:=RdI.cellAt HI5.out hk
  cases e
  exact (h.cell (p:=⟨vb,vo+k,none⟩) hb').trans hc'))
 have K5:=St.start W5
 clear K r hE hx hy hft hs hsa hsb hb5 hk hN HCo HFw HRt HSm HCv Hc Ho
 have K:=K5
 clear K5
 obtain ⟨c0,c1⟩:=HC5.out _ K.1
 have r:=K.raw
 go_wp2_with (first
 | (refine ZAL ?_;clear K r c0 c1;(first | ((fail_if_success revert b0);intro W b0 K r) | ((fail_if_success revert b1);intro W b1 K r) | ((fail_if_success revert b2);intro W b2 K r) | ((fail_if_success revert b3);intro W b3 K r) | intro W b K r);obtain ⟨c0,c1⟩:=HC5.out _ K.1)
 | (refine ZST ?_;clear K r c0 c1;intro W K r;obtain ⟨c0,c1⟩:=HC5.out _ K.1)
 | (at_make;refine K.make rfl _ _ _ _ rfl _ _ _ Tryz.underlying25 jbF n rfl rfl _ (jeB n) ZO ZO ?_;clear K r c0 c1;intro W0 g K;obtain ⟨c0,c1⟩:=HC5.out _ K.1;have r:=K.rawS))
 have Hs0:=jpk hs0
 obtain ⟨oF,hoF⟩:∃oF,oF=ordO n lo:=⟨_,rfl⟩
 rw [←hoF] at hfair
 have HoF:=jpk hoF
 have K2:=K.rwNew n
 clear K r c0 c1 hoF hs0
 go_loopg [11,12] n (fun gk s11 s12 wr=>∃(k G:Nat) (v:Nat→Rw),k≤n∧gk=n-k∧s11=.int .i64 G∧s12=.int .i64 k∧Hid (G<M+1)∧Hid (G=(mrg n cs oF k).1∧isum G (fun _=>1) n=k∧∀j,j<n→bitI G j=1→isQ (v j) (((mrg n cs oF k).2 j:Int):Rat))∧St W5 [((g,rwA n v [],29):Blk),(b1,#[.int .i64 0,.slice s.A s.n s.c,.int .i64 s.t,.slice s.B s.m s.d],29)] [⟨rwP n v,rwS n v⟩] wr)
 case atStart=>exact ⟨0,0,fun _=>Rw.zero,Nat.zero_le _,rfl,rfl,rfl,jpk ZO,jpk ⟨rfl,isum0 n hn3,fun j hj hb=>absurd hb (by rw [bit0];decide)⟩,K2⟩
 case round =>
  clear K2
  obtain ⟨k,G,v,hk,rfl,rfl,rfl,HG,HV,K⟩:=hrel
  obtain ⟨c0,c1⟩:=HC5.out _ K.1
  by_cases hlt:k<n
  ·have hki:(k:Int)<(n:Int):=by omega
   have hk0:(0:Int)≤(k:Int):=by omega
   have hltd:decide (k<n)=true:=decide_eq_true hlt
   have hn1:(0:Int)<(n:Int):=by omega
   obtain ⟨ws,hws⟩:∃ws,ws=nxW n G n (oF k):=⟨_,rfl⟩
   have HW:=jpk (nx_key n ZO G (by have:=HG.out;have:=HN.out;omega) (by have:=HV.out.2.1;omega) (oF k) (by rw [HoF.out];exact Nat.mod_lt _ ZO))
   rw [←hws] at HW
   have HWs:=jpk hws
   clear hws
   by_cases hko:k<no
   ·obtain ⟨ob,oo,hO,hob,hoc⟩:=HO5.out.atB hko
    subst hO
    have hok:(k:Int)<(no:Int):=by omega
    have hokd:decide (k<no)=true:=decide_eq_true hko
    obtain ⟨u,hu⟩:∃u:Nat,u=(gi lo k).toNat:=⟨_,rfl⟩
    have hgi:gi lo k=((u:Nat):Int):=by have:=(jjB Hlo.out k).1;omega
    have hu255:u≤255:=by have:=(jjB Hlo.out k).2;omega
    rw [hgi] at hoc
    have Hu:=jpk (show u%n=oF k from by
     rw [HoF.out]
     unfold ordO
     rw [if_pos (by have:=HO5.out.len;omega),←hu])
    have q0:=(K.1.cell (p:=⟨ob,oo+k,none⟩) hob).trans hoc
    clear hu hgi
    have hrem:=jfY u n
    have hrem2:=jfL u n
    obtain ⟨w0,hw0⟩:∃w0:Nat,w0=u%n:=⟨_,rfl⟩
    exact ZQ4
   ·have hok:¬(k:Int)<(no:Int):=by omega
    have hokd:decide (k<no)=false:=decide_eq_false hko
    have Hu:=jpk (show k%n=oF k from by
     rw [HoF.out]
     unfold ordO
     rw [if_neg (by have:=HO5.out.len;omega)])
    have hu255:k≤255:=by omega
    have hrem:=jfY k n
    have hrem2:=jfL k n
    obtain ⟨w0,hw0⟩:∃w0:Nat,w0=k%n:=⟨_,rfl⟩
    exact ZQ4
  ·obtain rfl:n=k:=by omega
   have hkd:¬(n:Int)<(n:Int):=by omega
   have hltd:decide (n<n)=false:=decide_eq_false ZO
   obtain ⟨f,hf⟩:∃f:Nat→Int,f=(mrg n cs oF n).2:=⟨_,rfl⟩
   have HFa:Hid (Fair n cs G f):=jpk (by have h1:=hfair.out;rw [←hf,←HV.out.1] at h1;exact h1)
   have hGM:M=G:=by have h1:=HFa.out.1;have:=HN.out;omega
   subst hGM
   have hrd:=K.rdOwn (x:=fun j=>((f j:Int):Rat)) ZMB ZO (fun j hj=>by
    show isQ (v j) ((f j:Int):Rat)
    rw [hf]
    exact HV.out.2.2 j hj (by have h1:=HFa.out.1;rw [h1];exact jmk n ZO j hj))
   have HB8:=jpk (HB5.out.trans (K.1.mono HB5.out.size))
   have HU:=jpk (fun V (h:Below wr.heap.size wr V)=>K.1.trans (h.mono K.1.size))
   have HI8:=HI5.out.up (jab _) K.1
   have HS1:=jpk (fun W (h:Below wr.heap.size wr W)=>jdA n (M+1) cc (some ⟨vb,vo,none⟩) cs (some ⟨g,0,none⟩) n n (ofF n fun i=>fvQ ((f i:Int):Rat)) W (HI8.up (jab _) h) HN.out ZO Hk.out.bd (hrd.up jan h) (fun _ g k hk2=>((jjs hn3 HFa.out Hk.out.bd).congr (y:=fvR (ofF n fun i=>fvQ ((f i:Int):Rat))) (fun u hu=>jcq (f:=fun i=>((f i:Int):Rat)) u hu)).gadd ZO Zb4 Zb4 g k hk2))
   rw [jjt hn3 HN.out HFa.out Hk.out.bd] at HS1
   have HSz:=jpk (fun W (h:Below wr.heap.size wr W)=>jfb (some ⟨g,0,none⟩) n n M (ofF n fun i=>fvQ ((f i:Int):Rat)) W (hrd.up jan h) ZO (by have:=HN.out;omega) (jfj fun i hi=>jew (jgM hn3 HFa.out Hk.out.bd i hi)) (fun k hk2=>((jjs hn3 HFa.out Hk.out.bd).congr (y:=fvR (ofF n fun i=>fvQ ((f i:Int):Rat))) (fun u hu=>jcq (f:=fun i=>((f i:Int):Rat)) u hu)).gadd ZO Zb4 Zb4 M k hk2))
   obtain ⟨vc,hvc⟩:∃vc,vc=gi cs M:=⟨_,rfl⟩
   have Heq:=jpk (show gsum M (fvR (ofF n fun i=>fvQ ((f i:Int):Rat))) n=((vc:Int):Rat) from by
    have h3:=HFa.out.2.2.2
    rw [←HFa.out.1] at h3
    rw [jgN M,h3,hvc])
   have HBm:=jpk (show 0≤vc∧vc≤1000000000000000 from by rw [hvc];exact Hk.out.bd M)
   have HC8:=jpk (fun V (h:Below wr.heap.size wr V)=>(show (V.cell? ⟨b0,0,none⟩=some (.int .i64 (n:Int))∧V.cell? ⟨b0,1,none⟩=some (.slice (some ⟨vb,vo,none⟩) (M+1:Nat) cc))∧V.cell? ⟨vb,vo+M,none⟩=some (.int .i64 vc) from ⟨HC5.out V (HU.out V h),by rw [hvc];exact HCe.out V (HU.out V h) M ZO⟩))
   have K8:=St.start wr
   clear K c0 c1 HI8 hrd HV HG hfair HoF hf hvc HCe HI5 HO5 Hs0 HB5 HC5 hk HU
   have K:=K8
   clear K8
   obtain ⟨⟨c0,c1⟩,c2⟩:=HC8.out _ K.1
   have r:=K.raw
   go_wp2_with fail
   refine (HSz.out _ K.1).mono ?_
   rintro e W8 ⟨z2,rfl,gz2,⟨hza,hzb⟩,⟨hfa,hfb⟩,hb⟩
   replace K:=K.retF hb hza hzb hfa hfb
   clear hza hzb hfa hfb hb HSz r c0 c1 c2
   obtain ⟨⟨c0,c1⟩,c2⟩:=HC8.out _ K.1
   have r:=K.rawS
   have GZ2:=jpk (show isQ z2 ((vc:Int):Rat) from by rw [←Heq.out];exact gz2)
   clear gz2 Heq
   go_wp2_with (first
    | (refine ZAL ?_;clear K r c0 c1 c2;(first | ((fail_if_success revert b0);intro W b0 K r) | ((fail_if_success revert b1);intro W b1 K r) | ((fail_if_success revert b2);intro W b2 K r) | ((fail_if_success revert b3);intro W b3 K r) | intro W b K r);obtain ⟨⟨c0,c1⟩,c2⟩:=HC8.out _ K.1)
    | (refine ZST ?_;clear K r c0 c1 c2;intro W K r;obtain ⟨⟨c0,c1⟩,c2⟩:=HC8.out _ K.1))
   have HS:=jpk (fun V L5 D5 (h:St wr L5 D5 V) (m4:((b2,#[.int .i64 z2.s,.slice z2.A z2.n z2.c,.int .i64 z2.t,.slice z2.B z2.m z2.d],29):Blk)∈L5)=>(show (V.cell? ⟨b2,0,none⟩=some (.int .i64 z2.s)∧V.cell? ⟨b2,1,none⟩=some (.slice z2.A z2.n z2.c)∧V.cell? ⟨b2,2,none⟩=some (.int .i64 z2.t)∧V.cell? ⟨b2,3,none⟩=some (.slice z2.B z2.m z2.d))∧(V.cell? ⟨b0,0,none⟩=some (.int .i64 (n:Int))∧V.cell? ⟨b0,1,none⟩=some (.slice (some ⟨vb,vo,none⟩) (M+1:Nat) cc))∧V.cell? ⟨vb,vo+M,none⟩=some (.int .i64 vc) from ⟨⟨(h.blk m4).cell (j:=0) rfl,(h.blk m4).cell (j:=1) rfl,(h.blk m4).cell (j:=2) rfl,(h.blk m4).cell (j:=3) rfl⟩,HC8.out _ h.1⟩))
   have hM0:(M:Int)<(M:Int)+1:=by omega
   have hM1:(0:Int)≤(M:Int):=by omega
   have K0:=K.drew
   have s0:=HS.out _ _ _ K0 ZMB
   clear K r c0 c1 c2
   refine jak 100 (fun V=>(V.cell? ⟨b2,0,none⟩=some (.int .i64 z2.s)∧V.cell? ⟨b2,1,none⟩=some (.slice z2.A z2.n z2.c)∧V.cell? ⟨b2,2,none⟩=some (.int .i64 z2.t)∧V.cell? ⟨b2,3,none⟩=some (.slice z2.B z2.m z2.d))∧(V.cell? ⟨b0,0,none⟩=some (.int .i64 (n:Int))∧V.cell? ⟨b0,1,none⟩=some (.slice (some ⟨vb,vo,none⟩) (M+1:Nat) cc))∧V.cell? ⟨vb,vo+M,none⟩=some (.int .i64 vc)) Zb9 s0 (fun hSh=>?_)
   clear s0
   generalize World.drew _=V0 at K0 hSh ⊢
   refine jaa.tkB 0 rfl ?_
   refine jaa.tkB 1 rfl ?_
   refine jaa.tkB 2 rfl ?_
   refine jaa.tkB 3 rfl ?_
   refine jaa.onW 4 rfl fun KK hKK=>?_
   go_simp
   refine (HS1.out _ K0.1).mono ?_
   rintro e V1 ⟨rfl,hb⟩
   have k1:=K0.keep hb
   clear K0 hb
   go_wp2_with fail
   refine hKK.out _ _ (HS.out _ _ _ k1 ZMB) (fun hSq=>?_)
   have hSh:=HS.out _ _ _ k1 ZMB
   clear hKK KK hSq
   refine ZPT ?_
   refine jaa.tkB 5 rfl ?_
   refine jaa.tkB 6 rfl ?_
   refine jaa.tkB 7 rfl ?_
   refine jaa.tkB 8 rfl ?_
   refine jaa.tkB 9 rfl ?_
   refine jaa.tkB 10 rfl ?_
   refine jaa.tkB 11 rfl ?_
   refine jaa.tkB 12 rfl ?_
   refine jaa.tkB 13 rfl ?_
   refine jaa.tkB 14 rfl ?_
   refine jaa.tkB 15 rfl ?_
   refine jaa.tkB 16 rfl ?_
   refine jaa.onW 17 rfl fun KK hKK=>?_
   go_simp
   refine (jgX z2 vc 1 ((vc:Int):Rat) _ (k1.rd ZMB) (k1.rd ZMB) (fun W=>jg1 vc W (by have:=HBm.out;omega)) GZ2.out.fv).mono ?_
   rintro e V2 ⟨rfl,hb⟩
   have k2:=k1.keep hb
   clear k1 hb
   go_wp2_with fail
   refine hKK.out _ _ (HS.out _ _ _ k2 ZMB) (fun hSq=>?_)
   have hSh:=HS.out _ _ _ k2 ZMB
   clear hKK KK hSq
   refine ZPT ?_
   refine jaa.tkB 18 rfl ?_
   refine jaa.tkB 19 rfl ?_
   refine jaa.done Zb9 ?_
   have HX:=jpk (HB8.out.trans (k2.1.mono HB8.out.size))
   clear k2 hSh HS
   go_wp2_with fail
   go_ret
   exact ⟨rfl,HX.out⟩
end Go.Proofs.YtgikfcjndiohjaaGreat
