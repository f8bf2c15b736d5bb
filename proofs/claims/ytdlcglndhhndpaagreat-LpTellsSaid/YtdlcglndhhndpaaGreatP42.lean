/- Laws and walks; conditions stand in each theorem. -/
import Derived.Test.YtdlcglndhhndpaaGreatP41
set_option linter.unusedSimpArgs false
set_option linter.unusedVariables false
set_option maxHeartbeats 8000000
set_option maxRecDepth 100000
namespace Go.Proofs.YtdlcglndhhndpaaGreat
open Go.RowKit
theorem jch (A A':Option Addr) (n cap m cap':Nat) (l:List Fv) (ls:List Rv) (w:World) (hl:RdF w w.heap.size A n cap l) (hr:RdR w w.heap.size A' m cap' ls) (hn:n≤20) (hm:m≤40) :
 Calls Tryz.prog 27 #[.agg #[.slice A n cap,.slice A' m cap']] w fun e w'=>e=.returned (.bool (l.all Fv.ok&&ls.all (rowF n)))∧Below w.heap.size w w':=by
 have hcap:=hl.caps;have hcap':=hr.caps;have Hlen:=jmT hr.len;have HL:=jmT hr;have HAl:=jmT (fun W (h:Below w.heap.size w W)=>jeM A n cap l W (hl.up jan h));have hn1:¬(n:Int)>20:=by omega
 have hm1:¬(m:Int)>40:=by omega
 have hnd:decide ((n:Int)>20)=false:=decide_eq_false hn1;have hmd:decide ((m:Int)>40)=false:=decide_eq_false hm1;have K:=St.start w;clear hl hr;cases hal:l.all Fv.ok
 ·rw [hal] at HAl;clear hal;go_enter Tryz.func27,Tryz.ntmps27
  go_wp2_with (first
   | (apply K.box;rfl;rfl;rfl;clear K;intro W b0 K;have c0':=(K.blk (b:=b0) (cs:=#[.slice A n cap,.slice A' m cap']) (t:=38) ZMB).cell (j:=0) rfl;have c1':=(K.blk (b:=b0) (cs:=#[.slice A n cap,.slice A' m cap']) (t:=38) ZMB).cell (j:=1) rfl)
   | (go_at_call 72;refine (HAl.out _ K.1).mono ?_;rintro e W ⟨rfl,hb⟩;replace K:=K.keep hb;clear hb c0' c1';have c0':=(K.blk (b:=b0) (cs:=#[.slice A n cap,.slice A' m cap']) (t:=38) ZMB).cell (j:=0) rfl;have c1':=(K.blk (b:=b0) (cs:=#[.slice A n cap,.slice A' m cap']) (t:=38) ZMB).cell (j:=1) rfl))
  go_ret;exact ⟨rfl,K.1⟩
 rw [hal] at HAl;clear hal;obtain ⟨R,hR⟩:∃R,R=(true&&ls.all (rowF n)):=⟨_,rfl⟩;rw [←hR]
 have HNo:=jmT (show ∀(i:Nat) x,ls[i]?=some x→rowF n x=false→R=false from fun i x hx h=>by
  rw [hR,Bool.true_and,List.all_eq_false]
  exact ⟨x,List.mem_of_getElem? hx,by rw [h];simp⟩)
 have HYes:=jmT (show (∀(i:Nat) x,i<m→ls[i]?=some x→rowF n x=true)→R=true from fun h1=>by
  rw [hR,Bool.true_and,List.all_eq_true];intro x hx;obtain ⟨i,hi,rfl⟩:=List.mem_iff_getElem.1 hx
  exact h1 i _ (by have:=Hlen.out;omega) (List.getElem?_eq_getElem hi))
 clear hR;go_enter Tryz.func27,Tryz.ntmps27
 go_wp2_with (first
  | (apply K.box;rfl;rfl;rfl;clear K;intro W b0 K;have c0':=(K.blk (b:=b0) (cs:=#[.slice A n cap,.slice A' m cap']) (t:=38) ZMB).cell (j:=0) rfl;have c1':=(K.blk (b:=b0) (cs:=#[.slice A n cap,.slice A' m cap']) (t:=38) ZMB).cell (j:=1) rfl)
  | (go_at_call 72;refine (HAl.out _ K.1).mono ?_;rintro e W ⟨rfl,hb⟩;replace K:=K.keep hb;clear hb c0' c1';have c0':=(K.blk (b:=b0) (cs:=#[.slice A n cap,.slice A' m cap']) (t:=38) ZMB).cell (j:=0) rfl;have c1':=(K.blk (b:=b0) (cs:=#[.slice A n cap,.slice A' m cap']) (t:=38) ZMB).cell (j:=1) rfl))
 clear c0' c1'
 go_loopg [3] m (fun gk s3 wr=>∃(k:Nat),k≤m∧gk=m-k∧s3=.int .i64 k∧Hid (∀(j:Nat) x,j<k→ls[j]?=some x→rowF n x=true)∧St w [((b0,#[.slice A n cap,.slice A' m cap'],38):Blk)] [] wr)
 case atStart=>exact ⟨0,Nat.zero_le _,rfl,rfl,jmT (fun j x h=>absurd h ZO),K⟩
 case round =>
  clear K;obtain ⟨k,hk,rfl,rfl,HA,K⟩:=hrel;have c0':=(K.blk (b:=b0) (cs:=#[.slice A n cap,.slice A' m cap']) (t:=38) ZMB).cell (j:=0) rfl;have c1':=(K.blk (b:=b0) (cs:=#[.slice A n cap,.slice A' m cap']) (t:=38) ZMB).cell (j:=1) rfl;by_cases hlt:k<m
  ·obtain ⟨eb,eo,A0,n0,c0,A1,n1,c1,A2,n2,c2,x,hA,hbB,hx,⟨z0,z1,z2,z3,z4⟩,r0,r1,r2⟩:=HL.out.atR hlt;subst hA;have hki:(k:Int)<(m:Int):=by omega
   have hk0:(0:Int)≤(k:Int):=by omega
   have hltd:decide (k<m)=true:=decide_eq_true hlt;have hc0:=r0.caps;have hc1:=r1.caps;have hc2:=r2.caps;have hlx:=r0.len
   have HS:=jmT (fun V L5 D5 (h:St w L5 D5 V) (mb:((b0,#[.slice A n cap,.slice (some ⟨eb,eo,none⟩) m cap'],38):Blk)∈L5)=>(show (V.cell? ⟨b0,0,none⟩=some (.slice A n cap)∧V.cell? ⟨b0,1,none⟩=some (.slice (some ⟨eb,eo,none⟩) m cap'))∧V.cell? ⟨eb,eo+k*5,none⟩=some (.slice A0 n0 c0)∧V.cell? ⟨eb,eo+k*5+1,none⟩=some (.int .i64 x.b.s)∧V.cell? ⟨eb,eo+k*5+2,none⟩=some (.slice A1 n1 c1)∧V.cell? ⟨eb,eo+k*5+3,none⟩=some (.int .i64 x.b.t)∧V.cell? ⟨eb,eo+k*5+4,none⟩=some (.slice A2 n2 c2) from ⟨⟨(h.blk mb).cell (j:=0) rfl,(h.blk mb).cell (j:=1) rfl⟩,(h.1.cell (p:=⟨eb,eo+k*5,none⟩) hbB).trans z0,(h.1.cell (p:=⟨eb,eo+k*5+1,none⟩) hbB).trans z1,(h.1.cell (p:=⟨eb,eo+k*5+2,none⟩) hbB).trans z2,(h.1.cell (p:=⟨eb,eo+k*5+3,none⟩) hbB).trans z3,(h.1.cell (p:=⟨eb,eo+k*5+4,none⟩) hbB).trans z4⟩));have HAr:=jmT (fun V (h:Below w.heap.size w V)=>jeM A0 n0 c0 x.a V (r0.up jan h))
   have HRi:=jmT (fun V (h:Below w.heap.size w V)=>jaY x.b.s x.b.t A1 A2 n1 c1 n2 c2 x.b.l x.b.m V (r1.up (jab _) h) (r2.up (jab _) h));have hokv:jap x.b.s x.b.l x.b.t x.b.m=x.b.ok:=rfl;rw [hokv] at HRi;have HNk:=jmT (HNo.out k x hx);have Hx:=jmT hx;clear z0 z1 z2 z3 z4 r0 r1 r2 hbB hokv hx;by_cases hnn:n0=n
   case neg =>
    have hne:¬(n0:Int)=(n:Int):=by omega
    have hned:((n0:Int) !=(n:Int))=true:=by rw [bne_iff_ne];exact hne
    have HN:=jmT (HNk.out (by unfold rowF;rw [decide_eq_false ZO];rfl));clear HNk HA hlx HNo HYes;go_upto_region 6 with fail;have K0:=K.drew;have s0:=HS.out _ _ _ K0 ZMB;clear K c0' c1';refine jah 100 (fun V=>(V.cell? ⟨b0,0,none⟩=some (.slice A n cap)∧V.cell? ⟨b0,1,none⟩=some (.slice (some ⟨eb,eo,none⟩) m cap'))∧V.cell? ⟨eb,eo+k*5,none⟩=some (.slice A0 n0 c0)∧V.cell? ⟨eb,eo+k*5+1,none⟩=some (.int .i64 x.b.s)∧V.cell? ⟨eb,eo+k*5+2,none⟩=some (.slice A1 n1 c1)∧V.cell? ⟨eb,eo+k*5+3,none⟩=some (.int .i64 x.b.t)∧V.cell? ⟨eb,eo+k*5+4,none⟩=some (.slice A2 n2 c2)) Zb9 s0 (fun hSh=>?_);clear s0;refine jaa.tkB 0 rfl ?_;refine jaa.tkB 1 rfl ?_;refine jaa.tkB 2 rfl ?_;refine jaa.tkB 3 rfl ?_;refine jaa.tkB 4 rfl ?_;refine jaa.tkB 5 rfl ?_;refine jaa.tkB 6 rfl ?_;refine jaa.tkB 7 rfl ?_;refine jaa.tkB 8 rfl ?_;refine jaa.tkB 9 rfl ?_;refine jaa.tkB 10 rfl ?_;refine jaa.tkB 11 rfl ?_
    refine jaa.tkN 12 rfl ?_;refine jaa.tkN 13 rfl ?_;refine jaa.tkN 14 rfl ?_;refine jaa.tkN 15 rfl ?_;refine jaa.tkN 16 rfl ?_;refine jaa.tkN 17 rfl ?_;refine jaa.tkN 18 rfl ?_;refine jaa.tkN 19 rfl ?_;exact ZQ62
   have hnn:=hnn.symm;subst hnn;have hned:((n:Int) !=(n:Int))=false:=by simp
   cases ha:x.a.all Fv.ok
   ·have HN:=jmT (HNk.out (by unfold rowF;rw [ha,Bool.and_false]));rw [ha] at HAr;clear HNk HA hlx ha HNo HYes;go_upto_region 6 with fail;have K0:=K.drew;have s0:=HS.out _ _ _ K0 ZMB;clear K c0' c1';refine jah 100 (fun V=>(V.cell? ⟨b0,0,none⟩=some (.slice A n cap)∧V.cell? ⟨b0,1,none⟩=some (.slice (some ⟨eb,eo,none⟩) m cap'))∧V.cell? ⟨eb,eo+k*5,none⟩=some (.slice A0 n c0)∧V.cell? ⟨eb,eo+k*5+1,none⟩=some (.int .i64 x.b.s)∧V.cell? ⟨eb,eo+k*5+2,none⟩=some (.slice A1 n1 c1)∧V.cell? ⟨eb,eo+k*5+3,none⟩=some (.int .i64 x.b.t)∧V.cell? ⟨eb,eo+k*5+4,none⟩=some (.slice A2 n2 c2)) Zb9 s0 (fun hSh=>?_);clear s0;refine jaa.tkB 0 rfl ?_;refine jaa.tkB 1 rfl ?_;refine jaa.tkB 2 rfl ?_;refine jaa.tkB 3 rfl ?_;refine jaa.tkB 4 rfl ?_;refine jaa.tkB 5 rfl ?_;refine jaa.tkB 6 rfl ?_;refine jaa.tkB 7 rfl ?_;refine jaa.tkB 8 rfl ?_;refine jaa.tkB 9 rfl ?_;refine jaa.tkB 10 rfl ?_;refine jaa.tkB 11 rfl ?_
    refine jaa.tkB 12 rfl ?_;refine jaa.tkB 13 rfl ?_;refine jaa.tkB 14 rfl ?_;refine jaa.tkB 15 rfl ?_;refine jaa.tkB 16 rfl ?_;refine jaa.tkB 17 rfl ?_;refine jaa.onW 18 rfl fun KK hKK=>?_
    go_simp;go_at_call 72;refine (HAr.out _ K0.1).mono ?_;rintro e W5 ⟨rfl,hb5⟩;replace K0:=K0.keep hb5;clear hb5;go_wp2_with fail;refine hKK.out _ _ (HS.out _ _ _ K0 ZMB) (fun hSh=>?_);clear hKK KK;refine ZPT ?_;refine jaa.tkB 19 rfl ?_;exact ZQ62
   rw [ha] at HAr;cases hb:x.b.ok
   ·have HN:=jmT (HNk.out (by unfold rowF;rw [hb,Bool.and_false,Bool.false_and]));rw [hb] at HRi;clear HNk HA hlx ha hb HNo HYes;go_upto_region 6 with fail;have K0:=K.drew;have s0:=HS.out _ _ _ K0 ZMB;clear K c0' c1';refine jah 100 (fun V=>(V.cell? ⟨b0,0,none⟩=some (.slice A n cap)∧V.cell? ⟨b0,1,none⟩=some (.slice (some ⟨eb,eo,none⟩) m cap'))∧V.cell? ⟨eb,eo+k*5,none⟩=some (.slice A0 n c0)∧V.cell? ⟨eb,eo+k*5+1,none⟩=some (.int .i64 x.b.s)∧V.cell? ⟨eb,eo+k*5+2,none⟩=some (.slice A1 n1 c1)∧V.cell? ⟨eb,eo+k*5+3,none⟩=some (.int .i64 x.b.t)∧V.cell? ⟨eb,eo+k*5+4,none⟩=some (.slice A2 n2 c2)) Zb9 s0 (fun hSh=>?_);clear s0;refine jaa.tkB 0 rfl ?_;refine jaa.tkB 1 rfl ?_;refine jaa.tkB 2 rfl ?_;refine jaa.tkB 3 rfl ?_;refine jaa.tkB 4 rfl ?_;refine jaa.tkB 5 rfl ?_;refine jaa.tkB 6 rfl ?_;refine jaa.tkB 7 rfl ?_;refine jaa.tkB 8 rfl ?_;refine jaa.tkB 9 rfl ?_;refine jaa.tkB 10 rfl ?_
    refine jaa.tkB 11 rfl ?_;refine jaa.tkB 12 rfl ?_;refine jaa.tkB 13 rfl ?_;refine jaa.tkB 14 rfl ?_;refine jaa.tkB 15 rfl ?_;refine jaa.tkB 16 rfl ?_;refine jaa.tkB 17 rfl ?_;refine jaa.onW 18 rfl fun KK hKK=>?_
    go_simp;go_at_call 72;refine (HAr.out _ K0.1).mono ?_;rintro e W5 ⟨rfl,hb5⟩;replace K0:=K0.keep hb5;clear hb5;go_wp2_with fail;refine hKK.out _ _ (HS.out _ _ _ K0 ZMB) (fun hSh=>?_);clear hKK KK;refine ZPT ?_;refine jaa.tkB 19 rfl ?_;refine jaa.tkB 20 rfl ?_;refine jaa.tkB 21 rfl ?_;refine jaa.tkB 22 rfl ?_;refine jaa.tkB 23 rfl ?_;refine jaa.tkB 24 rfl ?_;refine jaa.tkB 25 rfl ?_;refine jaa.tkB 26 rfl ?_;refine jaa.tkB 27 rfl ?_;refine jaa.onW 28 rfl fun KK hKK=>?_
    go_simp;go_at_call 49;refine (HRi.out _ K0.1).mono ?_;rintro e W6 ⟨rfl,hb6⟩;replace K0:=K0.keep hb6;clear hb6;go_wp2_with fail;refine hKK.out _ _ (HS.out _ _ _ K0 ZMB) (fun hSh=>?_);clear hKK KK;refine ZPT ?_;refine jaa.tkB 29 rfl ?_;refine jaa.tkB 30 rfl ?_;refine jaa.done Zb9 ?_;clear hSh;go_wp2_with fail;go_ret;exact ⟨by rw [HN.out];rfl,K0.1⟩
   rw [hb] at HRi
   have HA2:=jmT (show ∀(j:Nat) z,j<k+1→ls[j]?=some z→rowF n z=true from fun j z hj hz=>by
    by_cases e:j=k
    ·subst e;rw [Hx.out] at hz;cases hz;unfold rowF;rw [decide_eq_true ZO,ha,hb];rfl
    ·exact HA.out j z ZO hz)
   clear HNk HA hlx ha hb HNo;go_upto_region 6 with fail;have K0:=K.drew;have s0:=HS.out _ _ _ K0 ZMB;clear K c0' c1';refine jah 100 (fun V=>(V.cell? ⟨b0,0,none⟩=some (.slice A n cap)∧V.cell? ⟨b0,1,none⟩=some (.slice (some ⟨eb,eo,none⟩) m cap'))∧V.cell? ⟨eb,eo+k*5,none⟩=some (.slice A0 n c0)∧V.cell? ⟨eb,eo+k*5+1,none⟩=some (.int .i64 x.b.s)∧V.cell? ⟨eb,eo+k*5+2,none⟩=some (.slice A1 n1 c1)∧V.cell? ⟨eb,eo+k*5+3,none⟩=some (.int .i64 x.b.t)∧V.cell? ⟨eb,eo+k*5+4,none⟩=some (.slice A2 n2 c2)) Zb9 s0 (fun hSh=>?_);clear s0;refine jaa.tkB 0 rfl ?_;refine jaa.tkB 1 rfl ?_;refine jaa.tkB 2 rfl ?_;refine jaa.tkB 3 rfl ?_;refine jaa.tkB 4 rfl ?_;refine jaa.tkB 5 rfl ?_;refine jaa.tkB 6 rfl ?_;refine jaa.tkB 7 rfl ?_;refine jaa.tkB 8 rfl ?_;refine jaa.tkB 9 rfl ?_;refine jaa.tkB 10 rfl ?_;refine jaa.tkB 11 rfl ?_;refine jaa.tkB 12 rfl ?_;refine jaa.tkB 13 rfl ?_;refine jaa.tkB 14 rfl ?_
   refine jaa.tkB 15 rfl ?_;refine jaa.tkB 16 rfl ?_;refine jaa.tkB 17 rfl ?_;refine jaa.onW 18 rfl fun KK hKK=>?_
   go_simp;go_at_call 72;refine (HAr.out _ K0.1).mono ?_;rintro e W5 ⟨rfl,hb5⟩;replace K0:=K0.keep hb5;clear hb5;go_wp2_with fail;refine hKK.out _ _ (HS.out _ _ _ K0 ZMB) (fun hSh=>?_);clear hKK KK;refine ZPT ?_;refine jaa.tkB 19 rfl ?_;refine jaa.tkB 20 rfl ?_;refine jaa.tkB 21 rfl ?_;refine jaa.tkB 22 rfl ?_;refine jaa.tkB 23 rfl ?_;refine jaa.tkB 24 rfl ?_;refine jaa.tkB 25 rfl ?_;refine jaa.tkB 26 rfl ?_;refine jaa.tkB 27 rfl ?_;refine jaa.onW 28 rfl fun KK hKK=>?_
   go_simp;go_at_call 49;refine (HRi.out _ K0.1).mono ?_;rintro e W6 ⟨rfl,hb6⟩;replace K0:=K0.keep hb6;clear hb6;go_wp2_with fail;refine hKK.out _ _ (HS.out _ _ _ K0 ZMB) (fun hSh=>?_);clear hKK KK;refine ZPT ?_;refine jaa.tkB 29 rfl ?_;refine jaa.tkB 30 rfl ?_;refine jaa.done Zb9 ?_;clear hSh;go_wp2_with fail;go_roundg (m-(k+1))
   case rel=>exact ⟨k+1,hlt,rfl,by go_num,HA2,K0⟩
   case measure=>omega
  ·have e:k=m:=by omega
   subst e;have HY:=jmT (HYes.out fun i x hi hx=>HA.out i x hi hx);have hltd:decide (k<k)=false:=decide_eq_false hlt;clear HA HNo HYes;go_wp2_with fail;go_ret;exact ⟨by rw [HY.out];rfl,K.1⟩
end Go.Proofs.YtdlcglndhhndpaaGreat
