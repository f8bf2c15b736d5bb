/- Laws and walks; conditions stand in each theorem. -/
import Derived.Test.YtgikfcjndiohjaaGreatP29
set_option linter.unusedSimpArgs false
set_option linter.unusedVariables false
set_option maxHeartbeats 8000000
set_option maxRecDepth 100000
namespace Go.Proofs.YtgikfcjndiohjaaGreat
open Go.RowKit
section
variable {m N db:Nat} {b:Bool} {G:Dc} {Ld:List Blk} {Dd:List Hl} {w0 W:World} {L1:List Blk} {D:List Hl}
theorem jpb (HL:DicL m N db b G Ld Dd) (K:St w0 (Ld++L1) (Dd++D) W) (hOk:G.Ok m N) (hm:m≤1000) (hN:N≤1000) {s:Nat} (hs:s<N) :
 Calls Tryz.prog 65 #[.pointer (some ⟨db,0,none⟩),.int .i64 N,.int .i64 s] W (ConP w0 Ld L1 Dd D N (xR m G s)):=by
 have HD:=jpk HL
 have HOk:=jpk hOk
 have HsN:=jpk hs
 have hsi:(s:Int)<(N:Int):=by omega
 have hs0:(0:Int)≤(s:Int):=by omega
 clear hOk HL hs
 go_enter Tryz.func65,Tryz.ntmps65
 go_wp2_with fail
 refine (jcB N w0 W _ _ K hN).mono ?_
 rintro e W1 ⟨g,v,rfl,hv,K1⟩
 clear K
 have K:=K1
 clear K1
 obtain ⟨A1,k1,hown⟩:=HD.out.ownA (w0:=w0) hm
 have HOR:=jpk hown
 obtain ⟨A2,k2,hfree⟩:=HD.out.freeA (w0:=w0) hN
 have co:=(hown _ _ _ Zb18 K).1
 have cf:=(hfree _ _ _ Zb18 K).1
 obtain ⟨vb,vo,hA,hvb,hcc⟩:=RdI.cellAt (hfree _ _ _ Zb18 K).2 HsN.out
 subst hA
 rw [jcS HsN.out] at hcc
 have hcp1:=(hfree _ _ _ Zb18 K).2.caps
 clear hown hvb hfree
 obtain ⟨x0,hx0⟩:∃x0:Nat→Rat,x0=fun u=>if G.free s=u then 1 else 0:=⟨_,rfl⟩
 have HX0:=jpk hx0
 have HEND:=jpk (fun (v:Nat→Rw) (x:Nat→Rat) (h1:∀u,u<N→isQ (v u) (x u)) (h2:PutX G.own (fun i=>0-G.a i s) N 0 m x0 x)=>(show ∀u,u<N→isQ (v u) (xR m G s u) from fun u hu=>by
  have h3:=h1 u hu
  rw [h2 u hu,Nat.zero_add] at h3
  unfold xR
  by_cases e0:G.free s=u
  ·rw [if_pos e0]
   rw [jcc (fun i hi e2=>HOk.out.ne i s hi HsN.out (by rw [e0,e2]))] at h3
   rw [hx0] at h3
   simp only [if_pos e0] at h3
   exact h3
  ·rw [if_neg e0]
   cases e2:idxP G.own u m with
   | some j=>rw [e2] at h3;exact h3
   | none =>
    rw [e2,hx0] at h3
    simp only [if_neg e0] at h3
    exact h3))
 clear hx0
 by_cases hge:G.free s<N
 ·obtain ⟨u,hu⟩:∃u,u=G.free s:=⟨_,rfl⟩
  have hgd:decide (G.free s<N)=true:=decide_eq_true hge
  have hui:(u:Int)<(N:Int):=by omega
  have hu0:(0:Int)≤(u:Int):=by omega
  have HNu:=jpk (fun V L5 D5 (h:St w0 L5 D5 V)=>(jce 1 V Zb4).mono fun e W6 ⟨s7,A7,n7,c7,l7,t7,B7,m7,d7,k7,he,⟨hra,hrb⟩,ho,⟨hfa,hfb⟩,hbl⟩=>(⟨⟨s7,A7,n7,c7,l7,t7,B7,m7,d7,k7⟩,he,jpk (⟨ho,by decide +kernel⟩:isQ ⟨s7,A7,n7,c7,l7,t7,B7,m7,d7,k7⟩ 1),h.retF hbl hra hrb hfa hfb⟩:∃z:Rw,e=Ending.returned (.agg #[.int .i64 z.s,.slice z.A z.n z.c,.int .i64 z.t,.slice z.B z.m z.d])∧Hid (isQ z 1)∧St w0 L5 (⟨rdP z.B z.m z.d z.k,rdS z.B z.m⟩::⟨rdP z.A z.n z.c z.l,rdS z.A z.n⟩::D5) W6))
  have HV0:=jpk (show ∀z:Rw,isQ z 1→∀i,i<N→isQ (putF v u z i) (x0 i) from fun z hz i hi=>by
   rw [HX0.out]
   by_cases e:i=u
   ·rw [e,jaf]
    simp only [hu,if_true]
    exact hz
   ·rw [jad e]
    show isQ (v i) (if G.free s=i then 1 else 0)
    rw [if_neg ZO]
    exact hv.out i hi)
  have Hum:=jpk (show u<N by omega)
  rw [←hu] at hcc hgd hge
  clear hu hv HX0
  go_wp2_with (first
   | (go_at_call 105;refine (HNu.out _ _ _ K).mono ?_;rintro e w3 ⟨z,rfl,gz,K3⟩)
   | (refine K3.storeR rfl rfl _ _ _ rfl g u N z rfl rfl Hum.out ZUA jar ?_;clear co cf;intro W8 K8;have co:=(HOR.out _ _ _ Zb18 K8).1))
  have HV1:=jpk (HV0.out z gz.out)
  replace K:=((K8.rwPut (v:=v) z u ZMB ZMB ZMB).lessS (D':=⟨rwP N (putF v u z),rwS N (putF v u z)⟩::(Dd++D)) Zb10)
  obtain ⟨v1,hv1⟩:∃v1,v1=putF v u z:=⟨_,rfl⟩
  rw [←hv1] at K HV1
  clear hv1 K3 K8 HV0 HNu gz hcc co
  exact ZQ3
 ·have hgd:decide (G.free s<N)=false:=decide_eq_false hge
  have hgi:¬((G.free s:Nat):Int)<(N:Int):=by omega
  have HV1:=jpk (show ∀i,i<N→isQ (v i) (x0 i) from fun i hi=>by
   rw [HX0.out]
   show isQ (v i) (if G.free s=i then 1 else 0)
   rw [if_neg ZO]
   exact hv.out i hi)
  obtain ⟨v1,hv1⟩:∃v1,v1=v:=⟨_,rfl⟩
  rw [←hv1] at K HV1
  clear hv1 hv HX0
  go_wp2_with fail
  clear co cf
  exact ZQ3
end
end Go.Proofs.YtgikfcjndiohjaaGreat
