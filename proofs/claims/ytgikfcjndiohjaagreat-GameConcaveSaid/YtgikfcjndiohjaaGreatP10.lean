/- Laws and walks; conditions stand in each theorem. -/
import Derived.Test.YtgikfcjndiohjaaGreatP05
import Derived.Test.YtgikfcjndiohjaaGreatP06
set_option linter.unusedSimpArgs false
set_option linter.unusedVariables false
set_option maxHeartbeats 4000000
set_option maxRecDepth 100000
namespace Go.Proofs.YtgikfcjndiohjaaGreat
open Go.RowKit
theorem jbP {x:Int} (h:0≤x):val (digs x.toNat)=x:=by rw [jau];omega
theorem jnb {x:Int} (h:0≤x∧x<1048576):DgOk [x]:=DgOk.cons.2 ⟨h,DgOk.nil⟩
theorem jjL (x:Int):val [x]=x:=by simp [val]
theorem jnH {x y:Int} (h0:0≤x) (h:x≤y):(digs x.toNat).length≤(digs y.toNat).length:=by
 refine jh2 (jat _) (jat _).1 ?_
 rw [jbP h0,jbP ZO];exact h
def jek (R B lo hi:Int):Prop:=0≤lo∧lo<hi∧hi≤1048576∧B*lo≤R∧R<B*hi
theorem jek.fin {R B lo hi:Int} (h:jek R B lo hi) (hB:0<B) (h1:hi-lo≤1):lo=R / B∧R-B*lo=R%B:=by
 obtain ⟨h2,h3,h4,h5,h6⟩:=h
 have e:hi=lo+1:=by omega
 rw [e,Int.mul_add,Int.mul_one] at h6
 have:=(Int.ediv_emod_unique (a:=R) (b:=B) (r:=R-B*lo) (q:=lo) hB).2 ⟨by omega,by omega,by omega⟩
 exact ⟨this.1.symm,this.2.symm⟩
theorem jek.down {R B lo hi m:Int} (h:jek R B lo hi) (h1:lo<m∧m<hi) (h2:R<B*m):jek R B lo m:=by
 obtain ⟨g2,g3,g4,g5,g6⟩:=h
 exact ⟨g2,h1.1,by omega,g5,h2⟩
theorem jek.up {R B lo hi m:Int} (h:jek R B lo hi) (h1:lo<m∧m<hi) (h2:¬R<B*m):jek R B m hi:=by
 obtain ⟨g2,g3,g4,g5,g6⟩:=h
 exact ⟨by omega,h1.2,g4,by omega,g6⟩
theorem jfz (A A2:Option Addr) (n cap n2 cap2:Nat) (a b:List Int) (w:World) (ha:RdI w w.heap.size A n cap a) (hb:RdI w w.heap.size A2 n2 cap2 b) (da:DgOk a) (db:DgOk b) (hn:n≤1000) (hn2:n2≤900) (hbp:0<val b) :
 Calls Tryz.prog 124 #[.slice A n cap,.slice A2 n2 cap2] w (jbX w (val a) (val b)):=by
 obtain ⟨i0,hi0,hz0,hz1,hz2⟩:=jaN jbf
 have hla:=ha.len
 have hlb:=hb.len
 have Hda:=jpk (da.at hla)
 have hBlt:=ja7 db
 rw [hlb] at hBlt
 have HT:=jpk (fun W (h:Below w.heap.size w W) A' n' c' l' (hr:RdI W W.heap.size A' n' c' l') (hd:DgOk l') (hn':n'≤1000)=>jev A2 A' n2 cap2 n' c' b l' W (hb.up (jab _) h) hr db hd ZO hn')
 have HVa:=jpk (ja0 hla)
 obtain ⟨B,hB⟩:∃B,B=val b:=⟨_,rfl⟩
 rw [←hB] at hbp hBlt HT ⊢
 have HP:=jpk (fun Aq nq cq Ar nr cr w' (h1:RdI w' w'.heap.size Aq nq cq (digs (val a / B).toNat)) (h2:RdI w' w'.heap.size Ar nr cr (digs (val a%B).toNat)) (f1:FrA w.heap.size Aq) (f2:FrA w.heap.size Ar) (hb:Below w.heap.size w w')=>(show jbX w (val a) B (.returned (.tuple #[.slice Aq nq cq,.slice Ar nr cr])) w' from ⟨Aq,nq,cq,Ar,nr,cr,rfl,h1,h2,⟨f1,f2⟩,hb⟩))
 have Hlen:=jpk (fun R (h:R<1048576*B) (h0:0≤R)=>(show (digs R.toNat).length≤901 from by
  refine jaM (n:=901) ?_
  have h1:=jbY (show n2+1≤901 by omega)
  rw [pw] at h1
  omega))
 have hwn:IntKind.i64.wrap ((n:Int)-1)=(n:Int)-1:=IntWalk.i64_in _ ZO
 have HBp:=jpk hbp
 generalize hQ:jbX w (val a) B=Q at *
 clear hla hlb da db hB hb hBlt hQ hbp
 go_enter Tryz.func124,Tryz.ntmps124
 go_wp2_with (at_make;refine jbS _ jap 0 rfl _ _ 22 rfl w.heap.size 3 i0 (.int .i64 0) Tryz.underlying22 hi0 hz0 hz1 rfl _ _ _ _ n rfl rfl Zb5 Zb5 (by rw [hz2];omega) Zb2 (Nat.le_refl _) ?_
              intro w2 ho2 hg2
              have hb2:Below w.heap.size w w2:=(Below.refl _ _).grown hg2 (Nat.le_refl _) (by intro k hk;cases hk))
 clear hg2
 go_loopg [7,8] n (fun gk rv iv wr=>∃(k:Nat) (R:Int) (o:Nat→Int) (Ar:Option Addr) (nr cr:Nat),k≤n∧k=gk∧iv=.int .i64 ((k:Int)-1)∧rv=.slice Ar nr cr∧ShI (gi a) o n k B R∧Own 1 iEnc wr w.heap.size 3 (.slice (some ⟨w.heap.size,0,none⟩) n n) (ofF n o)∧RdI wr wr.heap.size Ar nr cr (digs R.toNat)∧FrA (w.heap.size+1) Ar∧Below w.heap.size w wr)
 case atStart=>exact ⟨n,0,fun _=>0,none,0,0,Nat.le_refl _,rfl,rfl,rfl,ShI.zero HBp.out,by rw [←jcs];exact ho2,by rw [show ((0:Int).toNat)=0 from rfl,jax];exact Rd.nil,FrA.none,hb2⟩
 case round =>
  clear ho2 hb2
  obtain ⟨k,R,o,Ar,nr,cr,hk,rfl,rfl,rfl,hI,ho,hr,hfr,hbel⟩:=hrel
  have HI:=jpk hI
  have hR:=hI.2.1
  clear hI
  rcases Nat.eq_zero_or_pos k with hk0|hk0
  ·subst hk0
   obtain ⟨f1,f2,f3⟩:=HI.out.fin
   rw [←HVa.out] at f1 f2
   obtain ⟨A3,c3,hv3,hr3⟩:=ho.rd jap Zb3
   rw [jag] at hv3 hr3
   injection hv3 with e1 e2 e3
   subst e1
   have HT3:=jpk (jcF _ n _ o wr hr3 ZO f3)
   rw [f1] at HT3
   rw [f2] at hr
   have hsz:=hbel.size
   have hfr2:=hfr.mono (show w.heap.size≤w.heap.size+1 by omega)
   subst e3
   clear f1 f2 f3 hr3 ho hR hfr
   go_wp2_with fail
   refine HT3.out.mono ?_
   rintro e w' ⟨A5,n5,c5,rfl,hr5,hf5,hb5⟩
   have HE:=jpk (HP.out _ _ _ _ _ _ _ hr5 (hr.up (jab _) hb5) (hf5.mono hsz) hfr2 (hbel.trans (hb5.mono hsz)))
   clear hr5 hf5 hb5 hr hfr2
   go_wp2
   exact HE.out
  ·obtain ⟨m,rfl⟩:∃m,k=m+1:=⟨k-1,by omega⟩
   obtain ⟨b1,o1,x,rfl,hb1,hx,c0⟩:=ha.atI (k:=m) ZO
   have Hx:=jpk (jaS hx)
   have hxd:=Hda.out m ZO
   rw [Hx.out] at hxd
   have c1:=(hbel.cell (p:=⟨b1,o1+m,none⟩) hb1).trans c0
   have h1:(m:Int)<(n:Int):=by omega
   have h2:(0:Int)≤(m:Int):=by omega
   have hcm:((m+1:Nat):Int)-1=(m:Int):=by omega
   have hsz:=hbel.size
   have hsz1:w.heap.size+1≤wr.heap.size:=(ho.lt w.heap.size (by simp [Value.ownBlock])).2
   have hbp:=HBp.out
   have hR':x+1048576*R<1048576*B:=by omega
   have hR0:0≤x+1048576*R:=by omega
   have hlen1:=Hlen.out R ZO hR.1
   have hlen2:=Hlen.out _ hR' hR0
   rw [hr.len] at hlen1
   have hdl:DgOk (x::digs R.toNat):=DgOk.cons.2 ⟨hxd,(jat _).1⟩
   have hvl:val (x::digs R.toNat)=x+1048576*R:=by rw [val,jbP hR.1]
   have htr:=jbC hdl
   rw [hvl] at htr
   have HN:=jpk (fun o' (he:o' m=(R*1048576+gi a m) / B) (ho:∀j,m+1≤j→j<n→o' j=o j)=>(HI.out.congr (o':=o') ho).step ZO hbp (by rw [Hx.out];exact hxd) he)
   have hRR:R*1048576+gi a m=x+1048576*R:=by rw [Hx.out];omega
   rw [hRR] at HN
   have HRR:=jpk hRR
   have holit:Own 1 iEnc (wr.alloc (.cells #[.int .i64 x] 3)) wr.heap.size 3 (.slice (some ⟨wr.heap.size,0,none⟩) 1 1) [x]:=Own.lit jap (Nat.le_refl _) [x] _ rfl rfl ZO
   have hblit:=(Below.refl wr.heap.size wr).alloc (Nat.le_refl _) (.cells #[.int .i64 x] 3)
   have hrlit:=hr.up (jab _) hblit
   have hwm:IntKind.i64.wrap ((m:Int)-1)=(m:Int)-1:=IntWalk.i64_in _ ZO
   clear hx c0 hvl hdl hRR hr
   go_wp2_with (at_builtin
                refine jbN _ jap rfl _ _ 22 rfl wr.heap.size 3 i0 _ 8 Tryz.underlying22 hi0 hz0 hz1 hz2 rfl (.slice (some ⟨wr.heap.size,0,none⟩) 1 1) [x] rfl holit _ Ar nr cr (digs R.toNat) rfl hrlit (by simp only [maxLen,List.length_cons,List.length_nil];omega) (by simp only [List.length_cons,List.length_nil];omega) Zb0 ?_
                intro v4 w4 ho4 hg4 hx4
                have hb4:=hblit.grown hg4 Zb0 (fun k hk=>by
                 have h1:wr.heap.size=k:=by simpa [Value.ownBlock] using hk
                 omega)
                rw [List.singleton_append] at ho4)
   obtain ⟨A4,c4,rfl,hr4⟩:=ho4.rd jap (by simp only [List.length_cons];rw [hrlit.len];omega)
   have hl4:(x::digs R.toNat).length≤1000:=by simp only [List.length_cons];rw [hrlit.len];omega
   have HT4:=jpk (jc7 A4 _ c4 _ w4 hr4 ZO)
   rw [htr] at HT4
   have hbel4:=hbel.trans (hb4.mono hsz)
   have ho5:=ho.below hb4
   have hs4:w.heap.size+1≤w4.heap.size:=Nat.le_trans hsz1 hb4.size
   clear holit hblit hrlit ho4 hg4 hx4 hb4 hr4 ho hbel c1
   go_wp2_with fail
   refine HT4.out.mono ?_
   rintro e w5 ⟨A5,n5,c5,rfl,hr5,hf5,hb5⟩
   have hbel5:=hbel4.trans (hb5.mono hbel4.size)
   have ho6:=ho5.below hb5
   have hf5':FrA (w.heap.size+1) A5:=hf5.mono hs4
   clear hf5 ho5 hbel4 hb5
   generalize hRP:x+1048576*R=RP at *
   have hH0:jek RP B 0 1048576:=⟨Int.le_refl _,by omega,Int.le_refl _,by omega,by omega⟩
   have HH0:=jpk hH0
   have hdv:val (digs RP.toNat)=RP:=jbP hR0
   have HDV:=jpk hdv
   have hl5:=hr5.len
   clear hH0 hdv
   go_wp2
   go_loopg [9,10] 1048576 (fun gk lv hv wr=>∃(lo hi:Int),gk=(hi-lo).toNat∧lv=.int .i64 lo∧hv=.int .i64 hi∧jek RP B lo hi∧Own 1 iEnc wr w.heap.size 3 (.slice (some ⟨w.heap.size,0,none⟩) n n) (ofF n o)∧RdI wr wr.heap.size A5 n5 c5 (digs RP.toNat)∧Below w.heap.size w wr)
   case atStart=>exact ⟨0,1048576,rfl,rfl,rfl,HH0.out,ho6,hr5,hbel5⟩
   case round =>
    clear ho6 hr5 hbel5
    obtain ⟨lo,hi,rfl,rfl,rfl,hI,ho,hr5,hbel⟩:=hrel
    have HI2:=jpk hI
    obtain ⟨g1,g2,g3,-,-⟩:=hI
    have hsz2:=hbel.size
    have hwd:IntKind.i64.wrap (hi-lo)=hi-lo:=IntWalk.i64_in _ ZO
    by_cases hgo:1<hi-lo
    ·have hd:decide (1<hi-lo)=true:=decide_eq_true hgo
     have hws:IntKind.i64.wrap (lo+hi)=lo+hi:=IntWalk.i64_in _ ZO
     have htd:(lo+hi).tdiv 2=(lo+hi) / 2:=Int.tdiv_eq_ediv_of_nonneg ZO
     have hmid:lo<(lo+hi) / 2∧(lo+hi) / 2<hi:=by omega
     obtain ⟨mid,hme⟩:∃mid,mid=(lo+hi) / 2:=⟨_,rfl⟩
     have hwm2:IntKind.i64.wrap ((lo+hi) / 2)=mid:=by rw [hme];exact IntWalk.i64_in _ ZO
     rw [←hme] at hmid
     have HME:=jpk hme.symm
     have hdg:DgOk [mid]:=jnb ZO
     have hlit:=Rd.litG jap (w:=wr) 3 [mid] #[.int .i64 mid] 1 wr.heap.size rfl rfl rfl ZO
     have hbl:=(Below.refl wr.heap.size wr).alloc (Nat.le_refl _) (.cells #[.int .i64 mid] 3)
     have hbelL:=hbel.trans (hbl.mono hsz2)
     have HT5:=jpk (HT.out _ hbelL _ 1 1 [mid] hlit hdg ZO)
     rw [jjL] at HT5
     have hr5':=hr5.up (jab _) hbl
     have ho':=ho.below hbl
     have hb0':0≤B*mid:=Int.mul_nonneg ZO ZO
     have HL:=jpk (fun A6 n6 c6 W h5 h6=>jdZ A5 A6 n5 c5 n6 c6 (digs RP.toNat) (digs (B*mid).toNat) W h5 h6 (jat _).1 (jat _).1)
     rw [HDV.out,jbP hb0'] at HL
     have HDN:=jpk (fun h=>HI2.out.down hmid h)
     have HUP:=jpk (fun h=>HI2.out.up hmid h)
     have hm1:(mid-lo).toNat<(hi-lo).toNat:=by omega
     have hm2:(hi-mid).toNat<(hi-lo).toNat:=by omega
     have HM1:=jpk hm1;have HM2:=jpk hm2
     have hsz3:=hbelL.size
     clear hme hlit hdg hbl hbel ho hr5 hgo hmid hb0' hm1 hm2
     by_cases hlt:RP<B*mid
     ·have hd2:decide (RP<B*mid)=true:=decide_eq_true hlt
      have HN2:=jpk (HDN.out hlt)
      rw [hd2] at HL
      clear hlt hd2
      go_wp2_with fail
      refine HT5.out.mono ?_
      rintro e w6 ⟨A6,n6,c6,rfl,hr6,hf6,hb6⟩
      have hr56:=hr5'.up (jab _) hb6
      have ho66:=ho'.below hb6
      have hbel66:=hbelL.trans (hb6.mono hsz3)
      clear hr5' ho' hbelL hb6 hf6
      go_wp2_with fail
      refine (HL.out _ _ _ _ hr56 hr6).mono ?_
      rintro e _ ⟨rfl,rfl⟩
      clear hr6
      go_wp2
      go_roundg ((mid-lo).toNat)
      case rel=>exact ⟨lo,mid,rfl,rfl,rfl,HN2.out,ho66,hr56,hbel66⟩
      case measure=>exact HM1.out
     ·have hd2:decide (RP<B*mid)=false:=decide_eq_false hlt
      have HN2:=jpk (HUP.out hlt)
      rw [hd2] at HL
      clear hlt hd2
      go_wp2_with fail
      refine HT5.out.mono ?_
      rintro e w6 ⟨A6,n6,c6,rfl,hr6,hf6,hb6⟩
      have hr56:=hr5'.up (jab _) hb6
      have ho66:=ho'.below hb6
      have hbel66:=hbelL.trans (hb6.mono hsz3)
      clear hr5' ho' hbelL hb6 hf6
      go_wp2_with fail
      refine (HL.out _ _ _ _ hr56 hr6).mono ?_
      rintro e _ ⟨rfl,rfl⟩
      clear hr6
      go_wp2
      go_roundg ((hi-mid).toNat)
      case rel=>exact ⟨mid,hi,rfl,rfl,rfl,HN2.out,ho66,hr56,hbel66⟩
      case measure=>exact HM2.out
    ·have hd:decide (1<hi-lo)=false:=decide_eq_false hgo
     obtain ⟨f1,f2⟩:=HI2.out.fin hbp ZO
     have hld:0≤lo∧lo<1048576:=by omega
     have HN2:=jpk (HN.out (fun j=>if j=m then lo else o j) (by rw [if_pos rfl];exact f1) (fun j h1 h2=>if_neg ZO))
     obtain ⟨z0,z1⟩:=ho.cellI (i:=m) ZO
     have ho7:=ho.setI (i:=m) ZO lo
     have hbel7:=hbel.setCell (p:=⟨w.heap.size,m,none⟩) (Nat.le_refl _) (.int .i64 lo)
     have hr7:=hr5.setX (b:=w.heap.size) (j:=m) (v:=.int .i64 lo) hf5'
     have hsz7:wr.heap.size=(wr.setCell ⟨w.heap.size,m,none⟩ (.int .i64 lo)).heap.size:=by simp [World.setCell]
     obtain ⟨w7,hw7⟩:∃w7,w7=wr.setCell ⟨w.heap.size,m,none⟩ (.int .i64 lo):=⟨_,rfl⟩
     rw [←hw7] at ho7 hbel7 hr7 hsz7
     have HW7:=jpk hw7
     have hlit:=Rd.litG jap (w:=w7) 3 [lo] #[.int .i64 lo] 1 wr.heap.size hsz7.symm rfl rfl ZO
     have hbl:=(Below.refl w7.heap.size w7).alloc (Nat.le_refl _) (.cells #[.int .i64 lo] 3)
     have hs8:w.heap.size+1≤w7.heap.size:=by
      rw [←hsz7]
      exact (ho.lt w.heap.size (by simp [Value.ownBlock])).2
     have htl:=jc7 _ 1 1 [lo] _ hlit ZO
     rw [jbC (jnb hld),jjL] at htl
     have HTL:=jpk htl
     have ho8:=ho7.below hbl
     have hr8:=hr7.up (jab _) hbl
     have hbel8:=hbel7.trans (hbl.mono hbel7.size)
     have hs9:w.heap.size+1≤(w7.alloc (.cells #[.int .i64 lo] 3)).heap.size:=Nat.le_trans hs8 hbl.size
     have hB0:0≤B*lo:=Int.mul_nonneg ZO hld.1
     have hBR:B*lo≤RP:=by have:=HI2.out.2.2.2.1;omega
     have hdl2:(digs (B*lo).toNat).length≤(digs RP.toNat).length:=jnH hB0 hBR
     have HMi:=jpk (fun A8 n8 c8 W h5 h6=>jcE A5 A8 n5 c5 n8 c8 (digs RP.toNat) (digs (B*lo).toNat) W h5 h6 (jat _).1 (jat _).1)
     rw [HDV.out,jbP hB0,f2] at HMi
     have Hl5:=jpk (show n5≤1000 by omega)
     have Hl8:=jpk (fun n8 (h:(digs (B*lo).toNat).length=n8)=>(show n8≤n5 by omega))
     have Hlo:=jpk (fun n7 (h:(digs lo.toNat).length=n7)=>(show n7≤1000 from by
      have:(digs lo.toNat).length≤1:=jaM (n:=1) (by simp [pw];omega)
      omega))
     have HLV:=jpk (jbP hld.1)
     have HBR:=jpk hBR
     have hmi:(m:Int)<(n:Int):=h1
     clear hw7 hlit hbl hs8 htl hgo f1 f2 hld ho7 hr7 hbel7 hsz7 ho hr5 hbel hB0 hBR hdl2 g1 g2 g3 hl5 hlen1 hlen2 hR hR' hR0
     go_wp2_with fail
     rw [←HW7.out]
     refine HTL.out.mono ?_
     rintro e w8 ⟨A7,n7,c7,rfl,hr77,hf7,hb7⟩
     have ho9:=ho8.below hb7
     have hr9:=hr8.up (jab _) hb7
     have hbel9:=hbel8.trans (hb7.mono hbel8.size)
     have hs10:=Nat.le_trans hs9 hb7.size
     clear ho8 hr8 hbel8 hb7 hs9 hf7 HTL
     have HT7:=jpk (HT.out _ hbel9 _ _ _ _ hr77 (jat _).1 (Hlo.out _ hr77.len))
     rw [HLV.out] at HT7
     clear hr77
     go_wp2_with fail
     refine HT7.out.mono ?_
     rintro e w9 ⟨A8,n8,c8,rfl,hr88,hf8,hb8⟩
     have ho10:=ho9.below hb8
     have hr10:=hr9.up (jab _) hb8
     have hbel10:=hbel9.trans (hb8.mono hbel9.size)
     have hs11:=Nat.le_trans hs10 hb8.size
     have HM7:=jpk (HMi.out _ _ _ _ hr10 hr88 Hl5.out (Hl8.out _ hr88.len) HBR.out)
     clear ho9 hr9 hbel9 hb8 hs10 hf8 HT7 hr88 hr10
     go_wp2_with fail
     refine HM7.out.mono ?_
     rintro e w10 ⟨A9,n9,c9,rfl,hr99,hf9,hb9⟩
     have ho11:=ho10.below hb9
     have hbel11:=hbel10.trans (hb9.mono hbel10.size)
     have hf11:=hf9.mono hs11
     clear ho10 hbel10 hb9 hs11 hf9 HM7
     go_wp2
     go_roundg m
     case rel=>exact ⟨m,RP%B,_,A9,n9,c9,by omega,rfl,by go_num,rfl,HN2.out,ho11,hr99,hf11,hbel11⟩
     case measure=>omega
theorem jk8 (s:Int) (A:Option Addr) (n cap:Nat) (l:List Int) (w:World) (hl:RdI w w.heap.size A n cap l) :
 Calls Tryz.prog 101 #[.agg #[.int .i64 s,.slice A n cap]] w (BigR w (negZ s l)):=by
 have K:=(St.start w).oldRd hl
 have r:=K.raw
 have HR:=jpk (fun W h=>jaG s A n cap l W h)
 cases h1:jae s l
 ·have hN:negZ s l=0:=by unfold negZ;rw [h1];rfl
  rw [hN]
  rw [h1] at HR
  clear hN h1
  go_enter Tryz.func101,Tryz.ntmps101
  go_wp2_with (first|(refine ZAL ?_;clear K r;(first|((fail_if_success revert b0);intro W b0 K r)|((fail_if_success revert b1);intro W b1 K r)|((fail_if_success revert b2);intro W b2 K r)|intro W b K r))|(refine ZST ?_;clear K r;intro W K r))
  refine (HR.out _ ZRD).mono ?_
  rintro e W' ⟨rfl,hb⟩
  replace K:=K.keep hb
  clear r
  have r:=K.rawS
  clear hb
  go_wp2_with (first|(refine ZAL ?_;clear K r;(first|((fail_if_success revert b0);intro W b0 K r)|((fail_if_success revert b1);intro W b1 K r)|((fail_if_success revert b2);intro W b2 K r)|intro W b K r))|(refine ZST ?_;clear K r;intro W K r))
  exact bodyPost_ret (v:=.agg #[.int .i64 0,.slice none 0 0]) (by simp [results,Tryz.results101,go_sem,r]) rfl ⟨0,none,0,0,[],rfl,Rd.nil,Std.zero,FrA.none,K.1⟩
 ·have hN:negZ s l= -(bval s l):=if_pos h1
  rw [hN]
  rw [h1] at HR
  obtain ⟨hcn,hl60,hsg⟩:=jah h1
  have hsb: -1≤s∧s≤1:=by rcases hsg with ⟨-,h⟩|⟨-,h|h⟩ <;> omega
  have hsn: -s=1∨ -s= -1∨val l=0:=by rcases hsg with ⟨h,-⟩|⟨-,h|h⟩ <;> first|exact Or.inr (Or.inr (by rw [h];rfl))|omega
  have hws:IntKind.i64.wrap (-s)= -s:=IntWalk.i64_in _ ZO
  have hval: -s*val l= -(bval s l):=by unfold bval;rw [Int.neg_mul]
  rw [hl.len] at hl60
  have HM:=jpk (fun W h=>ja5 (-s) A n cap l _ W h ZO hcn.1 hsn hval)
  generalize -(bval s l)=Z at *
  clear hN h1 hsg hsn hval hcn hl60 hsb
  go_enter Tryz.func101,Tryz.ntmps101
  go_wp2_with (first|(refine ZAL ?_;clear K r;(first|((fail_if_success revert b0);intro W b0 K r)|((fail_if_success revert b1);intro W b1 K r)|((fail_if_success revert b2);intro W b2 K r)|intro W b K r))|(refine ZST ?_;clear K r;intro W K r))
  refine (HR.out _ ZRD).mono ?_
  rintro e W' ⟨rfl,hb⟩
  replace K:=K.keep hb
  clear r
  have r:=K.rawS
  clear hb
  go_wp2_with (first|(refine ZAL ?_;clear K r;(first|((fail_if_success revert b0);intro W b0 K r)|((fail_if_success revert b1);intro W b1 K r)|((fail_if_success revert b2);intro W b2 K r)|intro W b K r))|(refine ZST ?_;clear K r;intro W K r))
  refine (HM.out _ ZRD).mono ?_
  rintro e W' ⟨s3,A3,n3,c3,l3,rfl,hr,hs3,hf,hb⟩
  have hf3:=jpk (hf.mono K.1.size)
  replace K:=K.ret hb hr hf
  clear r
  have r:=K.rawS
  clear hr hf hb
  go_wp2_with (first|(refine ZAL ?_;clear K r;(first|((fail_if_success revert b0);intro W b0 K r)|((fail_if_success revert b1);intro W b1 K r)|((fail_if_success revert b2);intro W b2 K r)|intro W b K r))|(refine ZST ?_;clear K r;intro W K r))
  have HE:=jpk (show BigR w Z (.returned (.agg #[.int .i64 s3,.slice A3 n3 c3])) W from ⟨s3,A3,n3,c3,l3,rfl,ZRD,hs3,hf3.out,K.1⟩)
  clear hs3
  exact bodyPost_ret (v:=.agg #[.int .i64 s3,.slice A3 n3 c3]) (by simp [results,Tryz.results101,go_sem,r]) rfl HE.out
theorem jgJ (s t:Int) (A A2:Option Addr) (n cap n2 cap2:Nat) (a b:List Int) (w:World) (ha:RdI w w.heap.size A n cap a) (hb0:RdI w w.heap.size A2 n2 cap2 b) :
 Calls Tryz.prog 84 #[.agg #[.int .i64 s,.slice A n cap],.agg #[.int .i64 t,.slice A2 n2 cap2]] w (BigE w (gcdZ (jae s a&&jae t b) (bval s a) (bval t b)) (okE (jae s a&&jae t b))):=by
 have K:=((St.start w).oldRd ha).oldRd hb0
 have r:=K.raw
 have HR1:=jpk (fun W h=>jaG s A n cap a W h)
 have HR2:=jpk (fun W h=>jaG t A2 n2 cap2 b W h)
 have e0:∀ {x y:Int},gcdZ false x y=0:=fun {x y}=>by unfold gcdZ;simp
 have e1:okE false=1:=rfl
 cases h1:jae s a
 ·rw [h1] at HR1
  rw [Bool.false_and,e0,e1]
  clear h1 e0 e1
  go_enter Tryz.func84,Tryz.ntmps84
  go_wp2_with (first|(refine ZAL ?_;clear K r;(first|((fail_if_success revert b0);intro W b0 K r)|((fail_if_success revert b1);intro W b1 K r)|((fail_if_success revert b2);intro W b2 K r)|intro W b K r))|(refine ZST ?_;clear K r;intro W K r))
  refine (HR1.out _ ZRD).mono ?_
  exact ZQ44
 cases h2:jae t b
 ·rw [h1] at HR1
  rw [h2] at HR2
  rw [Bool.true_and,e0,e1]
  clear h1 h2 e0 e1
  go_enter Tryz.func84,Tryz.ntmps84
  go_wp2_with (first|(refine ZAL ?_;clear K r;(first|((fail_if_success revert b0);intro W b0 K r)|((fail_if_success revert b1);intro W b1 K r)|((fail_if_success revert b2);intro W b2 K r)|intro W b K r))|(refine ZST ?_;clear K r;intro W K r))
  refine (HR1.out _ ZRD).mono ?_
  rintro e W' ⟨rfl,hb⟩
  replace K:=K.keep hb
  clear r
  have r:=K.rawS
  clear hb
  go_wp2_with (first|(refine ZAL ?_;clear K r;(first|((fail_if_success revert b0);intro W b0 K r)|((fail_if_success revert b1);intro W b1 K r)|((fail_if_success revert b2);intro W b2 K r)|intro W b K r))|(refine ZST ?_;clear K r;intro W K r))
  refine (HR2.out _ ZRD).mono ?_
  exact ZQ44
 have hok:gcdZ (true&&true) (bval s a) (bval t b)=(Int.gcd (bval s a) (bval t b):Int):=by unfold gcdZ;simp
 have hok2:okE (true&&true)=0:=rfl
 rw [h1] at HR1
 rw [h2] at HR2
 rw [hok,hok2]
 have HG0:=jpk (GcI.start h1 h2)
 generalize Int.gcd (bval s a) (bval t b)=G at *
 clear hok hok2 h1 h2 e0 e1
 go_enter Tryz.func84,Tryz.ntmps84
 go_wp2_with (first|(refine ZAL ?_;clear K r;(first|((fail_if_success revert b0);intro W b0 K r)|((fail_if_success revert b1);intro W b1 K r)|((fail_if_success revert b2);intro W b2 K r)|intro W b K r))|(refine ZST ?_;clear K r;intro W K r))
 refine (HR1.out _ ZRD).mono ?_
 rintro e W' ⟨rfl,hb⟩
 replace K:=K.keep hb
 clear r
 have r:=K.rawS
 clear hb
 go_wp2_with (first|(refine ZAL ?_;clear K r;(first|((fail_if_success revert b0);intro W b0 K r)|((fail_if_success revert b1);intro W b1 K r)|((fail_if_success revert b2);intro W b2 K r)|intro W b K r))|(refine ZST ?_;clear K r;intro W K r))
 refine (HR2.out _ ZRD).mono ?_
 rintro e W' ⟨rfl,hb⟩
 replace K:=K.keep hb
 clear r
 have r:=K.rawS
 clear hb
 have hra:RdI W' W'.heap.size A n cap a:=K.rd ZMB
 have hrb:RdI W' W'.heap.size A2 n2 cap2 b:=K.rd ZMB
 have K2:=jpk (K.less (D':=[]) (fun x h=>by cases h))
 clear K
 go_wp2_with fail
 go_loopg [6,7] (val b).toNat (fun gk x y wr=>∃Ax nx cx dx Ay ny cy dy,x=.slice Ax nx cx∧y=.slice Ay ny cy∧RdI wr wr.heap.size Ax nx cx dx∧RdI wr wr.heap.size Ay ny cy dy∧GcI G dx dy∧gk=(val dy).toNat∧St w [(b2,#[.int .i64 0,.slice none 0 0],27),(b1,#[.int .i64 t,.slice A2 n2 cap2],27),(b0,#[.int .i64 s,.slice A n cap],27)] [] wr)
 case atStart=>exact ⟨A,n,cap,a,A2,n2,cap2,b,rfl,rfl,hra,hrb,HG0.out,rfl,K2.out⟩
 case round =>
  clear hra hrb r
  obtain ⟨Ax,nx,cx,dx,Ay,ny,cy,dy,rfl,rfl,rx,ry,hI,rfl,K⟩:=hrel
  have hlx:=rx.len
  have hly:=ry.len
  have HI:=jpk hI
  obtain ⟨cdx,cdy,lx,ly,-⟩:=hI
  rw [hlx] at lx
  rw [hly] at ly
  have r:=K.raw
  simp only [Raw,RawC,and_true,Nat.zero_add,Nat.reduceAdd] at r
  rcases Nat.eq_zero_or_pos ny with h0|h0
  ·have hdy:dy=[]:=List.eq_nil_of_length_eq_zero ZO
   subst hdy
   have hv:=HI.out.fin
   have hd:decide (0<ny)=false:=decide_eq_false ZO
   have HM:=jpk (fun W (h:Below wr.heap.size wr W)=>ja5 1 Ax nx cx dx (G:Int) W (rx.up (jab _) h) ZO cdx.1 (Or.inl rfl) (by rw [Int.one_mul];exact hv))
   clear hv h0 hlx hly lx ly cdx cdy HI rx ry HG0
   go_wp2_with (first|(refine ZAL ?_;clear K r;(first|((fail_if_success revert b0);intro W b0 K r)|((fail_if_success revert b1);intro W b1 K r)|((fail_if_success revert b2);intro W b2 K r)|intro W b K r))|(refine ZST ?_;clear K r;intro W K r))
   refine (HM.out _ (Below.refl _ _)).mono ?_
   rintro e W' ⟨s3,A3,n3,c3,l3,rfl,hr,hs3,hf,hb⟩
   have hf3:=jpk (hf.mono K.1.size)
   replace K:=K.ret hb hr hf
   clear r
   have r:=K.rawS
   clear hr hf hb
   go_wp2_with (first|(refine ZAL ?_;clear K r;(first|((fail_if_success revert b0);intro W b0 K r)|((fail_if_success revert b1);intro W b1 K r)|((fail_if_success revert b2);intro W b2 K r)|intro W b K r))|(refine ZST ?_;clear K r;intro W K r))
   have HE:=jpk (show BigE w (G:Int) 0 (.returned (.tuple #[.agg #[.int .i64 s3,.slice A3 n3 c3],.int .i64 0])) W from ⟨s3,A3,n3,c3,l3,rfl,ZRD,hs3,hf3.out,K.1⟩)
   clear hs3
   exact bodyPost_ret (v:=.tuple #[.agg #[.int .i64 s3,.slice A3 n3 c3],.int .i64 0]) (by simp [results,Tryz.results84,go_sem,r]) rfl HE.out
  ·have hd:decide (0<ny)=true:=decide_eq_true h0
   have hne:dy≠[]:=fun e=>by rw [e] at hly;simp at hly;omega
   obtain ⟨g1,g2⟩:=HI.out.step hne
   have HN:=jpk g1;have HN2:=jpk g2
   have HDv:=jpk (jfz Ax Ay nx cx ny cy dx dy wr rx ry cdx.1 cdy.1 ZO ZO (cdy.pos hne))
   clear g1 g2
   go_wp2_with fail
   refine HDv.out.mono ?_
   rintro e w4 ⟨Aq,nq,cq,Ar,nr,cr,rfl,rq,rr,-,hb4⟩
   have K4:=K.keep hb4
   have ry4:=ry.up (jab _) hb4
   clear rx ry K rq hb4 HDv r
   exact ZQ101
theorem jk6 (s t:Int) (A A2:Option Addr) (n cap n2 cap2:Nat) (a b:List Int) (w:World) (ha:RdI w w.heap.size A n cap a) (hb:RdI w w.heap.size A2 n2 cap2 b) :
 Calls Tryz.prog 102 #[.agg #[.int .i64 s,.slice A n cap],.agg #[.int .i64 t,.slice A2 n2 cap2]] w (if (jae s a&&jae t b)=false then jb0 w 0 0 1 else if t=0 then jb0 w 0 0 15 else jb0 w (fq (bval s a) (bval t b)) (fr (bval s a) (bval t b)) 0):=by
 have hcap:=ha.caps
 have hcap2:=hb.caps
 have K0:=box3 w (.int .i64 s) (.slice A n cap) (.int .i64 t) (.slice A2 n2 cap2) (.int .i64 0) (.slice none 0 0) 27 27 27 27
 have HR1:=jpk (fun W (h:Below w.heap.size w W)=>jaG s A n cap a W (ha.up (jab _) h))
 have HR2:=jpk (fun W (h:Below w.heap.size w W)=>jaG t A2 n2 cap2 b W (hb.up (jab _) h))
 obtain ⟨w0,hw0⟩:∃w0,w0=(((w.alloc (.cells #[.int .i64 s,.slice A n cap] 27)).alloc (.cells #[.int .i64 t,.slice A2 n2 cap2] 27)).alloc (.cells #[.int .i64 0,.slice none 0 0] 27)).alloc (.cells #[.int .i64 0,.slice none 0 0] 27):=⟨_,rfl⟩
 rw [←hw0] at K0
 obtain ⟨g,hg⟩:∃g,g=w.heap.size:=⟨_,rfl⟩
 rw [←hg] at K0
 have HW:=jpk hw0;have HG:=jpk hg
 clear hw0 hg
 obtain ⟨hb0,⟨⟨c0,c1⟩,c2,c3⟩,⟨⟨c4,c5⟩,c6,c7⟩,⟨c8,c9⟩,c10,c11⟩:=raw3.1 K0
 cases h1:jae s a
 ·rw [h1] at HR1
  rw [Bool.false_and,if_pos rfl]
  clear h1
  go_enter Tryz.func102,Tryz.ntmps102
  go_wp2_with fail
  rw [←HW.out,←HG.out]
  refine (HR1.out _ hb0).mono ?_
  rintro e w1 ⟨rfl,hb1⟩
  have K1:=K0.keep hb1
  clear hb1 hb0 c0 c1 c2 c3 c4 c5 c6 c7 c8 c9 c10 c11 K0
  obtain ⟨hb0,⟨⟨c0,c1⟩,c2,c3⟩,⟨⟨c4,c5⟩,c6,c7⟩,⟨c8,c9⟩,c10,c11⟩:=raw3.1 K1
  obtain ⟨⟨e1,e2⟩,e3,e4⟩:=ja8 (u:=.int .i64 0) (v:=.slice none 0 0) (u':=.int .i64 0) (v':=.slice none 0 0) (show g+2≠g+3 by omega) c4 c5 c6 c7
  have HE:=jpk (jb0.mk (c:=1) (Nat.le_of_eq HG.out.symm) K1 Zb0 Rd.nil Rd.nil Std.zero Std.zero FrA.none FrA.none)
  clear K1
  exact ZQ93
 cases h2:jae t b
 ·rw [h1] at HR1
  rw [h2] at HR2
  rw [Bool.true_and,if_pos rfl]
  clear h1 h2
  go_enter Tryz.func102,Tryz.ntmps102
  go_wp2_with fail
  rw [←HW.out,←HG.out]
  refine (HR1.out _ hb0).mono ?_
  rintro e w1 ⟨rfl,hb1⟩
  have K1:=K0.keep hb1
  clear hb1 hb0 c0 c1 c2 c3 c4 c5 c6 c7 c8 c9 c10 c11 K0
  obtain ⟨hb0,⟨⟨c0,c1⟩,c2,c3⟩,⟨⟨c4,c5⟩,c6,c7⟩,⟨c8,c9⟩,c10,c11⟩:=raw3.1 K1
  go_wp2_with fail
  refine (HR2.out _ hb0).mono ?_
  rintro e w2 ⟨rfl,hb1⟩
  have K2:=K1.keep hb1
  clear hb1 hb0 c0 c1 c2 c3 c4 c5 c6 c7 c8 c9 c10 c11 K1
  obtain ⟨hb0,⟨⟨c0,c1⟩,c2,c3⟩,⟨⟨c4,c5⟩,c6,c7⟩,⟨c8,c9⟩,c10,c11⟩:=raw3.1 K2
  obtain ⟨⟨e1,e2⟩,e3,e4⟩:=ja8 (u:=.int .i64 0) (v:=.slice none 0 0) (u':=.int .i64 0) (v':=.slice none 0 0) (show g+2≠g+3 by omega) c4 c5 c6 c7
  have HE:=jpk (jb0.mk (c:=1) (Nat.le_of_eq HG.out.symm) K2 Zb0 Rd.nil Rd.nil Std.zero Std.zero FrA.none FrA.none)
  clear K2
  exact ZQ93
 rw [h1] at HR1
 rw [h2] at HR2
 rw [Bool.true_and,if_neg Zb0]
 by_cases ht:t=0
 ·have hd:(t==0)=true:=by simp [ht]
  rw [if_pos ht]
  clear h1 h2 ht
  go_enter Tryz.func102,Tryz.ntmps102
  go_wp2_with fail
  rw [←HW.out,←HG.out]
  refine (HR1.out _ hb0).mono ?_
  rintro e w1 ⟨rfl,hb1⟩
  have K1:=K0.keep hb1
  clear hb1 hb0 c0 c1 c2 c3 c4 c5 c6 c7 c8 c9 c10 c11 K0
  obtain ⟨hb0,⟨⟨c0,c1⟩,c2,c3⟩,⟨⟨c4,c5⟩,c6,c7⟩,⟨c8,c9⟩,c10,c11⟩:=raw3.1 K1
  go_wp2_with fail
  refine (HR2.out _ hb0).mono ?_
  rintro e w2 ⟨rfl,hb1⟩
  have K2:=K1.keep hb1
  clear hb1 hb0 c0 c1 c2 c3 c4 c5 c6 c7 c8 c9 c10 c11 K1
  obtain ⟨hb0,⟨⟨c0,c1⟩,c2,c3⟩,⟨⟨c4,c5⟩,c6,c7⟩,⟨c8,c9⟩,c10,c11⟩:=raw3.1 K2
  obtain ⟨⟨e1,e2⟩,e3,e4⟩:=ja8 (u:=.int .i64 0) (v:=.slice none 0 0) (u':=.int .i64 0) (v':=.slice none 0 0) (show g+2≠g+3 by omega) c4 c5 c6 c7
  have HE:=jpk (jb0.mk (c:=15) (Nat.le_of_eq HG.out.symm) K2 Zb0 Rd.nil Rd.nil Std.zero Std.zero FrA.none FrA.none)
  clear K2
  go_wp2
  exact bodyPost_ret (v:=.tuple #[.agg #[.int .i64 0,.slice none 0 0],.agg #[.int .i64 0,.slice none 0 0],.int .i64 15]) (by simp [results,Tryz.results102,go_sem,e1,e2,e3,e4]) rfl HE.out
 have hd:(t==0)=false:=by simp [ht]
 rw [if_neg ht]
 obtain ⟨c1',l1,-⟩:=jah h1
 obtain ⟨c2',l2,e2'⟩:=jah h2
 have hst:=jgp s t (jcf h1) (jcf h2)
 have hbne:b≠[]:=by
  rcases e2' with ⟨-,h⟩|⟨h,-⟩
  ·exact absurd h ht
  ·exact h
 rw [ha.len] at l1
 rw [hb.len] at l2
 have hn21:1≤n2:=by
  have:=List.length_pos_iff.2 hbne
  rw [hb.len] at this
  exact this
 have hb1:=c2'.pos hbne
 have ha1:=jas c1'.1
 obtain ⟨Dq,hDq⟩:∃D,D=digs (val a / val b).toNat:=⟨_,rfl⟩
 obtain ⟨Dr,hDr⟩:∃D,D=digs (val a%val b).toNat:=⟨_,rfl⟩
 have cDq:Cn Dq:=by rw [hDq];exact jat _
 have cDr:Cn Dr:=by rw [hDr];exact jat _
 have vq0:=Int.ediv_nonneg ha1 (Int.le_of_lt hb1)
 have vr0:=Int.emod_nonneg (val a) (b:=val b) ZO
 have vr1:=Int.emod_lt_of_pos (val a) hb1
 have vDq:val Dq=val a / val b:=by rw [hDq,jau];omega
 have vDr:val Dr=val a%val b:=by rw [hDr,jau];omega
 have lq:Dq.length≤60:=by
  exact ZQ127
 have lr:Dr.length≤b.length:=by
  rw [hDr]
  refine jaM ?_
  have h3:=ja7 c2'.1
  omega
 rw [hb.len] at lr
 have HD:=jpk (fun W (h:BxC w g [(0,0,.int .i64 s),(0,1,.slice A n cap),(1,0,.int .i64 t),(1,1,.slice A2 n2 cap2)] [(2,0),(2,1),(3,0),(3,1)] W)=>(jfz A A2 n cap n2 cap2 a b W (ha.up (jab _) h.1) (hb.up (jab _) h.1) c1'.1 c2'.1 ZO ZO hb1).mono fun e W' ⟨Aq,nq,cq,Ar,nr,cr,he,r1,r2,⟨f1,f2⟩,hb⟩=>(⟨Aq,nq,cq,Ar,nr,cr,he,⟨h.keep hb,hDq ▸ r1,hDr ▸ r2⟩,f1.mono (h.lt (m:=3) (j:=0) Zb0),f2.mono (h.lt (m:=3) (j:=0) Zb0)⟩:∃Aq nq cq Ar nr cr,e=Ending.returned (.tuple #[.slice Aq nq cq,.slice Ar nr cr])∧D3 w g [(0,0,.int .i64 s),(0,1,.slice A n cap),(1,0,.int .i64 t),(1,1,.slice A2 n2 cap2)] [(2,0),(2,1),(3,0),(3,1)] Aq Ar nq cq nr cr Dq Dr W'∧FrA (g+4) Aq∧FrA (g+4) Ar))
 have ms:(s*t=1∨s*t= -1∨Dq=[])∧(s=1∨s= -1∨Dr=[]):=by
  exact ZQ47
 have msv:(s*t=1∨s*t= -1∨val Dq=0)∧(s=1∨s= -1∨val Dr=0):=⟨by rcases ms.1 with h|h|h;exact Or.inl h;exact Or.inr (Or.inl h);exact Or.inr (Or.inr (by rw [h];rfl)),by rcases ms.2 with h|h|h;exact Or.inl h;exact Or.inr (Or.inl h);exact Or.inr (Or.inr (by rw [h];rfl))⟩
 by_cases hcs:s*t<0∧val a%val b≠0
 case neg =>
  have hc':¬s*t<0∨val a%val b=0:=by omega
  obtain ⟨q1,q2⟩:=jgH h1 h2 ht hc'
  have z1:s*t*val Dq=fq (bval s a) (bval t b):=by rw [vDq,q1]
  have z2:s*val Dr=fr (bval s a) (bval t b):=by rw [vDr,q2]
  have HS1:=jpk (fun Aq Ar nq cq nr cr W (h:D3 w g [(0,0,.int .i64 s),(0,1,.slice A n cap),(1,0,.int .i64 t),(1,1,.slice A2 n2 cap2)] [(2,0),(2,1),(3,0),(3,1)] Aq Ar nq cq nr cr Dq Dr W)=>(ja5 (s*t) Aq nq cq _ _ W h.2.1 (by rw [←h.2.1.len];omega) cDq.1 msv.1 z1).mono fun e W' ⟨s',A',n',c',l',he,hr,hs,hf,hb⟩=>(⟨s',A',n',c',l',he,hr,hs,hf.mono (h.1.lt (m:=3) (j:=0) Zb0),h.keep hb,hb⟩:∃s' A' n' c' l',e=Ending.returned (.agg #[.int .i64 s',.slice A' n' c'])∧RdI W' W'.heap.size A' n' c' l'∧Std s' l' (fq (bval s a) (bval t b))∧FrA (g+3+1) A'∧D3 w g [(0,0,.int .i64 s),(0,1,.slice A n cap),(1,0,.int .i64 t),(1,1,.slice A2 n2 cap2)] [(2,0),(2,1),(3,0),(3,1)] Aq Ar nq cq nr cr Dq Dr W'∧Below W.heap.size W W'))
  have HS2:=jpk (fun Aq Ar nq cq nr cr W (h:D3 w g [(0,0,.int .i64 s),(0,1,.slice A n cap),(1,0,.int .i64 t),(1,1,.slice A2 n2 cap2)] [(2,0),(2,1),(3,0),(3,1)] Aq Ar nq cq nr cr Dq Dr W)=>(ja5 s Ar nr cr _ _ W h.2.2 (by rw [←h.2.2.len];omega) cDr.1 msv.2 z2).mono fun e W' ⟨s',A',n',c',l',he,hr,hs,hf,hb⟩=>(⟨s',A',n',c',l',he,hr,hs,hf.mono (h.1.lt (m:=3) (j:=0) Zb0),h.keep hb,hb⟩:∃s' A' n' c' l',e=Ending.returned (.agg #[.int .i64 s',.slice A' n' c'])∧RdI W' W'.heap.size A' n' c' l'∧Std s' l' (fr (bval s a) (bval t b))∧FrA (g+3+1) A'∧D3 w g [(0,0,.int .i64 s),(0,1,.slice A n cap),(1,0,.int .i64 t),(1,1,.slice A2 n2 cap2)] [(2,0),(2,1),(3,0),(3,1)] Aq Ar nq cq nr cr Dq Dr W'∧Below W.heap.size W W'))
  have hcond:decide (0≤s*t)=true∨(decide (0≤s*t)=false∧Dr=[]):=by
   rcases hc' with h|h
   ·exact Or.inl (decide_eq_true ZO)
   ·by_cases h':s*t<0
    ·exact Or.inr ⟨decide_eq_false ZO,by rw [hDr,h];exact jax⟩
    ·exact Or.inl (decide_eq_true ZO)
  clear z1 z2 q1 q2 hc' hcs msv ms lq lr vDq vDr vq0 vr0 vr1 cDq cDr hDq hDr hb1 ha1 hn21 hbne e2' l1 l2 c1' c2' h1 h2 ht
  generalize fq (bval s a) (bval t b)=Zq at *
  generalize fr (bval s a) (bval t b)=Zr at *
  rcases hcond with hd1|⟨hd1,hd2⟩
  ·go_enter Tryz.func102,Tryz.ntmps102
   go_wp2_with fail
   rw [←HW.out,←HG.out]
   refine (HR1.out _ hb0).mono ?_
   rintro e w1 ⟨rfl,hb1⟩
   have K1:=K0.keep hb1
   clear hb1 hb0 c0 c1 c2 c3 c4 c5 c6 c7 c8 c9 c10 c11 K0
   obtain ⟨hb0,⟨⟨c0,c1⟩,c2,c3⟩,⟨⟨c4,c5⟩,c6,c7⟩,⟨c8,c9⟩,c10,c11⟩:=raw3.1 K1
   go_wp2_with fail
   refine (HR2.out _ hb0).mono ?_
   rintro e w2 ⟨rfl,hb1⟩
   have K2:=K1.keep hb1
   clear hb1 hb0 c0 c1 c2 c3 c4 c5 c6 c7 c8 c9 c10 c11 K1
   obtain ⟨hb0,⟨⟨c0,c1⟩,c2,c3⟩,⟨⟨c4,c5⟩,c6,c7⟩,⟨c8,c9⟩,c10,c11⟩:=raw3.1 K2
   go_wp2_with fail
   refine (HD.out _ K2).mono ?_
   rintro e w5 ⟨Aq,nq,cq,Ar,nr,cr,rfl,K3,fq',fr'⟩
   clear hb0 c0 c1 c2 c3 c4 c5 c6 c7 c8 c9 c10 c11 K2
   exact ZQ15
  ·go_enter Tryz.func102,Tryz.ntmps102
   go_wp2_with fail
   rw [←HW.out,←HG.out]
   refine (HR1.out _ hb0).mono ?_
   rintro e w1 ⟨rfl,hb1⟩
   have K1:=K0.keep hb1
   clear hb1 hb0 c0 c1 c2 c3 c4 c5 c6 c7 c8 c9 c10 c11 K0
   obtain ⟨hb0,⟨⟨c0,c1⟩,c2,c3⟩,⟨⟨c4,c5⟩,c6,c7⟩,⟨c8,c9⟩,c10,c11⟩:=raw3.1 K1
   go_wp2_with fail
   refine (HR2.out _ hb0).mono ?_
   rintro e w2 ⟨rfl,hb1⟩
   have K2:=K1.keep hb1
   clear hb1 hb0 c0 c1 c2 c3 c4 c5 c6 c7 c8 c9 c10 c11 K1
   obtain ⟨hb0,⟨⟨c0,c1⟩,c2,c3⟩,⟨⟨c4,c5⟩,c6,c7⟩,⟨c8,c9⟩,c10,c11⟩:=raw3.1 K2
   go_wp2_with fail
   refine (HD.out _ K2).mono ?_
   rintro e w5 ⟨Aq,nq,cq,Ar,nr,cr,rfl,K3,fq',fr'⟩
   clear hb0 c0 c1 c2 c3 c4 c5 c6 c7 c8 c9 c10 c11 K2
   have hd2:((nr:Int)==0)=true:=by have hnr:=K3.2.2.len;rw [←hnr,hd2];rfl
   exact ZQ15
 case pos =>
  have hd1:decide (0≤s*t)=false:=decide_eq_false ZO
  obtain ⟨q1,q2⟩:=jja h1 h2 hcs.1 hcs.2
  obtain ⟨m1,-,-,-⟩:=jdd h1 h2 hcs.1
  obtain ⟨D1,hD1⟩:∃D,D=digs (val Dq+1).toNat:=⟨_,rfl⟩
  obtain ⟨D2,hD2⟩:∃D,D=digs (val b-val Dr).toNat:=⟨_,rfl⟩
  have cD1:Cn D1:=by rw [hD1];exact jat _
  have cD2:Cn D2:=by rw [hD2];exact jat _
  have z1: -1*val D1=fq (bval s a) (bval t b):=by rw [hD1,jau,q1];omega
  have z2:t*val D2=fr (bval s a) (bval t b):=by rw [hD2,q2,vDr,jau];congr 1;omega
  have d1:DgOk [1]:=DgOk.cons.2 ⟨by omega,DgOk.nil⟩
  have v1:val [1]=1:=by simp [val]
  have hr0:0<Dr.length:=List.length_pos_iff.2 (fun e=>by rw [e] at vDr;have:val []=0:=rfl;omega)
  have m1':t=1∨t= -1∨val D2=0:=by rcases m1 with h|h;exact Or.inl h;exact Or.inr (Or.inl h)
  have hl1:D1.length≤61:=by
   rw [hD1]
   refine jaM (n:=61) ?_
   have h1:=ja7 cDq.1
   have h3:=jbY lq
   have h4:pw 61=1048576*pw 60:=by rw [pw]
   have h5:=jaX 60
   omega
  have hl2:D2.length≤60:=by
   rw [hD2]
   refine jaM (n:=60) ?_
   have h1:=ja7 c2'.1
   rw [hb.len] at h1
   have h3:=jbY l2
   have h4:=jas cDr.1
   omega
  have HA:=jpk (fun Aq Ar nq cq nr cr (W0:World) (H:Nat) (hH:W0.heap.size=H) W (hW:W=(W0.alloc (.cells #[.int .i64 1] 3)).drew) (h:D3 w g [(0,0,.int .i64 s),(0,1,.slice A n cap),(1,0,.int .i64 t),(1,1,.slice A2 n2 cap2)] [(2,0),(2,1),(3,0),(3,1)] Aq Ar nq cq nr cr Dq Dr W)=>(jfA Aq (some ⟨H,0,none⟩) nq cq 1 1 Dq [1] W h.2.1 (by rw [hW];exact Rd.litG jap (w:=W0) 3 [1] #[.int .i64 1] 1 H hH rfl rfl ZO) cDq.1 d1 (by rw [←h.2.1.len];omega) ZO).mono fun e W' ⟨A',n',c',he,hr,hf,hb⟩=>(⟨A',n',c',he,by rw [v1] at hr;rw [hD1];exact hr,hf.mono (h.1.lt (m:=3) (j:=0) Zb0),h.keep hb,hb⟩:∃A' n' c',e=Ending.returned (.slice A' n' c')∧RdI W' W'.heap.size A' n' c' D1∧FrA (g+3+1) A'∧D3 w g [(0,0,.int .i64 s),(0,1,.slice A n cap),(1,0,.int .i64 t),(1,1,.slice A2 n2 cap2)] [(2,0),(2,1),(3,0),(3,1)] Aq Ar nq cq nr cr Dq Dr W'∧Below W.heap.size W W'))
  have HM:=jpk (fun Aq Ar nq cq nr cr W (h:D3 w g [(0,0,.int .i64 s),(0,1,.slice A n cap),(1,0,.int .i64 t),(1,1,.slice A2 n2 cap2)] [(2,0),(2,1),(3,0),(3,1)] Aq Ar nq cq nr cr Dq Dr W)=>(jcE A2 Ar n2 cap2 nr cr b Dr W (hb.up (jab _) h.1.1) h.2.2 c2'.1 cDr.1 ZO (by rw [←h.2.2.len];omega) (by rw [vDr];omega)).mono fun e W' ⟨A',n',c',he,hr,hf,hb⟩=>(⟨A',n',c',he,hD2 ▸ hr,hf.mono (h.1.lt (m:=3) (j:=0) Zb0),h.keep hb,hb⟩:∃A' n' c',e=Ending.returned (.slice A' n' c')∧RdI W' W'.heap.size A' n' c' D2∧FrA (g+3+1) A'∧D3 w g [(0,0,.int .i64 s),(0,1,.slice A n cap),(1,0,.int .i64 t),(1,1,.slice A2 n2 cap2)] [(2,0),(2,1),(3,0),(3,1)] Aq Ar nq cq nr cr Dq Dr W'∧Below W.heap.size W W'))
  have HS1:=jpk (fun A6 n6 c6 Aq Ar nq cq nr cr W (h6:RdI W W.heap.size A6 n6 c6 D1) (h:D3 w g [(0,0,.int .i64 s),(0,1,.slice A n cap),(1,0,.int .i64 t),(1,1,.slice A2 n2 cap2)] [(2,0),(2,1),(3,0),(3,1)] Aq Ar nq cq nr cr Dq Dr W)=>(ja5 (-1) A6 n6 c6 _ _ W h6 (by rw [←h6.len];omega) cD1.1 (Or.inr (Or.inl rfl)) z1).mono fun e W' ⟨s',A',n',c',l',he,hr,hs,hf,hb⟩=>(⟨s',A',n',c',l',he,hr,hs,hf.mono (h.1.lt (m:=3) (j:=0) Zb0),h.keep hb,hb⟩:∃s' A' n' c' l',e=Ending.returned (.agg #[.int .i64 s',.slice A' n' c'])∧RdI W' W'.heap.size A' n' c' l'∧Std s' l' (fq (bval s a) (bval t b))∧FrA (g+3+1) A'∧D3 w g [(0,0,.int .i64 s),(0,1,.slice A n cap),(1,0,.int .i64 t),(1,1,.slice A2 n2 cap2)] [(2,0),(2,1),(3,0),(3,1)] Aq Ar nq cq nr cr Dq Dr W'∧Below W.heap.size W W'))
  have HS2:=jpk (fun A6 n6 c6 Aq Ar nq cq nr cr W (h6:RdI W W.heap.size A6 n6 c6 D2) (h:D3 w g [(0,0,.int .i64 s),(0,1,.slice A n cap),(1,0,.int .i64 t),(1,1,.slice A2 n2 cap2)] [(2,0),(2,1),(3,0),(3,1)] Aq Ar nq cq nr cr Dq Dr W)=>(ja5 t A6 n6 c6 _ _ W h6 (by rw [←h6.len];omega) cD2.1 m1' z2).mono fun e W' ⟨s',A',n',c',l',he,hr,hs,hf,hb⟩=>(⟨s',A',n',c',l',he,hr,hs,hf.mono (h.1.lt (m:=3) (j:=0) Zb0),h.keep hb,hb⟩:∃s' A' n' c' l',e=Ending.returned (.agg #[.int .i64 s',.slice A' n' c'])∧RdI W' W'.heap.size A' n' c' l'∧Std s' l' (fr (bval s a) (bval t b))∧FrA (g+3+1) A'∧D3 w g [(0,0,.int .i64 s),(0,1,.slice A n cap),(1,0,.int .i64 t),(1,1,.slice A2 n2 cap2)] [(2,0),(2,1),(3,0),(3,1)] Aq Ar nq cq nr cr Dq Dr W'∧Below W.heap.size W W'))
  clear d1 v1 z1 z2 q1 q2 hcs msv ms hl1 hl2 m1 m1' cD1 cD2 hD1 hD2 lq lr vDq vDr vq0 vr0 vr1 cDq cDr hDq hDr hb1 ha1 hn21 hbne e2' l1 l2 c1' c2' h1 h2 ht
  generalize fq (bval s a) (bval t b)=Zq at *
  generalize fr (bval s a) (bval t b)=Zr at *
  have Hr0:=jpk hr0
  clear hr0
  go_enter Tryz.func102,Tryz.ntmps102
  go_wp2_with fail
  rw [←HW.out,←HG.out]
  refine (HR1.out _ hb0).mono ?_
  rintro e w1 ⟨rfl,hb1⟩
  have K1:=K0.keep hb1
  clear hb1 hb0 c0 c1 c2 c3 c4 c5 c6 c7 c8 c9 c10 c11 K0
  obtain ⟨hb0,⟨⟨c0,c1⟩,c2,c3⟩,⟨⟨c4,c5⟩,c6,c7⟩,⟨c8,c9⟩,c10,c11⟩:=raw3.1 K1
  go_wp2_with fail
  refine (HR2.out _ hb0).mono ?_
  rintro e w2 ⟨rfl,hb1⟩
  have K2:=K1.keep hb1
  clear hb1 hb0 c0 c1 c2 c3 c4 c5 c6 c7 c8 c9 c10 c11 K1
  obtain ⟨hb0,⟨⟨c0,c1⟩,c2,c3⟩,⟨⟨c4,c5⟩,c6,c7⟩,⟨c8,c9⟩,c10,c11⟩:=raw3.1 K2
  go_wp2_with fail
  refine (HD.out _ K2).mono ?_
  rintro e w5 ⟨Aq,nq,cq,Ar,nr,cr,rfl,K3,fq',fr'⟩
  clear hb0 c0 c1 c2 c3 c4 c5 c6 c7 c8 c9 c10 c11 K2
  have hnr:0<nr:=by rw [←K3.2.2.len];exact Hr0.out
  have hd2:((nr:Int)==0)=false:=by simp;omega
  obtain ⟨⟨hb0,⟨⟨c0,c1⟩,c2,c3⟩,⟨⟨c4,c5⟩,c6,c7⟩,⟨c8,c9⟩,c10,c11⟩,-,-⟩:=raw4.1 K3
  go_wp2_with fail
  clear hb0 c0 c1 c2 c3 c4 c5 c6 c7 c8 c9 c10 c11
  have HF2:=jpk (fq'.mono (show g+2+1≤g+4 by omega))
  have HF2':=jpk (fr'.mono (show g+2+1≤g+4 by omega))
  have HF3:=jpk (fq'.mono (show g+3+1≤g+4 by omega))
  have HF3':=jpk (fr'.mono (show g+3+1≤g+4 by omega))
  go_region_held3 (fun W=>(Below w.heap.size w W∧((W.cell? ⟨g,0,none⟩=some (.int .i64 s)∧W.cell? ⟨g,1,none⟩=some (.slice A n cap))∧W.cell? ⟨g+1,0,none⟩=some (.int .i64 t)∧W.cell? ⟨g+1,1,none⟩=some (.slice A2 n2 cap2))∧((W.cell? ⟨g+2,0,none⟩=some (jaw W ⟨g+2,0,none⟩)∧W.cell? ⟨g+2,1,none⟩=some (jaw W ⟨g+2,1,none⟩))∧W.cell? ⟨g+3,0,none⟩=some (jaw W ⟨g+3,0,none⟩)∧W.cell? ⟨g+3,1,none⟩=some (jaw W ⟨g+3,1,none⟩))∧(W.frozen? ⟨g+2,0,none⟩=false∧W.frozen? ⟨g+2,1,none⟩=false)∧W.frozen? ⟨g+3,0,none⟩=false∧W.frozen? ⟨g+3,1,none⟩=false)∧RdI W W.heap.size Aq nq cq Dq∧RdI W W.heap.size Ar nr cr Dr)
   ((refine raw4.1 ?_;first|assumption|exact K3.drew|exact D3.set2 (Nat.le_of_eq HG.out.symm) Zb6 (b:=g+2) ZO Zb7 HF2.out HF2'.out|exact D3.set2 (Nat.le_of_eq HG.out.symm) (raw4.2 Zb6) (b:=g+3) ZO Zb7 HF3.out HF3'.out|exact (raw4.2 Zb6).keep ((Below.refl _ _).alloc (Nat.le_refl _) _)))
   (first
    | (go_at_call 119;refine (HA.out _ _ _ _ _ _ _ _ rfl _ rfl (raw4.2 Zb6)).mono ?_;rintro e w6 ⟨A8,n8,c8,rfl,hr8,hf8,k8,b8⟩)
    | (go_at_call 121;refine (HM.out _ _ _ _ _ _ _ (raw4.2 Zb6)).mono ?_;rintro e w7 ⟨A9,n9,c9,rfl,hr9,hf9,k9,b9⟩)
    | (go_at_call 103;with_reducible refine (HS1.out _ _ _ _ _ _ _ _ _ _ Zb6 (raw4.2 Zb6)).mono ?_;rintro e w3 ⟨s6,A6,n6,c6,l6,rfl,hr6,hstd6,hf6,k6,b6⟩)
    | (go_at_call 103;with_reducible refine (HS2.out _ _ _ _ _ _ _ _ _ _ Zb6 (raw4.2 Zb6)).mono ?_;rintro e w4 ⟨s7,A7,n7,c7,l7,rfl,hr7,hstd7,hf7,k7,b7⟩))
  have h67:=(hr6.up (jab _) b9).up (jab _) b7
  have hA6:=hf6
  have hA7:=hf7
  clear hr6 hf6 hf7 k6 b6 b7 b8 b9 k8 k9 hr8 hr9 hf8 hf9 K3 fq' fr'
  obtain ⟨⟨-,-,⟨⟨x4,x5⟩,x6,x7⟩,-⟩,-,-⟩:=raw4.1 k7
  obtain ⟨⟨e1,e2⟩,e3,e4⟩:=ja8 (u:=.int .i64 s6) (v:=.slice A6 n6 c6) (u':=.int .i64 s7) (v':=.slice A7 n7 c7) (show g+2≠g+3 by omega) x4 x5 x6 x7
  have HE:=jpk (jb0.mk (c:=0) (Nat.le_of_eq HG.out.symm) k7.1 Zb0 h67 hr7 hstd6 hstd7 hA6 hA7)
  clear k7 h67 hr7 hstd6 hstd7 hA6 hA7 x4 x5 x6 x7
  go_wp2
  exact bodyPost_ret (v:=.tuple #[.agg #[.int .i64 s6,.slice A6 n6 c6],.agg #[.int .i64 s7,.slice A7 n7 c7],.int .i64 0]) (by simp [results,Tryz.results102,go_sem,e1,e2,e3,e4]) rfl HE.out
end Go.Proofs.YtgikfcjndiohjaaGreat
