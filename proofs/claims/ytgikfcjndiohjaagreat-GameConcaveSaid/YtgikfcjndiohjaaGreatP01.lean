/- Laws and walks; conditions stand in each theorem. -/
import Derived.WalkKit
import Derived.Laws.OwnMore
import Derived.Deep.Draws
import Derived.Deep.AppendLies
import Derived.Lib.Hide
import Derived.ProofKit
import Derived.OpenShut
import Derived.ShutString
import Derived.ChangeOld
import Derived.Below
import Derived.SizedLaws
import Derived.Deep.SlicePairs
import Derived.Deep.Slices
import Derived.ChangeSame
import Derived.Maps.AppendAt
import Derived.RegionTactic
import Derived.OwnWalk
import Derived.Laws.CopyRow
import Derived.Laws.CopyOwn
import Derived.Deep.RegionHeld3
import Derived.Test.YtgikfcjndiohjaaGreatProg
import Derived.LoopTactic
import Derived.Deep.QuietTactic
import Derived.BigQuiet
import Derived.Deep.LoopGhost
import Derived.IntWalk
import Derived.Handy
import Derived.Shelf.Abstract
import Derived.Lib.MinMax
import Derived.ArgAppend
import Derived.Laws.BitsLemmas
import Derived.Laws.BitsAllLaws
import Derived.Lib.LazyBuf
import Derived.Deep.CutRange
import Derived.Deep.CutBlock
import Derived.Outline
import Derived.OrdersHeld
import Derived.BigRegion
import Derived.Maps.RangeWalk
import Derived.Test.YtgikfcjndiohjaaGreatRows
namespace Go.Proofs.YtgikfcjndiohjaaGreat
open Go.RowKit
theorem jpk {p:Prop} (h:p):Go.RowKit.Hid p:=Go.Lib.hid h
theorem ZQ62 {p:Prop} (h:p:=by
 first
  | (have hd:(x==0)=true:=by simp [hx0]
     have Hn:=jpk (show ∀j,m≤j→j<n→gi l j=0 from fun j h1 h2=>by
      by_cases e:j=m
      ·subst e;rw [Hx.out];exact hx0
      ·exact Hz.out j (by omega) h2)
     clear hx0
     go_wp2
     go_roundg m
     case rel=>exact ⟨m,by omega,rfl,by go_num,Hn.out,rfl⟩
     case measure=>omega)
      | fail):p:=h
theorem ZQ110 {p:Prop} (h:p:=by
 first
  | (rw [jdB (k:=m+1) (fun j h1 h2=>Hz.out j h1 (by omega)) (by omega)]
     exact jhJ (by omega) (fun _=>by rw [Nat.add_sub_cancel,Hx.out];exact hx0))
      | fail):p:=h
theorem ZQ74 {p:Prop} (h:p:=by
 first
  | (go_wp2
     go_ret
     exact ⟨by rw [HR.out];rfl,HB0.out⟩)
      | fail):p:=h
theorem ZQ78 {p:Prop} (h:p:=by
 first
  | (have h1:l.all (inB 0 1048575)=true:=jm1.2 fun d hd=>by
       obtain ⟨i,hi⟩:=List.mem_iff_getElem?.1 hd
       have:=h i (by rw [←hln];exact (List.getElem?_eq_some_iff.1 hi).1)
       rw [jaS hi] at this
       omega
     unfold jae
     rw [h1,Bool.true_and,hln])
      | fail):p:=h
theorem ZQ84 {p:Prop} (h:p:=by
 first
  | (go_wp2
     go_roundg (n-(k+1))
     case rel=>exact ⟨k+1,by omega,rfl,by go_num,Hn.out,rfl⟩
     case measure=>omega)
      | fail):p:=h
theorem ZQ98 {p:Prop} (h:p:=by
 first
  | (have hd:decide (x<0)=true:=by simpa using h1
     have Hf:=jpk (HF.out ⟨k,hlt,Or.inl (by rw [Hx.out];exact h1)⟩)
     clear h1
     go_wp2
     go_ret
     exact ⟨by rw [Hf.out];rfl,HB0.out⟩)
      | fail):p:=h
theorem ZQ121 {p:Prop} (h:p:=by
 first
  | (have Hf:=jpk (HF.out ⟨k,hlt,Or.inr (by rw [Hx.out];exact h2)⟩)
     clear h1 h2
     go_wp2
     go_ret
     exact ⟨by rw [Hf.out];rfl,HB0.out⟩)
      | fail):p:=h
theorem jnz {p:Prop} (h:p:=by first|(rw [BitVec.toNat_and,BitVec.toNat_ofInt,h127,Nat.and_two_pow_sub_one_eq_mod])|fail):p:=h
theorem jnA {p:Prop} (h:p:=by
 first
  | (by_cases e:j=i
     ·subst e;rw [ho];omega
     ·exact h2 j (by omega))
      | fail):p:=h
theorem Zb0 {p:Prop} (h:p:=by simp):p:=h
theorem ZO {p:Prop} (h:p:=by omega):p:=h
theorem Zb2 {p:Prop} (h:p:=by unfold maxLen;omega):p:=h
theorem Zb3 {p:Prop} (h:p:=by rw [jag];omega):p:=h
theorem Zb4 {p:Prop} (h:p:=by decide):p:=h
theorem ZQ9 {p:Prop} (h:p:=by
 first
  | (clear ho2 hb2
     obtain ⟨k,cv,o,hk,rfl,rfl,rfl,hI,ho,hbel⟩:=hrel
     have HI:=jpk hI
     obtain ⟨hc0,hc1⟩:=hI.2.2
     clear hI
     by_cases hlt:k<n
     ·obtain ⟨b1,o1,x,rfl,hb1,hx,c0⟩:=ha.atI hlt
      have Hx:=jpk (jaS hx)
      have hxd:=Hda.out k hlt
      rw [Hx.out] at hxd
      have c0':=(hbel.cell (p:=⟨b1,o1+k,none⟩) hb1).trans c0
      obtain ⟨z0,z1⟩:=ho.cellI (i:=k) (by omega)
      have hki:(k:Int)<(n:Int):=by omega
      have hk0:(0:Int)≤(k:Int):=by omega
      have hkn:(k:Int)<(n:Int)+1:=by omega
      have hwc:IntKind.i64.wrap (cv+x)=cv+x:=IntWalk.i64_in _ (by omega)
      clear hx c0
      by_cases hk2:k<n2
      ·obtain ⟨b2,o2,y,rfl,hb2,hy,d0⟩:=hb.atI hk2
       have Hy:=jpk (show bf k=y from by rw [Hpad.out,if_pos hk2];exact jaS hy)
       have hyd:=Hdb.out k
       rw [Hy.out] at hyd
       have d0':=(hbel.cell (p:=⟨b2,o2+k,none⟩) hb2).trans d0
       have hwc2:IntKind.i64.wrap (cv+x+y)=cv+x+y:=IntWalk.i64_in _ (by omega)
       have hmask:=jbL (cv+x+y)
       have hN:=(HI.out.congr (o':=fun j=>if j=k then (cv+x+y)%1048576 else o j) (fun j hj=>if_neg (by omega))).step (by rw [Hx.out];exact hxd) (by rw [Hy.out];exact hyd) (by rw [if_pos rfl,Hx.out,Hy.out])
       rw [Hx.out,Hy.out] at hN
       have HN:=jpk hN
       have ho3:=ho.setI (i:=k) (by omega) ((cv+x+y)%1048576)
       have hb3:=hbel.setCell (p:=⟨w.heap.size,k,none⟩) (Nat.le_refl _) (.int .i64 ((cv+x+y)%1048576))
       clear hN hy d0 ho hbel
       go_wp2
       go_roundg (n-(k+1))
       case rel=>exact ⟨k+1,_,_,by omega,rfl,by go_num,rfl,HN.out,ho3,hb3⟩
       case measure=>omega
      ·have hdk:decide (k<n2)=false:=by simp;omega
       have Hy:=jpk (show bf k=0 from by rw [Hpad.out,if_neg hk2])
       have hmask:=jbL (cv+x)
       have hN:=(HI.out.congr (o':=fun j=>if j=k then (cv+x)%1048576 else o j) (fun j hj=>if_neg (by omega))).step (by rw [Hx.out];exact hxd) (by rw [Hy.out];omega) (by rw [if_pos rfl,Hx.out,Hy.out,Int.add_zero])
       rw [Hx.out,Hy.out,Int.add_zero] at hN
       have HN:=jpk hN
       have ho3:=ho.setI (i:=k) (by omega) ((cv+x)%1048576)
       have hb3:=hbel.setCell (p:=⟨w.heap.size,k,none⟩) (Nat.le_refl _) (.int .i64 ((cv+x)%1048576))
       clear hN ho hbel hk2
       go_wp2
       go_roundg (n-(k+1))
       case rel=>exact ⟨k+1,_,_,by omega,rfl,by go_num,rfl,HN.out,ho3,hb3⟩
       case measure=>omega
     ·have ee:k=n:=by omega
      subst ee
      obtain ⟨z0,z1⟩:=ho.cellI (i:=k) (by omega)
      have ho3:=ho.setI (i:=k) (by omega) cv
      have hb3:=hbel.setCell (p:=⟨w.heap.size,k,none⟩) (Nat.le_refl _) (.int .i64 cv)
      obtain ⟨f1,f2⟩:=(HI.out.congr (o':=fun j=>if j=k then cv else o j) (fun j hj=>if_neg (by omega))).fin (if_pos rfl)
      have hkn:(k:Int)<(k:Int)+1:=by omega
      have hk0:(0:Int)≤(k:Int):=by omega
      have Hf1:=jpk f1;have Hf2:=jpk f2
      clear f1 f2 ho hbel
      go_wp2_with fail
      refine (jcR w.heap.size _ _ _ _ _ ho3 (by omega) Hf2.out).mono ?_
      rintro e _ ⟨⟨v,rfl,hv⟩,rfl⟩
      rw [Hf1.out,←Hval.out] at hv
      go_wp2
      go_ret
      exact ⟨⟨_,rfl,hv⟩,hb3⟩)
       | fail):p:=h
theorem ZQ13 {p:Prop} (h:p:=by
 first
  | (go_wp2_with fail
     go_quiet (fail)
     go_wp2_with fail
     refine (jhA w.heap.size gu (lu+1) cu m (j1+1-m) (cu-m) f (some ⟨gv,0,none⟩) n2 cv (digs Y.toNat) (g:Int) _ (HouD.out _) (HrvD.out _) (fun c off e=>by injection e with e;injection e with e1 e2 e3;omega) (by omega) (by omega) (by omega) (by omega) (jat _).1 (by omega) (fun j hj=>HI.out.dg (m+j) (by omega)) (by
      have e:val (digs Y.toNat)=Y:=by rw [jau];omega
      have e2:j1+1-m=n2+1:=by omega
      rw [e,e2]
      have:=HS.out
      rw [HWV.out] at this
      exact this)).mono ?_
     rintro e w8 ⟨qv,f',rfl,hqv,hvf,hdf,hof,hou8,hk8⟩
     have eY:val (digs Y.toNat)=Y:=by rw [jau];omega
     have e2:j1+1-m=n2+1:=by omega
     rw [eY,e2] at hqv hvf
     rw [e2] at hdf hof
     have hqq:qv=QD:=by
      have h1:=HQD.out
      have h2:=Hqg.out
      have h3:=HS.out
      have h4:=HWV.out
      have hW:vF (fun j=>f (m+j)) (n2+1)=WV:=h4.symm
      rw [hW] at hqv
      rw [←h4] at h1
      have h5:(g:Int)-1≤QD:=by rw [h1];exact (Int.le_ediv_iff_mul_le hYp0).2 h3
      rcases hqv with ⟨e,h⟩|⟨e,h⟩
      ·have:(g:Int)≤QD:=by rw [h1];exact (Int.le_ediv_iff_mul_le hYp0).2 h
       omega
      ·have:QD<(g:Int):=by rw [h1];exact Int.ediv_lt_of_lt_mul hYp0 h
       omega
     obtain ⟨hbz,hgqz⟩:=HbD.out _
     have hoq8:=(HoqD.out _).keptS hk8 (fun b hb h=>by
      have h1:gq=b:=by simpa [Value.ownBlock] using hb
      omega)
     have rv8:=(HrvD.out _).keptS hk8 (Nat.le_refl _) hk8.size (fun _ b off e h=>by
      injection e with e;injection e with e1 e2 e3
      omega)
     have hb8:=hbz.trans (hk8.below hbz.size (fun b h=>by omega))
     have hgq8:=Nat.lt_of_lt_of_le hgqz hk8.size
     have HD:=jpk (HI.out.step (q':=fun j=>if j=m then qv else q j) (x:=qv) HM.out (by omega) hYp0 Hy2.out (by rw [hqq];exact HQD.out) hvf hdf hof (if_pos rfl) (fun j hj=>if_neg (by omega)))
     have ho9:=hoq8.setI (i:=m) (by omega) qv
     obtain ⟨z8,z9⟩:=hoq8.cellI (i:=m) (by omega)
     have hb9:=hb8.setCell (p:=⟨gq,m,none⟩) hgqw (.int .i64 qv)
     have hk9:Kept (fun b=>b=gq) w8 (w8.setCell ⟨gq,m,none⟩ (.int .i64 qv)):=(Kept.refl _ _).setCell _ (Or.inl rfl)
     have hou9:=hou8.keptS hk9 (fun b hb h=>by
      have h1:gu=b:=by simpa [Value.ownBlock] using hb
      omega)
     have rv9:=rv8.keptS hk9 (Nat.le_refl _) hk9.size (fun _ b off e h=>by
      injection e with e;injection e with e1 e2 e3
      omega)
     have hgq9:=Nat.lt_of_lt_of_le hgq8 hk9.size
     have hmM:(m:Int)<(M:Int):=by omega
     clear hqv hvf hdf hof hqq eY e2 hk8 hk9 hbz hgqz hoq8 rv8 hb8 hou8
     go_wp2
     go_roundg m
     case rel=>exact ⟨m,f',_,by omega,rfl,by go_num,HD.out,hou9,ho9,rv9,hb9,hgq9⟩
     case measure=>omega)
      | fail):p:=h
theorem ZQ102 {p:Prop} (h:p:=by
 first
  | (go_wp2_with fail
     go_quiet (fail)
     go_wp2
     go_roundg h
     case rel=>exact ⟨h,r+v1,rfl,rfl,rfl,HN.out.1,by omega,HN.out.2,by omega,je3 Hq.out _⟩
     case measure=>omega)
      | fail):p:=h
theorem ZQ119 {p:Prop} (h:p:=by
 first
  | (go_wp2
     go_roundg (n-(k+1))
     case rel=>exact ⟨k+1,_,_,by omega,rfl,by go_num,rfl,HN.out,HO.out,ho3,hb3⟩
     case measure=>omega)
      | fail):p:=h
theorem ZQ125 {p:Prop} (h:p:=by
 first
  | (go_wp2
     go_roundg (k-(q+1))
     case rel=>exact ⟨q+1,_,_,by omega,rfl,by go_num,rfl,HN.out,ho3,hk3⟩
     case measure=>omega)
      | fail):p:=h
theorem ZQ126 {p:Prop} (h:p:=by
 first
  | (go_wp2
     go_roundg (m-(k+1))
     case rel=>exact ⟨k+1,_,_,by omega,rfl,by go_num,rfl,HN.out,ho3,hk3⟩
     case measure=>omega)
      | fail):p:=h
theorem jkF {p:Prop} (h:p:=by
 first
  | (go_wp2
     go_ret
     exact ⟨by rw [Hf.out];rfl,rfl⟩)
      | fail):p:=h
theorem Zb5 {p:Prop} (h:p:=by first|rfl|omega):p:=h
theorem ZQ11 {p:Prop} (h:p:=by
 first
  | (generalize bval s a+bval t b=Z at *
     generalize resZ true Z=RS at *
     generalize errZ true Z=ER at *
     generalize cmpI (val a) (val b)=CM at *
     go_enter Tryz.func91,Tryz.ntmps91
     go_wp2_with fail
     rw [←HW.out,←HG.out]
     refine (HR1.out _ hb0).mono ?_
     rintro e w1 ⟨rfl,hb1⟩
     have K1:=K0.keep hb1
     clear K0 c0 c1 c2 c3 c4 c5 c6 c7 hb1 hb0
     obtain ⟨hb0,⟨⟨d0,d1⟩,d2,d3⟩,⟨d4,d5⟩,d6,d7⟩:=raw2.1 K1
     go_wp2_with fail
     refine (HR2.out _ hb0).mono ?_
     rintro e w2 ⟨rfl,hb1⟩
     have K2:=K1.keep hb1
     clear K1 d0 d1 d2 d3 d4 d5 d6 d7 hb1 hb0
     obtain ⟨hb0,⟨⟨d0,d1⟩,d2,d3⟩,⟨d4,d5⟩,d6,d7⟩:=raw2.1 K2
     go_wp2_with fail
     refine (HCp.out _ K2).mono ?_
     rintro e w3 ⟨rfl,K3⟩
     clear hb0 d0 d1 d2 d3 d4 d5 d6 d7 K2
     have K2:=K3
     clear K3
     obtain ⟨hb0,⟨⟨d0,d1⟩,d2,d3⟩,⟨d4,d5⟩,d6,d7⟩:=raw2.1 K2
     go_wp2_with fail
     clear hb0 d0 d1 d2 d3 d4 d5 d6 d7
     go_region_held3 (fun W=>Below w.heap.size w W∧((W.cell? ⟨g,0,none⟩=some (.int .i64 s)∧W.cell? ⟨g,1,none⟩=some (.slice A n cap))∧W.cell? ⟨g+1,0,none⟩=some (.int .i64 t)∧W.cell? ⟨g+1,1,none⟩=some (.slice A2 n2 cap2))∧(W.cell? ⟨g+2,0,none⟩=some (jaw W ⟨g+2,0,none⟩)∧W.cell? ⟨g+2,1,none⟩=some (jaw W ⟨g+2,1,none⟩))∧W.frozen? ⟨g+2,0,none⟩=false∧W.frozen? ⟨g+2,1,none⟩=false)
      ((refine raw2.1 ?_;first|assumption|exact K2.drew|exact BxC.set2 (Nat.le_of_eq HG.out.symm) (by assumption) (by omega) (by simp <;> omega)|exact raw2.2 (by assumption)|exact (raw2.2 (by assumption)).keep ((Below.refl _ _).alloc (Nat.le_refl _) _)))
      (first
       | (go_at_call 93;refine (HS.out _ _ _ _ (by first | assumption | exact hr2.up (jab _) ((Below.refl _ _).alloc (Nat.le_refl _) _)) (raw2.2 (by assumption))).mono ?_;rintro e w3 ⟨s6,A6,n6,c6,l6,rfl,hr6,hstd6,hf6,k6,-⟩)
       | (go_at_call 92;refine (HC.out _ _ _ _ _ _ (by assumption) (by assumption) (raw2.2 (by assumption))).mono ?_;rintro e w3 ⟨s3,A3,n3,c3,l3,rfl,hr3,hstd,hf3,k3,-⟩)
       | (go_at_call 98;refine (HM.out _ (raw2.2 (by assumption))).mono ?_;rintro e w2 ⟨A5,n5,c5,rfl,hr2,hf2,k2,b2⟩))
     have hA:=hf3 _ (hf6 _ hf2)
     clear hf3 hf6 hf2 hr2 k2 hr6 hstd6 k6 K2 b2
     obtain ⟨-,-,⟨x2,x3⟩,-⟩:=raw2.1 k3
     obtain ⟨e1,e2⟩:=jav (u:=.int .i64 s3) (v:=.slice A3 n3 c3) x2 x3
     have K4:=jpk (k3.set2 (Nat.le_of_eq HG.out.symm) (b:=g+2) (u:=.int .i64 s3) (v:=.slice A3 n3 c3) (by omega) (by simp <;> omega)).1
     have hr4:=jpk (hr3.set2 (b:=g+2) (u:=.int .i64 s3) (v:=.slice A3 n3 c3) (fun a h=>by have:=hA a h;omega))
     have hA4:=jpk (hA.mono (C:=w.heap.size) (by have:=HG.out;omega))
     clear hA k3 hr3 x2 x3
     go_wp2
     exact bodyPost_ret (v:=.tuple #[.agg #[.int .i64 s3,.slice A3 n3 c3],.int .i64 ER]) (by simp [results,Tryz.results91,go_sem,e1,e2]) rfl ⟨s3,A3,n3,c3,l3,rfl,hr4.out,hstd,hA4.out,K4.out⟩)
      | fail):p:=h
theorem ZQ27 {p:Prop} (h:p:=by
 first
  | (have K2:=K1
     obtain ⟨hb0,⟨⟨d0,d1⟩,d2,d3⟩,⟨d4,d5⟩,d6,d7⟩:=raw2.1 K2
     clear K0 K1 c0 c1 c2 c3 c4 c5 c6 c7 hb0
     go_wp2_with fail
     refine (jcC false 0 none 0 0 [] 0 _ Rd.nil Std.zero).mono ?_
     rintro e w3 hch
     rw [jaC,jaz] at hch
     obtain ⟨s3,A3,n3,c3,l3,rfl,hr3,hstd,hf3,k3,-⟩:=hch.keep K2
     have hA:=hf3 (g+2+1) FrA.none
     obtain ⟨-,-,⟨x2,x3⟩,y2,y3⟩:=raw2.1 k3
     obtain ⟨e1,e2⟩:=jav (u:=.int .i64 s3) (v:=.slice A3 n3 c3) x2 x3
     have K4:=jpk (k3.set2 (Nat.le_of_eq HG.out.symm) (b:=g+2) (u:=.int .i64 s3) (v:=.slice A3 n3 c3) (by omega) (by simp <;> omega)).1
     have hr4:=jpk (hr3.set2 (b:=g+2) (u:=.int .i64 s3) (v:=.slice A3 n3 c3) (fun a h=>by have:=hA a h;omega))
     have hA4:=jpk (hA.mono (C:=w.heap.size) (by have:=HG.out;omega))
     clear hA k3 hf3 hr3 K2 d0 d1 d2 d3 d4 d5 d6 d7
     go_wp2
     exact bodyPost_ret (v:=.tuple #[.agg #[.int .i64 s3,.slice A3 n3 c3],.int .i64 1]) (by simp [results,Tryz.results91,go_sem,e1,e2]) rfl ⟨s3,A3,n3,c3,l3,rfl,hr4.out,hstd,hA4.out,K4.out⟩)
      | fail):p:=h
theorem ZQ20 {p:Prop} (h:p:=by
 first
  | (go_wp2_with (first | (refine ZAL ?_;clear K r;(first | ((fail_if_success revert b0);intro W b0 K r) | ((fail_if_success revert b1);intro W b1 K r) | intro W b K r)) | (refine ZST ?_;clear K r;intro W K r))
     go_ret
     exact ⟨rfl,K.1⟩)
      | fail):p:=h
theorem ZQ22 {p:Prop} (h:p:=by
 first
  | (clear K r
     obtain ⟨k,hk,rfl,rfl,hall,K⟩:=hrel
     have Hall:=jpk hall
     clear hall
     by_cases hlt:k<n
     ·obtain ⟨c1,o1,x,rfl,hc1,hx,d0⟩:=(show RdI wr wr.heap.size A n cap a from K.rd ZMB).atI hlt
      obtain ⟨c2,o2,y,rfl,hc2,hy,d1⟩:=(show RdI wr wr.heap.size A2 n cap2 b from K.rd ZMB).atI hlt
      have Hx:=jpk (jaS hx);have Hy:=jpk (jaS hy)
      have hki:(k:Int)<(n:Int):=by omega
      have hk0:(0:Int)≤(k:Int):=by omega
      clear hx hy
      have r:=K.rawS
      by_cases hxy:x=y
      ·have hdd:(x !=y)=false:=by simp [hxy]
       have Hn:=jpk (show ∀j,j<k+1→gi a j=gi b j from fun j hj=>by
        by_cases e:j=k
        ·subst e;rw [Hx.out,Hy.out];exact hxy
        ·exact Hall.out j (by omega))
       clear hxy
       go_wp2_with fail
       go_quiet (fail)
       go_wp2
       go_roundg (n-(k+1))
       case rel=>exact ⟨k+1,by omega,rfl,by go_num,Hn.out,K.drewN _⟩
       case measure=>omega
      ·have hdd:(x !=y)=true:=by simp [hxy]
       have Hf:=jpk (HNe.out k hlt (by rw [Hx.out,Hy.out];exact hxy))
       clear hxy
       go_wp2_with fail
       go_quiet (fail)
       go_wp2
       go_ret
       exact ⟨by rw [Hf.out];rfl,(K.drewN _).1⟩
     ·have ee:k=n:=by omega
      subst ee
      have hd0:decide (k<k)=false:=by simp
      have Hf:=jpk (HEq.out Hall.out)
      clear hlt
      have r:=K.rawS
      go_wp2
      go_ret
      exact ⟨by rw [Hf.out];rfl,K.1⟩)
       | fail):p:=h
theorem ZQ25 {p:Prop} (h:p:=by
 first
  | (have K2:=K1
     obtain ⟨hb0,⟨⟨d0,d1⟩,d2,d3⟩,⟨d4,d5⟩,d6,d7⟩:=raw2.1 K2
     clear K0 K1 c0 c1 c2 c3 c4 c5 c6 c7 hb0
     go_wp2_with fail
     refine (jcC false 0 none 0 0 [] 0 _ Rd.nil Std.zero).mono ?_
     rintro e w3 hch
     rw [jaC,jaz] at hch
     obtain ⟨s3,A3,n3,c3,l3,rfl,hr3,hstd,hf3,k3,-⟩:=hch.keep K2
     have hA:=hf3 (g+2+1) FrA.none
     obtain ⟨-,-,⟨x2,x3⟩,y2,y3⟩:=raw2.1 k3
     obtain ⟨e1,e2⟩:=jav (u:=.int .i64 s3) (v:=.slice A3 n3 c3) x2 x3
     have K4:=jpk (k3.set2 (Nat.le_of_eq HG.out.symm) (b:=g+2) (u:=.int .i64 s3) (v:=.slice A3 n3 c3) (by omega) (by simp <;> omega)).1
     have hr4:=jpk (hr3.set2 (b:=g+2) (u:=.int .i64 s3) (v:=.slice A3 n3 c3) (fun a h=>by have:=hA a h;omega))
     have hA4:=jpk (hA.mono (C:=w.heap.size) (by have:=HG.out;omega))
     clear hA k3 hf3 hr3 K2 d0 d1 d2 d3 d4 d5 d6 d7
     go_wp2
     exact bodyPost_ret (v:=.tuple #[.agg #[.int .i64 s3,.slice A3 n3 c3],.int .i64 1]) (by simp [results,Tryz.results53,go_sem,e1,e2]) rfl ⟨s3,A3,n3,c3,l3,rfl,hr4.out,hstd,hA4.out,K4.out⟩)
      | fail):p:=h
theorem ZQ92 {p:Prop} (h:p:=by
 first
  | (rw [if_neg (show ¬(true=false) by simp),if_neg (show ¬(true=false) by simp)]
     by_cases h:n≤60
     ·rw [if_neg (by omega),if_pos (hlen.1 h)]
     ·rw [if_pos (by omega),if_neg (fun h1=>h (hlen.2 h1))])
      | fail):p:=h
theorem Zb6 {p:Prop} (h:p:=by assumption):p:=h
theorem Zb7 {p:Prop} (h:p:=by simp <;> omega):p:=h
theorem ZQ14 {p:Prop} (h:p:=by
 first
  | (obtain ⟨⟨hb0,⟨⟨c0,c1⟩,c2,c3⟩,⟨⟨c4,c5⟩,c6,c7⟩,⟨c8,c9⟩,c10,c11⟩,-,-⟩:=raw4.1 K3
     go_wp2_with fail
     clear hb0 c0 c1 c2 c3 c4 c5 c6 c7 c8 c9 c10 c11
     have HF2:=jpk (fq'.mono (show g+2+1≤g+4 by omega))
     have HF2':=jpk (fr'.mono (show g+2+1≤g+4 by omega))
     have HF3:=jpk (fq'.mono (show g+3+1≤g+4 by omega))
     have HF3':=jpk (fr'.mono (show g+3+1≤g+4 by omega))
     go_region_held3 (fun W=>(Below w.heap.size w W∧((W.cell? ⟨g,0,none⟩=some (.int .i64 s)∧W.cell? ⟨g,1,none⟩=some (.slice A n cap))∧W.cell? ⟨g+1,0,none⟩=some (.int .i64 t)∧W.cell? ⟨g+1,1,none⟩=some (.slice A2 n2 cap2))∧((W.cell? ⟨g+2,0,none⟩=some (jaw W ⟨g+2,0,none⟩)∧W.cell? ⟨g+2,1,none⟩=some (jaw W ⟨g+2,1,none⟩))∧W.cell? ⟨g+3,0,none⟩=some (jaw W ⟨g+3,0,none⟩)∧W.cell? ⟨g+3,1,none⟩=some (jaw W ⟨g+3,1,none⟩))∧(W.frozen? ⟨g+2,0,none⟩=false∧W.frozen? ⟨g+2,1,none⟩=false)∧W.frozen? ⟨g+3,0,none⟩=false∧W.frozen? ⟨g+3,1,none⟩=false)∧RdI W W.heap.size Aq nq cq Dq∧RdI W W.heap.size Ar nr cr Dr)
      ((refine raw4.1 ?_;first|assumption|exact K3.drew|exact D3.set2 (Nat.le_of_eq HG.out.symm) (by assumption) (b:=g+2) (by omega) (by simp <;> omega) HF2.out HF2'.out|exact D3.set2 (Nat.le_of_eq HG.out.symm) (raw4.2 (by assumption)) (b:=g+3) (by omega) (by simp <;> omega) HF3.out HF3'.out|exact (raw4.2 (by assumption)).keep ((Below.refl _ _).alloc (Nat.le_refl _) _)))
      (first
       | (go_at_call 93;with_reducible refine (HS1.out _ _ _ _ _ _ _ (raw4.2 (by assumption))).mono ?_;rintro e w3 ⟨s6,A6,n6,c6,l6,rfl,hr6,hstd6,hf6,k6,b6⟩)
        | (go_at_call 93;with_reducible refine (HS2.out _ _ _ _ _ _ _ (raw4.2 (by assumption))).mono ?_;rintro e w4 ⟨s7,A7,n7,c7,l7,rfl,hr7,hstd7,hf7,k7,b7⟩))
     have h67:=hr6.up (jab _) b7
     have hA6:=hf6 _ fq'
     have hA7:=hf7 _ fr'
     clear hr6 hf6 hf7 k6 b6 b7 K3 fq' fr'
     obtain ⟨⟨-,-,⟨⟨x4,x5⟩,x6,x7⟩,-⟩,-,-⟩:=raw4.1 k7
     obtain ⟨⟨e1,e2⟩,e3,e4⟩:=ja8 (u:=.int .i64 s6) (v:=.slice A6 n6 c6) (u':=.int .i64 s7) (v':=.slice A7 n7 c7) (show g+2≠g+3 by omega) x4 x5 x6 x7
     have HE:=jpk (jb0.mk (c:=0) (Nat.le_of_eq HG.out.symm) k7.1 (by simp) h67 hr7 hstd6 hstd7 hA6 hA7)
     clear k7 h67 hr7 hstd6 hstd7 hA6 hA7 x4 x5 x6 x7
     go_wp2
     exact bodyPost_ret (v:=.tuple #[.agg #[.int .i64 s6,.slice A6 n6 c6],.agg #[.int .i64 s7,.slice A7 n7 c7],.int .i64 0]) (by simp [results,Tryz.results55,go_sem,e1,e2,e3,e4]) rfl HE.out)
      | fail):p:=h
theorem ZQ47 {p:Prop} (h:p:=by
 first
  | (rcases (jah h1).2.2 with ⟨h,-⟩ | ⟨-,h⟩
     ·subst h
      exact ⟨Or.inr (Or.inr (by rw [hDq];simp [val,jax])),Or.inr (Or.inr (by rw [hDr];simp [val,jax]))⟩
     ·rcases e2' with ⟨-,h'⟩|⟨-,h'⟩
      ·exact absurd h' ht
      ·refine ⟨?_,?_⟩
       ·rcases jhd h h' with h|h
        ·exact Or.inl h
        ·exact Or.inr (Or.inl h)
       ·rcases h with h|h
        ·exact Or.inl h
        ·exact Or.inr (Or.inl h))
         | fail):p:=h
theorem ZQ94 {p:Prop} (h:p:=by
 first
  | (go_wp2
     exact bodyPost_ret (v:=.tuple #[.agg #[.int .i64 0,.slice none 0 0],.agg #[.int .i64 0,.slice none 0 0],.int .i64 1]) (by simp [results,Tryz.results55,go_sem,e1,e2,e3,e4]) rfl HE.out)
      | fail):p:=h
theorem ZQ127 {p:Prop} (h:p:=by
 first
  | (rw [hDq]
     refine jaM ?_
     have h3:=ja7 c1'.1
     rw [ha.len] at h3
     have h4:=jbY l1
     have h5:=Int.ediv_le_self (val b) ha1
     omega)
      | fail):p:=h
theorem ZQ24 {p:Prop} (h:p:=by
 first
  | (have hbw:=hb0.trans (hb.mono hb0.size)
     have d0:=jaA hb c0
     have d1:=jaA hb c1
     have d2:=jc0 hb (by rw [c0];rfl) f0
     have d3:=jc0 hb (by rw [c1];rfl) f1
     clear hr ho hb c0 c1 f0 f1
     go_wp2_with fail
     refine HS.out.mono ?_
     rintro e w6 ⟨s3,A3,n3,c3,l3,rfl,hr3,hstd,hf3,hb6⟩
     have hA3:=hf3 _ hA
     have e0:=jaA hb6 d0
     have e1:=jaA hb6 d1
     have e2:=jc0 hb6 (by rw [d0];rfl) d2
     have e3:=jc0 hb6 (by rw [d1];rfl) d3
     have hb7:=((hbw.trans (hb6.mono hbw.size)).setCell (p:=⟨g,0,none⟩) (Nat.le_of_eq HG.out.symm) (.int .i64 s3)).setCell (p:=⟨g,1,none⟩) (Nat.le_of_eq HG.out.symm) (.slice A3 n3 c3)
     have hr4:=jpk (hr3.set2 (b:=g) (u:=.int .i64 s3) (v:=.slice A3 n3 c3) (fun a h=>by have:=hA3 a h;have:=HZ.out;omega))
     have hA4:=jpk (hA3.mono (C:=w.heap.size) (by have:=HG.out;have:=HZ.out;omega))
     obtain ⟨x1,x2⟩:=jav (W:=w6) (b:=g) (u:=.int .i64 s3) (v:=.slice A3 n3 c3) (jaq.2 (by rw [e0];rfl)) (jaq.2 (by rw [e1];rfl))
     clear hA hA3 hf3 hr3 hb6 d0 d1 d2 d3 hbw HS
     go_wp2
     exact bodyPost_ret (v:=.agg #[.int .i64 s3,.slice A3 n3 c3]) (by simp [results,Tryz.results115,go_sem,x1,x2]) rfl ⟨s3,A3,n3,c3,l3,rfl,hr4.out,hstd,hA4.out,hb7⟩)
      | fail):p:=h
theorem ZQ35 {p:Prop} (h:p:=by
 first
  | (have hd2:decide (0<gk)=true:=decide_eq_true h0
     have hmask:=jhk (gk:Int) (by omega)
     have HNx:=jpk (HI.out.step h0)
     have hsz:=hb.size
     go_wp2_with (at_builtin
                  refine jbd jap rfl _ _ 22 rfl w0.heap.size 3 i0 _ 8 Tryz.underlying22 hi0 hz0 hz1 hz2 rfl _ l rfl ho ((gk:Int)%1048576) _ rfl wr.heap.size rfl rfl (by omega) (by omega) hsz ?_
                  intro v4 w4 ho4 hk4 hn4 hB4
                  have hb4:=hB4 _ _ (Nat.le_refl _) hb
                  rw [show ((gk:Int)%1048576)=((gk%1048576:Nat):Int) from by omega] at ho4)
     go_roundg (gk / 1048576)
     case rel=>exact ⟨_,gk / 1048576,by simp,ho4,HNx.out,by omega,rfl,hb4⟩
     case measure=>omega)
      | fail):p:=h
theorem ZQ26 {p:Prop} (h:p:=by
 first
  | (have K2:=K1
     obtain ⟨hb0,⟨⟨d0,d1⟩,d2,d3⟩,⟨d4,d5⟩,d6,d7⟩:=raw2.1 K2
     clear K0 K1 c0 c1 c2 c3 c4 c5 c6 c7 hb0
     go_wp2_with fail
     refine (jcC false 0 none 0 0 [] 0 _ Rd.nil Std.zero).mono ?_
     rintro e w3 hch
     rw [jaC,jaz] at hch
     obtain ⟨s3,A3,n3,c3,l3,rfl,hr3,hstd,hf3,k3,-⟩:=hch.keep K2
     have hA:=hf3 (g+2+1) FrA.none
     obtain ⟨-,-,⟨x2,x3⟩,y2,y3⟩:=raw2.1 k3
     obtain ⟨e1,e2⟩:=jav (u:=.int .i64 s3) (v:=.slice A3 n3 c3) x2 x3
     have K4:=jpk (k3.set2 (Nat.le_of_eq HG.out.symm) (b:=g+2) (u:=.int .i64 s3) (v:=.slice A3 n3 c3) (by omega) (by simp <;> omega)).1
     have hr4:=jpk (hr3.set2 (b:=g+2) (u:=.int .i64 s3) (v:=.slice A3 n3 c3) (fun a h=>by have:=hA a h;omega))
     have hA4:=jpk (hA.mono (C:=w.heap.size) (by have:=HG.out;omega))
     clear hA k3 hf3 hr3 K2 d0 d1 d2 d3 d4 d5 d6 d7
     go_wp2
     exact bodyPost_ret (v:=.tuple #[.agg #[.int .i64 s3,.slice A3 n3 c3],.int .i64 1]) (by simp [results,Tryz.results89,go_sem,e1,e2]) rfl ⟨s3,A3,n3,c3,l3,rfl,hr4.out,hstd,hA4.out,K4.out⟩)
      | fail):p:=h
theorem ZQ101 {p:Prop} (h:p:=by
 first
  | (go_wp2
     go_roundg ((val (digs (val dx%val dy).toNat)).toNat)
     case rel=>exact ⟨Ay,ny,cy,dy,Ar,nr,cr,_,rfl,rfl,ry4,rr,HN.out,rfl,K4⟩
     case measure=>exact HN2.out)
      | fail):p:=h
theorem ZQ81 {p:Prop} (h:p:=by
 first
  | (go_wp2
     go_returns
     exact ⟨by rw [HIc.out,HIv.out];rfl,HB.out⟩)
      | fail):p:=h
theorem ZQ122 {p:Prop} (h:p:=by
 first
  | (go_wp2
     go_roundg (n-(k+1))
     case rel=>exact ⟨k+1,_,by go_num,rfl,Hst.out,by omega,rfl,H8'.out,rfl⟩
     case measure=>omega)
      | fail):p:=h
theorem Zb8 {p:Prop} (h:p:=by first|exact Or.inl rfl|exact Or.inr (Or.inl rfl)):p:=h
theorem ZQ19 {p:Prop} (h:p:=by
 first
  | (go_wp2_with (first | (refine ZAL ?_;clear K r;(first | ((fail_if_success revert b0);intro W b0 K r) | ((fail_if_success revert b1);intro W b1 K r) | ((fail_if_success revert b2);intro W b2 K r) | intro W b K r)) | (refine ZST ?_;clear K r;intro W K r))
     refine (HGc.out _ _ _ _ _ _ _ _ _ _ _ ZRD ZRD hs1 hs2).mono ?_
     rintro e W' ⟨s3,A3,n3,c3,l3,rfl,hr,hs3,hf,hb⟩
     replace K:=K.ret hb hr hf
     clear r
     have r:=K.rawS
     clear hr hf hb
     go_wp2_with (first|(refine ZAL ?_;clear K r;(first|((fail_if_success revert b0);intro W b0 K r)|((fail_if_success revert b1);intro W b1 K r)|((fail_if_success revert b2);intro W b2 K r)|intro W b K r))|(refine ZST ?_;clear K r;intro W K r))
     refine (HD1.out _ _ _ _ _ _ _ _ _ _ _ ZRD ZRD hs1 hs3).mono ?_
     rintro e W' ⟨s4,A4,n4,c4,l4,s5,A5,n5,c5,l5,rfl,⟨hr,hs4,hf⟩,-,hb⟩
     have hf4:=jpk (hf.mono K.1.size)
     replace K:=K.ret hb hr hf
     clear r
     have r:=K.rawS
     clear hr hf hb
     go_wp2_with (first|(refine ZAL ?_;clear K r;(first|((fail_if_success revert b0);intro W b0 K r)|((fail_if_success revert b1);intro W b1 K r)|((fail_if_success revert b2);intro W b2 K r)|intro W b K r))|(refine ZST ?_;clear K r;intro W K r))
     refine (HD2.out _ _ _ _ _ _ _ _ _ _ _ ZRD ZRD hs2 hs3).mono ?_
     rintro e W' ⟨s6,A6,n6,c6,l6,s7,A7,n7,c7,l7,rfl,⟨hr,hs6,hf⟩,-,hb⟩
     have hf6:=jpk (hf.mono K.1.size)
     replace K:=K.ret hb hr hf
     clear r
     have r:=K.rawS
     clear hr hf hb
     go_wp2_with (first|(refine ZAL ?_;clear K r;(first|((fail_if_success revert b0);intro W b0 K r)|((fail_if_success revert b1);intro W b1 K r)|((fail_if_success revert b2);intro W b2 K r)|intro W b K r))|(refine ZST ?_;clear K r;intro W K r))
     have HE:=jpk (HEnd.out _ _ _ _ _ _ _ _ _ _ _ ZRD ZRD hs4 hs6 hf4.out hf6.out K.1)
     clear hs1 hs2 hs3 hs4 hs6
     exact bodyPost_ret (v:=.tuple #[.agg #[.int .i64 s4,.slice A4 n4 c4,.int .i64 s6,.slice A6 n6 c6],.int .i64 0]) (by simp [results,Tryz.results95,go_sem,r]) rfl HE.out)
      | fail):p:=h
theorem ZQ45 {p:Prop} (h:p:=by
 first
  | (rintro e W' ⟨rfl,hb⟩
     replace K:=K.keep hb
     clear r
     have r:=K.rawS
     clear hb
     go_wp2_with (first|(refine ZAL ?_;clear K r;(first|((fail_if_success revert b0);intro W b0 K r)|((fail_if_success revert b1);intro W b1 K r)|((fail_if_success revert b2);intro W b2 K r)|intro W b K r))|(refine ZST ?_;clear K r;intro W K r))
     exact bodyPost_ret (v:=.tuple #[.agg #[.int .i64 0,.slice none 0 0,.int .i64 0,.slice none 0 0],.int .i64 1]) (by simp [results,Tryz.results95,go_sem,r]) rfl (Hno.out _ _ K.1))
      | fail):p:=h
theorem ZQ21 {p:Prop} (h:p:=by
 first
  | (rintro e W' ⟨rfl,hb⟩
     replace K:=K.keep hb
     clear r
     have r:=K.rawS
     clear hb
     go_wp2
     go_ret
     exact ⟨rfl,K.1⟩)
      | fail):p:=h
theorem ZQ68 {p:Prop} (h:p:=by
 first
  | (go_enter Tryz.func90,Tryz.ntmps90
     go_wp2_with (first|(refine ZAL ?_;clear K r;intro W b K r)|(refine ZST ?_;clear K r;intro W K r))
     refine (HI.out _ ZRD).mono ?_
     rintro e W' ⟨rfl,hb⟩
     replace K:=K.keep hb
     clear r
     have r:=K.rawS
     clear hb
     go_wp2
     go_ret
     exact ⟨by rw [HO.out];rfl,K.1⟩)
      | fail):p:=h
theorem ZQ86 {p:Prop} (h:p:=by
 first
  | (have ht:t≠0:=fun e=>by
       rcases h2.signs with ⟨-,-,h⟩|⟨-,h,-⟩|⟨-,h,-⟩
       ·exact hy h
       ·omega
       ·omega
     rw [h1.right f1,h2.right f2,h1.val,h2.val,if_neg (by simp),if_neg ht] at h
     exact h)
      | fail):p:=h
theorem ZQ96 {p:Prop} (h:p:=by
 first
  | (rw [h1.right f1,h2.right f2,h1.val,h2.val] at h
     have e1:gcdZ (true&&true) x y=(Int.gcd x y:Int):=by unfold gcdZ;simp
     have e2:okE (true&&true)=0:=rfl
     rw [e1,e2] at h
     exact h)
      | fail):p:=h
theorem jkC {p:Prop} (h:p:=by
 first
  | (rw [h1.right f1,h2.right f2,h1.val,h2.val] at h
     exact h)
      | fail):p:=h
theorem ZQ128 {p:Prop} (h:p:=by
 first
  | (have e:cmpB s l t m=cmpI x y:=by
       unfold cmpB
       rw [if_pos ⟨h1.right f1,h2.right f2⟩,h1.val,h2.val]
     rw [e] at h
     exact h)
      | fail):p:=h
theorem ZQ37 {p:Prop} (h:p:=by
 first
  | (rintro e W' ⟨rfl,hb⟩
     replace K:=K.keep hb
     clear r
     have r:=K.rawS
     clear hb
     go_wp2_with (first|(refine ZAL ?_;clear K r;(first|((fail_if_success revert b0);intro W b0 K r)|((fail_if_success revert b1);intro W b1 K r)|((fail_if_success revert b2);intro W b2 K r)|((fail_if_success revert b3);intro W b3 K r)|((fail_if_success revert b4);intro W b4 K r)|((fail_if_success revert b5);intro W b5 K r)|intro W b K r))|(refine ZST ?_;clear K r;intro W K r))
     exact bodyPost_ret (v:=.tuple #[.agg #[.int .i64 0,.slice none 0 0,.int .i64 0,.slice none 0 0],.int .i64 1]) (by simp [results,Tryz.results31,go_sem,r]) rfl (Hno.out _ _ K.1))
      | fail):p:=h
theorem ZQ56 {p:Prop} (h:p:=by
 first
  | (rintro e W' ⟨rfl,hb⟩
     replace K:=K.keep hb
     clear r
     have r:=K.rawS
     clear hb
     go_wp2_with (first|(refine ZAL ?_;clear K r;intro W b K r)|(refine ZST ?_;clear K r;intro W K r))
     exact bodyPost_ret (v:=.tuple #[.agg #[.int .i64 0,.slice none 0 0,.int .i64 0,.slice none 0 0],.int .i64 1]) (by simp [results,Tryz.results123,go_sem,r]) rfl (Hno.out _ _ K.1))
      | fail):p:=h
theorem ZQ57 {p:Prop} (h:p:=by
 first
  | (rintro e W' ⟨rfl,hb⟩
     replace K:=K.keep hb
     clear r
     have r:=K.rawS
     clear hb
     go_wp2_with (first|(refine ZAL ?_;clear K r;intro W b K r)|(refine ZST ?_;clear K r;intro W K r))
     exact bodyPost_ret (v:=.tuple #[.agg #[.int .i64 0,.slice none 0 0,.int .i64 0,.slice none 0 0],.int .i64 1]) (by simp [results,Tryz.results133,go_sem,r]) rfl (Hno.out _ _ K.1))
      | fail):p:=h
theorem ZQ58 {p:Prop} (h:p:=by
 first
  | (rintro e W' ⟨rfl,hb⟩
     replace K:=K.keep hb
     clear r
     have r:=K.rawS
     clear hb
     go_wp2_with (first|(refine ZAL ?_;clear K r;intro W b K r)|(refine ZST ?_;clear K r;intro W K r))
     exact bodyPost_ret (v:=.tuple #[.agg #[.int .i64 0,.slice none 0 0,.int .i64 0,.slice none 0 0],.int .i64 1]) (by simp [results,Tryz.results21,go_sem,r]) rfl (Hno.out _ _ K.1))
      | fail):p:=h
theorem ZQ63 {p:Prop} (h:p:=by
 first
  | (go_enter Tryz.func54,Tryz.ntmps54
     go_wp2_with (first|(refine ZAL ?_;clear K r;intro W b K r)|(refine ZST ?_;clear K r;intro W K r))
     exact bodyPost_ret (v:=.tuple #[.agg #[.int .i64 0,.slice none 0 0,.int .i64 0,.slice none 0 0],.int .i64 6]) (by simp [results,Tryz.results54,go_sem,r]) rfl (Hno.out _ _ K.1))
      | fail):p:=h
theorem ZQ67 {p:Prop} (h:p:=by first|(exact ⟨by rw [if_neg (by simp)];exact (if_neg (by simp)).symm,by rw [if_neg (by simp)];unfold binE;simp⟩)|fail):p:=h
theorem ZQ69 {p:Prop} (h:p:=by
 first
  | (go_wp2_with (first | (refine ZAL ?_;clear K r;intro W b K r) | (refine ZST ?_;clear K r;intro W K r))
     exact bodyPost_ret (v:=.tuple #[.agg #[.int .i64 0,.slice none 0 0],.int .i64 6]) (by simp [results,Tryz.results52,go_sem,r]) rfl ⟨0,none,0,0,[],rfl,Rd.nil,Std.zero,FrA.none,K.1⟩)
      | fail):p:=h
theorem ZQ39 {p:Prop} (h:p:=by
 first
  | (refine ⟨jag,h1,⟨by unfold maxLen at h2;exact h2,by omega⟩,fun hn=>⟨g,0,rfl,hB'.lt,fun k hk=>?_⟩⟩
     rw [jag] at hk
     refine ⟨(v k).cs,?_,rfl,fun j u hu=>?_⟩
     ·have e:(ofF n fun i=>(v i).fv)[k]'(by rw [jag];exact hk)=(v k).fv:=by
       have:=jaJ (f:=fun i=>(v i).fv) hk
       rw [List.getElem?_eq_getElem (by rw [jag];exact hk)] at this
       exact Option.some.inj this
      rw [e]
      exact ⟨_,_,_,_,_,_,rfl,(hv k hk).1,(hv k hk).2⟩
     ·have hj:j<4:=(List.getElem?_eq_some_iff.1 hu).1
      rw [Nat.zero_add]
      exact hB'.cell ((jaW (J:=J) hk hj).trans hu))
       | fail):p:=h
theorem ZQ41 {p:Prop} (h:p:=by
 first
  | (rw [List.getElem?_eq_getElem (by rw [jag];exact hk)] at this
     exact Option.some.inj this)
      | fail):p:=h
theorem ZQ97 {p:Prop} (h:p:=by
 first
  | (subst e
     rw [jaf]
     exact ⟨k2.2.2 W' h1 (fun b hS=>h2 b ⟨j,hj,by rw [jaf];exact Or.inl hS⟩),k3.2.2 W' h1 (fun b hS=>h2 b ⟨j,hj,by rw [jaf];exact Or.inr hS⟩)⟩)
      | fail):p:=h
theorem ZQ43 {p:Prop} (h:p:=by
 first
  | (have h2:=wpOp_putIf hoj (hfree j oj hoj hji hjun hno) (fun cs b=>hsel i oi cs b hi) (fun cs b=>hsel j oj cs b hoj) hQ hy (H.2 j (ready_mono hj hji))
     refine wpOp_mono (fun a' w' h3=>?_) h2
     have hS':=h3.2.1 hjn
     refine ⟨fun _=>hS',ih (listed.setIfInBounds j true) a' w' (fun k ok hk hki hun hno'=>?_) (ready_mono hr (Ne.symm hji)) h3.1 hS' ?_⟩
     ·refine hfree k ok hk hki ?_ hno'
      by_cases hjk:j=k
      ·rw [←hjk];exact hjun
      ·rw [getD_set_ne true hjk] at hun
       exact hun
     ·rw [Array.setIfInBounds_comm _ _ hji]
      exact h3.2.2)
       | fail):p:=h
theorem ZQ53 {p:Prop} (h:p:=by
 first
  | (refine ⟨(fun h=>by rw [h] at hr;cases hr),fun j hj=>?_⟩
     by_cases hji:j=i
     ·subst hji
      exact hy.wpOp hi hS ⟨fun _=>hS,H⟩
     ·have h1:=ready_mono (i:=i) hj hji
      rw [H.1] at h1
      cases h1)
       | fail):p:=h
theorem jkE {p:Prop} (h:p:=by
 first
  | (have h1:=hall e he hb
     rw [heq,hiun] at h1
     cases h1)
      | fail):p:=h
theorem jny {p:Prop} (h:p:=by
 first
  | (rw [if_neg (by decide)] at ho he
     subst he
     exact ⟨(fun e=>by cases e),rfl⟩)
      | fail):p:=h
theorem Zb9 {p:Prop} (h:p:=by kernel_rfl):p:=h
theorem Zb10 {p:Prop} (h:p:=by repeat (first|with_reducible exact List.Sublist.refl _|with_reducible apply List.Sublist.cons_cons|with_reducible apply List.Sublist.cons)):p:=h
theorem Zb11 {p:Prop} (h:p:=by repeat (first|exact M1.out|with_reducible apply List.mem_cons_of_mem)):p:=h
theorem Zb12 {p:Prop} (h:p:=by repeat (first|exact M2.out|with_reducible apply List.mem_cons_of_mem)):p:=h
theorem ZQ77 {p:Prop} (h:p:=by
 first
  | (go_wp2_with fail
     refine HT.out.mono ?_
     rintro e w' ⟨A5,n5,c5,rfl,hr5,hf5,hb5⟩
     have HE:=jpk (⟨A5,n5,c5,rfl,hr5,hf5.mono hsz,hbw.trans (hb5.mono hsz)⟩:DigR w R (.returned (.slice A5 n5 c5)) w')
     clear hr5 hf5 hb5
     go_wp2
     go_ret
     exact HE.out)
      | fail):p:=h
theorem ZQ88 {p:Prop} (h:p:=by
 first
  | (clear hneg hpos
     go_wp2
     go_ret
     exact ⟨by rw [←HR.out,h3];rfl,HB0.out⟩)
      | fail):p:=h
theorem ZQ131 {p:Prop} (h:p:=by
 first
  | (go_roundg (n-(k+1))
     case rel=>exact ⟨k+1,_,_,by omega,rfl,by go_num,rfl,HM.out,ho4,hb4⟩
     case measure=>omega)
      | fail):p:=h
theorem ZQ15 {p:Prop} (h:p:=by
 first
  | (obtain ⟨⟨hb0,⟨⟨c0,c1⟩,c2,c3⟩,⟨⟨c4,c5⟩,c6,c7⟩,⟨c8,c9⟩,c10,c11⟩,-,-⟩:=raw4.1 K3
     go_wp2_with fail
     clear hb0 c0 c1 c2 c3 c4 c5 c6 c7 c8 c9 c10 c11
     have HF2:=jpk (fq'.mono (show g+2+1≤g+4 by omega))
     have HF2':=jpk (fr'.mono (show g+2+1≤g+4 by omega))
     have HF3:=jpk (fq'.mono (show g+3+1≤g+4 by omega))
     have HF3':=jpk (fr'.mono (show g+3+1≤g+4 by omega))
     go_region_held3 (fun W=>(Below w.heap.size w W∧((W.cell? ⟨g,0,none⟩=some (.int .i64 s)∧W.cell? ⟨g,1,none⟩=some (.slice A n cap))∧W.cell? ⟨g+1,0,none⟩=some (.int .i64 t)∧W.cell? ⟨g+1,1,none⟩=some (.slice A2 n2 cap2))∧((W.cell? ⟨g+2,0,none⟩=some (jaw W ⟨g+2,0,none⟩)∧W.cell? ⟨g+2,1,none⟩=some (jaw W ⟨g+2,1,none⟩))∧W.cell? ⟨g+3,0,none⟩=some (jaw W ⟨g+3,0,none⟩)∧W.cell? ⟨g+3,1,none⟩=some (jaw W ⟨g+3,1,none⟩))∧(W.frozen? ⟨g+2,0,none⟩=false∧W.frozen? ⟨g+2,1,none⟩=false)∧W.frozen? ⟨g+3,0,none⟩=false∧W.frozen? ⟨g+3,1,none⟩=false)∧RdI W W.heap.size Aq nq cq Dq∧RdI W W.heap.size Ar nr cr Dr)
      ((refine raw4.1 ?_;first|assumption|exact K3.drew|exact D3.set2 (Nat.le_of_eq HG.out.symm) (by assumption) (b:=g+2) (by omega) (by simp <;> omega) HF2.out HF2'.out|exact D3.set2 (Nat.le_of_eq HG.out.symm) (raw4.2 (by assumption)) (b:=g+3) (by omega) (by simp <;> omega) HF3.out HF3'.out|exact (raw4.2 (by assumption)).keep ((Below.refl _ _).alloc (Nat.le_refl _) _)))
      (first
       | (go_at_call 103;with_reducible refine (HS1.out _ _ _ _ _ _ _ (raw4.2 (by assumption))).mono ?_;rintro e w3 ⟨s6,A6,n6,c6,l6,rfl,hr6,hstd6,hf6,k6,b6⟩)
        | (go_at_call 103;with_reducible refine (HS2.out _ _ _ _ _ _ _ (raw4.2 (by assumption))).mono ?_;rintro e w4 ⟨s7,A7,n7,c7,l7,rfl,hr7,hstd7,hf7,k7,b7⟩))
     have h67:=hr6.up (jab _) b7
     have hA6:=hf6
     have hA7:=hf7
     clear hr6 hf6 hf7 k6 b6 b7 K3 fq' fr'
     obtain ⟨⟨-,-,⟨⟨x4,x5⟩,x6,x7⟩,-⟩,-,-⟩:=raw4.1 k7
     obtain ⟨⟨e1,e2⟩,e3,e4⟩:=ja8 (u:=.int .i64 s6) (v:=.slice A6 n6 c6) (u':=.int .i64 s7) (v':=.slice A7 n7 c7) (show g+2≠g+3 by omega) x4 x5 x6 x7
     have HE:=jpk (jb0.mk (c:=0) (Nat.le_of_eq HG.out.symm) k7.1 (by simp) h67 hr7 hstd6 hstd7 hA6 hA7)
     clear k7 h67 hr7 hstd6 hstd7 hA6 hA7 x4 x5 x6 x7
     go_wp2
     exact bodyPost_ret (v:=.tuple #[.agg #[.int .i64 s6,.slice A6 n6 c6],.agg #[.int .i64 s7,.slice A7 n7 c7],.int .i64 0]) (by simp [results,Tryz.results102,go_sem,e1,e2,e3,e4]) rfl HE.out)
      | fail):p:=h
theorem ZQ93 {p:Prop} (h:p:=by
 first
  | (go_wp2
     exact bodyPost_ret (v:=.tuple #[.agg #[.int .i64 0,.slice none 0 0],.agg #[.int .i64 0,.slice none 0 0],.int .i64 1]) (by simp [results,Tryz.results102,go_sem,e1,e2,e3,e4]) rfl HE.out)
      | fail):p:=h
theorem ZQ44 {p:Prop} (h:p:=by
 first
  | (rintro e W' ⟨rfl,hb⟩
     replace K:=K.keep hb
     clear r
     have r:=K.rawS
     clear hb
     go_wp2_with (first|(refine ZAL ?_;clear K r;(first|((fail_if_success revert b0);intro W b0 K r)|((fail_if_success revert b1);intro W b1 K r)|((fail_if_success revert b2);intro W b2 K r)|intro W b K r))|(refine ZST ?_;clear K r;intro W K r))
     exact bodyPost_ret (v:=.tuple #[.agg #[.int .i64 0,.slice none 0 0],.int .i64 1]) (by simp [results,Tryz.results84,go_sem,r]) rfl ⟨0,none,0,0,[],rfl,Rd.nil,Std.zero,FrA.none,K.1⟩)
      | fail):p:=h
theorem ZQ16 {p:Prop} (h:p:=by
 first
  | (go_enter Tryz.func85,Tryz.ntmps85
     go_wp2_with (first|(refine ZAL ?_;clear K r;(first|((fail_if_success revert b0);intro W b0 K r)|((fail_if_success revert b1);intro W b1 K r)|((fail_if_success revert b2);intro W b2 K r)|((fail_if_success revert b3);intro W b3 K r)|intro W b K r))|(refine ZST ?_;clear K r;intro W K r))
     refine (HR1.out _ ZRD).mono ?_
     rintro e W' ⟨rfl,hb⟩
     replace K:=K.keep hb
     clear r
     have r:=K.rawS
     clear hb
     go_wp2_with (first|(refine ZAL ?_;clear K r;(first|((fail_if_success revert b0);intro W b0 K r)|((fail_if_success revert b1);intro W b1 K r)|((fail_if_success revert b2);intro W b2 K r)|((fail_if_success revert b3);intro W b3 K r)|intro W b K r))|(refine ZST ?_;clear K r;intro W K r))
     refine (HR2.out _ ZRD).mono ?_
     rintro e W' ⟨rfl,hb⟩
     replace K:=K.keep hb
     clear r
     have r:=K.rawS
     clear hb
     go_wp2_with (first|(refine ZAL ?_;clear K r;(first|((fail_if_success revert b0);intro W b0 K r)|((fail_if_success revert b1);intro W b1 K r)|((fail_if_success revert b2);intro W b2 K r)|((fail_if_success revert b3);intro W b3 K r)|intro W b K r))|(refine ZST ?_;clear K r;intro W K r))
     refine (HS.out _ ZRD ZRD).mono ?_
     rintro e W' ⟨rfl,hb⟩
     replace K:=K.keep hb
     clear r
     have r:=K.rawS
     clear hb
     go_wp2
     go_ret
     exact ⟨rfl,K.1⟩)
      | fail):p:=h
theorem ZQ36 {p:Prop} (h:p:=by
 first
  | (have K1:=K.keep hb
     have HF:=jpk hA
     replace K:=K1
     clear K1 r ho hr hA hb
     have r:=K.rawS
     go_wp2_with fail
     refine HM.out.mono ?_
     rintro e W' ⟨s3,A3,n3,c3,l3,rfl,hr,hs3,hf,hb⟩
     have hf3:=jpk (hf.mono K.1.size)
     replace K:=K.ret hb hr hf
     clear r
     have r:=K.rawS
     clear hr hf hb
     go_wp2_with (first|(refine ZAL ?_;clear K r;intro W b K r)|(refine ZST ?_;clear K r;intro W K r))
     have HE:=jpk (show BigR w n (.returned (.agg #[.int .i64 s3,.slice A3 n3 c3])) W from ⟨s3,A3,n3,c3,l3,rfl,ZRD,hs3,hf3.out,K.1⟩)
     clear hs3
     exact bodyPost_ret (v:=.agg #[.int .i64 s3,.slice A3 n3 c3]) (by simp [results,Tryz.results58,go_sem,r]) rfl HE.out)
      | fail):p:=h
theorem ZQ51 {p:Prop} (h:p:=by
 first
  | (go_wp2_with (at_builtin
                  refine jbd jap rfl _ _ 22 rfl W.heap.size 3 i0 _ 8 Tryz.underlying22 hi0 hz0 hz1 hz2 rfl _ l rfl ho ((m:Int)) _ rfl wr.heap.size rfl rfl (by omega) (by omega) hsz ?_
                  intro v4 w4 ho4 hk4 hn4 hB4
                  have hb4:=hB4 _ _ (Nat.le_refl _) hb)
     go_roundg (gk / 1048576)
     case rel=>exact ⟨_,gk / 1048576,rfl,ho4,HNx.out,by omega,rfl,hb4⟩
     case measure=>omega)
      | fail):p:=h
theorem ZQ23 {p:Prop} (h:p:=by
 first
  | (go_wp2_with (first | (refine ZAL ?_;clear K r;intro W b K r) | (refine ZST ?_;clear K r;intro W K r))
     refine (HGc.out _ _ _ _ _ _ _ _ _ _ _ ZRD ZRD hs1 hs2).mono ?_
     rintro e W' ⟨s3,A3,n3,c3,l3,rfl,hr,hs3,hf,hb⟩
     replace K:=K.ret hb hr hf
     clear r
     have r:=K.rawS
     clear hr hf hb
     go_wp2_with (first|(refine ZAL ?_;clear K r;intro W b K r)|(refine ZST ?_;clear K r;intro W K r))
     refine (HD1.out _ _ _ _ _ _ _ _ _ _ _ ZRD ZRD hs1 hs3).mono ?_
     rintro e W' ⟨s4,A4,n4,c4,l4,s5,A5,n5,c5,l5,rfl,⟨hr,hs4,hf⟩,-,hb⟩
     have hf4:=jpk (hf.mono K.1.size)
     replace K:=K.ret hb hr hf
     clear r
     have r:=K.rawS
     clear hr hf hb
     go_wp2_with (first|(refine ZAL ?_;clear K r;intro W b K r)|(refine ZST ?_;clear K r;intro W K r))
     refine (HD2.out _ _ _ _ _ _ _ _ _ _ _ ZRD ZRD hs2 hs3).mono ?_
     rintro e W' ⟨s6,A6,n6,c6,l6,s7,A7,n7,c7,l7,rfl,⟨hr,hs6,hf⟩,-,hb⟩
     have hf6:=jpk (hf.mono K.1.size)
     replace K:=K.ret hb hr hf
     clear r
     have r:=K.rawS
     clear hr hf hb
     go_wp2_with (first|(refine ZAL ?_;clear K r;intro W b K r)|(refine ZST ?_;clear K r;intro W K r))
     have HE:=jpk (HEnd.out _ _ _ _ _ _ _ _ _ _ _ ZRD ZRD hs4 hs6 hf4.out hf6.out K.1)
     clear hs1 hs2 hs3 hs4 hs6
     exact bodyPost_ret (v:=.tuple #[.agg #[.int .i64 s4,.slice A4 n4 c4,.int .i64 s6,.slice A6 n6 c6],.int .i64 0]) (by simp [results,Tryz.results57,go_sem,r]) rfl HE.out)
      | fail):p:=h
theorem ZQ60 {p:Prop} (h:p:=by
 first
  | (rintro e W' ⟨rfl,hb⟩
     replace K:=K.keep hb
     clear r
     have r:=K.rawS
     clear hb
     go_wp2_with (first|(refine ZAL ?_;clear K r;intro W b K r)|(refine ZST ?_;clear K r;intro W K r))
     exact bodyPost_ret (v:=.tuple #[.agg #[.int .i64 0,.slice none 0 0,.int .i64 0,.slice none 0 0],.int .i64 1]) (by simp [results,Tryz.results57,go_sem,r]) rfl (Hno.out _ _ K.1))
      | fail):p:=h
theorem ZQ34 {p:Prop} (h:p:=by
 first
  | (go_roundg (n-(k+1))
     case rel=>exact ⟨k+1,by omega,rfl,by go_num,(fun j y hj hy=>by
      by_cases e:j=k
      ·subst e;rw [Hx.out] at hy;cases hy;exact Hin.out
      ·exact Hall.out j y (by omega) hy),HB.out.trans (hb1.mono HB.out.size)⟩
     case measure=>omega)
      | fail):p:=h
theorem ZQ46 {p:Prop} (h:p:=by
 first
  | (rw [List.all_eq_true]
     intro x hx
     obtain ⟨j,hj,rfl⟩:=List.mem_iff_getElem.1 hx
     exact Hall.out j _ (by rw [Hlen.out] at hj;exact hj) (List.getElem?_eq_getElem hj))
      | fail):p:=h
theorem ZQ66 {p:Prop} (h:p:=by
 first
  | (go_ret
     exact ⟨(k:Int),rfl,by omega,by omega,by rw [Hno.out];simp,HB.out.trans (hb1.mono HB.out.size)⟩)
      | fail):p:=h
theorem ZQ76 {p:Prop} (h:p:=by
 first
  | (clear hb hl
     go_wp2
     go_ret
     exact ⟨-1,rfl,by omega,by omega,by rw [Hyes.out];rfl,HB.out⟩)
      | fail):p:=h
theorem jnw {p:Prop} (h:p:=by first|(rw [List.all_eq_false];exact ⟨x,List.mem_of_getElem? Hx.out,by simp [hin]⟩)|fail):p:=h
theorem ZQ40 {p:Prop} (h:p:=by
 first
  | (go_enter Tryz.func122,Tryz.ntmps122
     go_wp2_with (first|(first|(refine ZAL ?_;clear K r;intro W b K r)|(refine ZST ?_;clear K r;intro W K r))|(go_at_call 104;refine (HR.out _ ZRD ZRD).mono ?_;rintro e W' ⟨rfl,hb⟩;replace K:=K.keep hb;clear hb r;have r:=K.rawS))
     go_ret
     exact ⟨rfl,K.1⟩)
      | fail):p:=h
theorem ZQ80 {p:Prop} (h:p:=by
 first
  | (go_wp2_with (first | (refine ZAL ?_;clear K r;intro W b K r) | (refine ZST ?_;clear K r;intro W K r))
     go_roundg (n-(k+1))
     case rel=>exact ⟨k+1,hlt,rfl,by go_num,HA2,K.less (fun _ h=>by cases h)⟩
     case measure=>omega)
      | fail):p:=h
theorem ZQ108 {p:Prop} (h:p:=by
 first
  | (rw [List.all_eq_true]
     intro x hx
     obtain ⟨j,hj,rfl⟩:=List.mem_iff_getElem.1 hx
     exact HA.out j _ (by rw [Hlen.out] at hj;exact hj) (List.getElem?_eq_getElem hj))
      | fail):p:=h
theorem ZQ52 {p:Prop} (h:p:=by
 first
  | (have HN:=jpk (Hst.out.2 (decide_eq_false hle))
     clear Hst hle
     refine jaa.tkA 7 rfl ?_
     refine jaa.done (by kernel_rfl) ?_
     clear hSh
     go_wp2_with fail
     go_ret
     exact ⟨false,bn,Ln,rfl,HU2,jpk (by
      rw [Bool.false_and]
      cases hb:b
      ·have h:=HN.out
       rw [hb] at h
       unfold belB
       rw [jfX hlt (by simpa using h)]
       rfl
      ·rfl),HK.out.part (List.sublist_append_right [_,_,_] _)⟩)
       | fail):p:=h
theorem ZQ55 {p:Prop} (h:p:=by
 first
  | (have h1:=hu i hi
     have h2:(u i).fv.ok=true:=List.all_eq_true.1 hF.2 _ (List.mem_of_getElem? h1)
     have h3:=jbW h2
     unfold rwA2
     rw [hX,Option.bind_some,h1,Option.map_some,Option.getD_some]
     exact h3)
      | fail):p:=h
theorem ZQ65 {p:Prop} (h:p:=by
 first
  | (have HN:=jpk (Hst.out.1 (decide_eq_true hle))
     clear Hst hle
     refine jaa.tkA 7 rfl ?_
     refine jaa.done (by kernel_rfl) ?_
     clear hSh
     go_wp2_with fail
     go_roundg (m-(k+1))
     case rel=>exact ⟨k+1,bn,Ln,hlt,rfl,by go_num,HU2,HN,HK.out.part (List.sublist_append_right [_,_] _)⟩
     case measure=>omega)
      | fail):p:=h
theorem jkD {p:Prop} (h:p:=by
 first
  | (clear K HU HS hlt
     go_wp2_with fail
     go_ret
     exact HE.out)
      | fail):p:=h
theorem Zb13 {p:Prop} (h:p:=by repeat (first|with_reducible exact List.Sublist.refl _|with_reducible apply List.Sublist.cons)):p:=h
theorem ZQ42 {p:Prop} (h:p:=by
 first
  | (obtain ⟨g1,g2,g3⟩:=h
     refine ⟨(g1.step h2 (fun _=>Iff.rfl)).congr ⟨fun h j hj hne=>?_,fun h=>⟨fun j hj hne=>h j (by omega) hne,h k (by omega) hks⟩⟩,fun l j hn=>?_,fun j hj hne hs=>?_⟩
     ·by_cases e:j=k
      ·rw [e];exact h.2
      ·exact h.1 j (by omega) hne
     ·rw [jc2 V' x (fun e=>hn ⟨e.1,by omega,by omega⟩)]
      exact g2 l j (fun e=>hn ⟨e.1,by omega,e.2.2⟩)
     ·by_cases e:j=k
      ·rw [e] at hs ⊢
       rw [jfm,hx.q]
       exact hz hs
      ·rw [jc2 V' x (fun h=>e h.2)]
       exact g3 j (by omega) hne hs)
        | fail):p:=h
theorem ZQ85 {p:Prop} (h:p:=by
 first
  | (obtain ⟨h1,h2,h3⟩:=h
     refine ⟨h1.congr ⟨fun h j hj hne=>h j (by omega) hne,fun h j hj hne=>h j (by omega) hne⟩,fun l j hn=>h2 l j (fun e=>hn ⟨e.1,by omega,e.2.2⟩),fun j hj hne=>h3 j (by omega) hne⟩)
      | fail):p:=h
theorem ZQ64 {p:Prop} (h:p:=by
 first
  | (clear HQ hks
     have r:=K.rawS
     go_wp2_with fail
     go_roundg (M.N-(k+1))
     case rel=>exact ⟨k+1,b2,V2,hlt,rfl,by go_num,HG2,HQ2,K⟩
     case measure=>omega)
      | fail):p:=h
theorem ZQ111 {p:Prop} (h:p:=by
 first
  | (clear K
     go_wp2_with fail
     go_roundg (M.N-(k+1))
     case rel=>exact ⟨k+1,bn,put2 V2 i k z,hlt,rfl,by go_num,HG3,HQ,HK.out⟩
     case measure=>omega)
      | fail):p:=h
theorem Zb14 {p:Prop} (h:p:=by repeat (first|with_reducible exact Mm.mem Hi.out|with_reducible exact Mm.memV Hi.out|with_reducible apply List.mem_cons_of_mem)):p:=h
theorem Zb15 {p:Prop} (h:p:=by repeat (first|with_reducible exact Mm.mem Hr.out|with_reducible exact Mm.memV Hr.out|with_reducible apply List.mem_cons_of_mem)):p:=h
theorem Zb16 {p:Prop} (h:p:=by repeat (first|with_reducible exact Mm.updV Hi.out _|with_reducible exact Upd.head _|with_reducible apply Upd.tail)):p:=h
theorem jnu {p:Prop} (h:p:=by
 first
  | (by_cases e:j=s
     ·rw [if_pos e,if_pos e,if_pos e]
     ·rw [if_neg e,if_neg e,if_neg e])
      | fail):p:=h
theorem Zb17 {p:Prop} (h:p:=by repeat (first|with_reducible exact List.mem_cons_self|with_reducible apply List.mem_append_right|with_reducible apply List.mem_cons_of_mem)):p:=h
theorem ZQ82 {p:Prop} (h:p:=by
 first
  | (have K':St w0 (Xf++[]) D W:=by rw [List.append_nil];exact K.part hsub
     obtain ⟨A',c',e,hr⟩:=h3.rdI K' (by omega)
     injection e with e1 e2 e3
     subst e1 e3
     refine ⟨?_,hr⟩
     rw [←e2]
     exact (K.blk hmem).cell (j:=8) rfl)
      | fail):p:=h
theorem ZQ83 {p:Prop} (h:p:=by
 first
  | (have K':St w0 (Xo++[]) D W:=by rw [List.append_nil];exact K.part hsub
     obtain ⟨A',c',e,hr⟩:=h2.rdI K' (by omega)
     injection e with e1 e2 e3
     subst e1 e3
     refine ⟨?_,hr⟩
     rw [←e2]
     exact (K.blk hmem).cell (j:=7) rfl)
      | fail):p:=h
theorem ZQ95 {p:Prop} (h:p:=by
 first
  | (have hB:=K.blk hm2
     exact ⟨hB.cell (jaW (j:=0) hj (by omega)),hB.cell (jaW (j:=1) hj (by omega)),hB.cell (jaW (j:=2) hj (by omega)),hB.cell (jaW (j:=3) hj (by omega))⟩)
      | fail):p:=h
theorem ZQ70 {p:Prop} (h:p:=by
 first
  | (rw [h3]
     exact ⟨fun hn=>absurd hn (by decide),fun hn=>absurd (h1.1 (by omega)) (Rat.not_le.2 hn)⟩)
      | fail):p:=h
theorem ZQ17 {p:Prop} (h:p:=by
 first
  | (obtain ⟨hrm,hsN,-⟩:=Dc.pick_swap ((HT.out.2 rfl).1) hpk
     have hp0:=jdw ((HT.out.2 rfl).1) hpk
     have HX:=jpk (fun V h=>je0 (w:=V) (x:=(b2,#[.int .i64 ((s:Nat):Int)],3)) (y:=(b1,#[.int .i64 ((rr:Nat):Int)],3)) (z:=(b0,#[.pointer (some ⟨db,0,none⟩)],81)) (L1:=L1) (D:=D) (w0:=w0) HD.out h hrm hsN hm hN hp0)
     have HS:=jpk (fun b' G3 (h1:FulK false b' (G2.fitX m N rr s=true)) h2=>HT.out.step (G2:=G3) hpk h1 h2)
     clear hpk hrm hsN hp0
     go_wp2_with (go_at_call 112;refine (HX.out _ K).mono ?_;rintro e w5 ⟨b',G3,Ld3,Dd3,rfl,k1,k2,k3,k5⟩)
     obtain ⟨ht,hsl⟩:=HS.out _ _ k2.out k3.out
     have HSL:=jpk hsl
     clear HX HS K k2 k3 hsl
     go_roundg (gk-1)
     case rel=>exact ⟨b',G3,Ld3,Dd3,k1,HSL,k5.part ((List.sublist_cons_self _ _).trans (List.sublist_cons_self _ _))⟩
     case measure=>omega)
      | fail):p:=h
theorem ZQ87 {p:Prop} (h:p:=by
 first
  | (clear HD HT
     go_upto_region 12 with fail
     go_region
     all_goals
      go_wp2_with fail
      exact bodyPost_ret (v:=.tuple #[.int .i64 (-1),.int .i64 ((s:Nat):Int)]) (by simp [results,Tryz.results62,go_sem]) rfl HE.out)
       | fail):p:=h
theorem ZQ109 {p:Prop} (h:p:=by
 first
  | (clear HD HT
     go_wp2_with fail
     exact bodyPost_ret (v:=.tuple #[.int .i64 ((rr:Nat):Int),.int .i64 (-1)]) (by simp [results,Tryz.results62,go_sem]) rfl HE.out)
      | fail):p:=h
theorem ZQ124 {p:Prop} (h:p:=by
 first
  | (go_wp2_with fail
     exact bodyPost_ret (v:=.tuple #[.int .i64 (-1),.int .i64 (-1)]) (by simp [results,Tryz.results62,go_sem]) rfl HE.out)
      | fail):p:=h
theorem Zb18 {p:Prop} (h:p:=by repeat (first|exact List.sublist_append_left _ _|apply List.Sublist.cons)):p:=h
theorem ZQ7 {p:Prop} (h:p:=by
 first
  | (go_loopg [37] N (fun gk s37 wr=>∃(j:Nat) (v:Nat→Rw) (x:Nat→Rat),j≤N∧gk=N-j∧s37=.int .i64 j∧Hid (∀u,u<m→isQ (v u) (x u))∧Hid (PutX G.free (G.a rr) m N j x0 x)∧St w0 ((g,rwA m v [],29)::(Ld++L1)) (⟨rwP m v,rwS m v⟩::(Dd++D)) wr)
     case atStart=>exact ⟨0,v1,x0,Nat.zero_le _,rfl,rfl,HV1,jpk (PutX.zero _ _ _ _ _),K⟩
     case round =>
      clear K HV1
      obtain ⟨j,v2,x2,hj,rfl,rfl,HV2,HP,K⟩:=hrel
      by_cases hlt:j<N
      ·have hji:(j:Int)<(N:Int):=by omega
       have hj0:(0:Int)≤(j:Int):=by omega
       have hlf:=HOk.out.lf j hlt
       obtain ⟨vb,vo,hA,hvb,hcc⟩:=RdI.cellAt (HFR.out _ _ _ (by repeat (first|exact List.sublist_append_left _ _|apply List.Sublist.cons)) K).2 hlt
       subst hA
       rw [jcS hlt] at hcc
       by_cases hge:N≤G.free j
       ·obtain ⟨u,hu⟩:∃u,G.free j=N+u:=⟨G.free j-N,by omega⟩
        have hum:u<m:=by omega
        have hgi:((G.free j:Nat):Int)≥(N:Int):=by omega
        have hgd:decide (N≤G.free j)=true:=decide_eq_true hge
        have hws:IntKind.i64.wrap (((G.free j:Nat):Int)-(N:Int))=(u:Int):=by
         rw [IntWalk.i64_in _ (by omega)]
         omega
        have Hu:=jpk hu
        have hui:(u:Int)<(m:Int):=by omega
        have hu0:(0:Int)≤(u:Int):=by omega
        obtain ⟨hb,hc,rb,cp,x,hx,hcap1,hcap2,hW⟩:=HD.out.elem (L:=((g,rwA m v2 [],29)::(Ld++L1))) (by repeat (first|exact List.sublist_append_left _ _|apply List.Sublist.cons)) Hrm.out hlt
        obtain ⟨⟨y1,y2⟩,⟨y3,y4,y5,y6⟩,hK⟩:=hW _ _ K
        replace K:=hK (fun x hx=>by first|exact List.mem_append_left _ hx|exact List.mem_cons_of_mem _ (List.mem_append_left _ hx)|exact List.mem_cons_of_mem _ (List.mem_cons_of_mem _ (List.mem_append_left _ hx))|exact List.mem_cons_of_mem _ (List.mem_cons_of_mem _ (List.mem_cons_of_mem _ (List.mem_append_left _ hx))))
        have HX:=jpk hx
        have HP2:=jpk (HP.out.put (fun i hi e=>by have:=HOk.out.jf i j (by omega) hlt e;omega) hu)
        have Hum:=jpk hum
        clear hW hK hx hu hlf HP hvb
        have hB:=K.blk (b:=g) (cs:=rwA m v2 []) (t:=29) ZMB
        have d0:wr.cell? ⟨g,u*4,none⟩=some (.int .i64 (v2 u).s):=hB.cell (jaW (j:=0) Hum.out (by omega))
        have d1:wr.cell? ⟨g,u*4+1,none⟩=some (.slice (v2 u).A (v2 u).n (v2 u).c):=hB.cell (jaW (j:=1) Hum.out (by omega))
        have d2:wr.cell? ⟨g,u*4+2,none⟩=some (.int .i64 (v2 u).t):=hB.cell (jaW (j:=2) Hum.out (by omega))
        have d3:wr.cell? ⟨g,u*4+3,none⟩=some (.slice (v2 u).B (v2 u).m (v2 u).d):=hB.cell (jaW (j:=3) Hum.out (by omega))
        have zz:=K.thaw (g:=g) (cs:=rwA m v2 []) (t:=29) ZMB
        have HK:=jpk (((K.setR (v:=v2) (J:=[]) (t:=29) x Hum.out (Upd.head _)).rwPut (v:=v2) x u ZMB ZMB ZMB).lessS (D':=⟨rwP m (putF v2 u x),rwS m (putF v2 u x)⟩::(Dd++D)) (by repeat (first|with_reducible exact List.Sublist.refl _|with_reducible apply List.Sublist.cons_cons|with_reducible apply List.Sublist.cons)))
        clear hB K
        go_wp2_with fail
        have HV3:=jpk (show ∀i,i<m→isQ (putF v2 u x i) (putF x2 u (G.a rr j) i) from fun i hi=>by
         by_cases e:i=u
         ·rw [e,jaf,jaf];exact HX.out
         ·rw [jad e,jad e];exact HV2.out i hi)
        clear HX HV2
        go_roundg (N-(j+1))
        case rel=>exact ⟨j+1,_,_,hlt,rfl,by go_num,HV3,HP2,HK.out⟩
        case measure=>omega
       ·have hgi:¬((G.free j:Nat):Int)≥(N:Int):=by omega
        have hgd:decide (N≤G.free j)=false:=decide_eq_false hge
        have HP2:=jpk (HP.out.skip (fun h=>hge h.1))
        clear hlf HP hvb
        go_wp2_with fail
        go_roundg (N-(j+1))
        case rel=>exact ⟨j+1,_,_,hlt,rfl,by go_num,HV2,HP2,K⟩
        case measure=>omega
      ·have e:j=N:=by omega
       have HP2:=jpk (show PutX G.free (G.a rr) m N N x0 x2 from by have:=HP.out;rw [e] at this;exact this)
       have HE:=jpk (show ConP w0 Ld L1 Dd D m (yC N G rr) (.returned (.slice (some ⟨g,0,none⟩) m m)) wr from ⟨g,v2,rfl,jpk (HEND.out v2 x2 HV2.out HP2.out),K⟩)
       clear K HP HV2 HEND
       go_wp2_with fail
       go_ret
       exact HE.out)
        | fail):p:=h
theorem ZQ3 {p:Prop} (h:p:=by
 first
  | (go_loopg [32] m (fun gk s32 wr=>∃(i:Nat) (v:Nat→Rw) (x:Nat→Rat),i≤m∧gk=m-i∧s32=.int .i64 i∧Hid (∀u,u<N→isQ (v u) (x u))∧Hid (PutX G.own (fun i=>0-G.a i s) N 0 i x0 x)∧St w0 ((g,rwA N v [],29)::(Ld++L1)) (⟨rwP N v,rwS N v⟩::(Dd++D)) wr)
     case atStart=>exact ⟨0,v1,x0,Nat.zero_le _,rfl,rfl,HV1,jpk (PutX.zero _ _ _ _ _),K⟩
     case round =>
      clear K HV1
      obtain ⟨i,v2,x2,hj,rfl,rfl,HV2,HP,K⟩:=hrel
      by_cases hlt:i<m
      ·have hji:(i:Int)<(m:Int):=by omega
       have hj0:(0:Int)≤(i:Int):=by omega
       obtain ⟨vb,vo,hA,hvb,hcc⟩:=RdI.cellAt (HOR.out _ _ _ (by repeat (first|exact List.sublist_append_left _ _|apply List.Sublist.cons)) K).2 hlt
       subst hA
       rw [jcS hlt] at hcc
       by_cases hge:G.own i<N
       ·have hgd:decide (G.own i<N)=true:=decide_eq_true hge
        have hui:((G.own i:Nat):Int)<(N:Int):=by omega
        have hu0:(0:Int)≤((G.own i:Nat):Int):=by omega
        obtain ⟨hb,hc,rb,cp,x,hx,hcap1,hcap2,hW⟩:=HD.out.elem (L:=((g,rwA N v2 [],29)::(Ld++L1))) (by repeat (first|exact List.sublist_append_left _ _|apply List.Sublist.cons)) hlt HsN.out
        obtain ⟨R,hRm,-⟩:=HD.out.flag (w0:=w0) (L:=((g,rwA N v2 [],29)::(Ld++L1))) (by repeat (first|exact List.sublist_append_left _ _|apply List.Sublist.cons))
        have K:=(hW _ _ K).2.2 (fun x hx=>jjM (A:=[_]) hx)
        have HX:=jpk hx
        have HP2:=jpk (HP.out.put (v:=G.own i) (fun k hk e=>by have:=HOk.out.io k i (by omega) hlt e;omega) (by omega))
        obtain ⟨u,hu⟩:∃u,u=G.own i:=⟨_,rfl⟩
        have Hum:=jpk hge
        rw [←hu] at HP2 hcc hui hu0 hgd Hum hge
        have HSA:=jpk (fun V D (h:St w0 ((g,rwA N v2 [],29)::(Ld++L1)) D V)=>(show (V.cell? ⟨db,1,none⟩=some (.slice (some ⟨hb,0,none⟩) m hc)∧V.cell? ⟨hb,i*5+4,none⟩=some (.slice (some ⟨rb,0,none⟩) N cp))∧(V.cell? ⟨rb,s*4,none⟩=some (.int .i64 x.s)∧V.cell? ⟨rb,s*4+1,none⟩=some (.slice x.A x.n x.c)∧V.cell? ⟨rb,s*4+2,none⟩=some (.int .i64 x.t)∧V.cell? ⟨rb,s*4+3,none⟩=some (.slice x.B x.m x.d)) from ⟨(hW _ _ h).1,(hW _ _ h).2.1⟩))
        have HNu:=jpk (fun V L5 D5 (h:St w0 L5 D5 V)=>(jbc V).mono fun e W6 ⟨s7,A7,n7,c7,l7,t7,B7,m7,d7,k7,he,⟨hra,hrb⟩,ho,⟨hfa,hfb⟩,hbl⟩=>(⟨⟨s7,A7,n7,c7,l7,t7,B7,m7,d7,k7⟩,he,jpk (⟨ho,jbe⟩:isQ ⟨s7,A7,n7,c7,l7,t7,B7,m7,d7,k7⟩ 0),h.retF hbl hra hrb hfa hfb⟩:∃z:Rw,e=Ending.returned (.agg #[.int .i64 z.s,.slice z.A z.n z.c,.int .i64 z.t,.slice z.B z.m z.d])∧Hid (isQ z 0)∧St w0 L5 (⟨rdP z.B z.m z.d z.k,rdS z.B z.m⟩::⟨rdP z.A z.n z.c z.l,rdS z.A z.n⟩::D5) W6))
        have HSu:=jpk (fun V (z:Rw) (hz:isQ z 0) (h:St w0 ((g,rwA N v2 [],29)::(Ld++L1)) (⟨rdP z.B z.m z.d z.k,rdS z.B z.m⟩::⟨rdP z.A z.n z.c z.l,rdS z.A z.n⟩::⟨rdP x.B x.m x.d x.k,rdS x.B x.m⟩::⟨rdP x.A x.n x.c x.l,rdS x.A x.n⟩::⟨rwP N v2,rwS N v2⟩::(Dd++D)) V)=>jcY h hz HX.out ZMB ZMB ZMB ZMB)
        have HGo:=jpk (fun V (z y:Rw) (er:Int) (Gs:Hid (SubS 0 (G.a i s) y er)) (h:St w0 ((g,rwA N v2 [],29)::(Ld++L1)) (⟨rdP y.B y.m y.d y.k,rdS y.B y.m⟩::⟨rdP y.A y.n y.c y.l,rdS y.A y.n⟩::⟨rdP z.B z.m z.d z.k,rdS z.B z.m⟩::⟨rdP z.A z.n z.c z.l,rdS z.A z.n⟩::⟨rdP x.B x.m x.d x.k,rdS x.B x.m⟩::⟨rdP x.A x.n x.c x.l,rdS x.A x.n⟩::⟨rwP N v2,rwS N v2⟩::(Dd++D)) V)=>jhX hRm HX.out.2 Gs.out h)
        have hcap3:=(K.rd (A:=x.A) (n:=x.n) (cap:=x.c) (l:=x.l) ZMB).caps
        have hcap4:=(K.rd (A:=x.B) (n:=x.m) (cap:=x.d) (l:=x.k) ZMB).caps
        clear hW hx HP hvb hRm hu
        go_upto_region 9 with fail
        have K0:=K.drew
        have s0:=HSA.out _ _ K0
        clear K
        refine jak 22 (fun V=>(V.cell? ⟨db,1,none⟩=some (.slice (some ⟨hb,0,none⟩) m hc)∧V.cell? ⟨hb,i*5+4,none⟩=some (.slice (some ⟨rb,0,none⟩) N cp))∧(V.cell? ⟨rb,s*4,none⟩=some (.int .i64 x.s)∧V.cell? ⟨rb,s*4+1,none⟩=some (.slice x.A x.n x.c)∧V.cell? ⟨rb,s*4+2,none⟩=some (.int .i64 x.t)∧V.cell? ⟨rb,s*4+3,none⟩=some (.slice x.B x.m x.d))) (by kernel_rfl) s0 (fun hSh=>?_)
        clear s0
        refine jaa.tk 0 rfl ?_
        refine jaa.tk 1 rfl ?_
        refine jaa.tk 2 rfl ?_
        refine jaa.tk 3 rfl ?_
        refine jaa.tk 4 rfl ?_
        refine jaa.tk 6 rfl ?_
        refine jaa.tk 7 rfl ?_
        refine jaa.tk 8 rfl ?_
        refine jaa.tk 9 rfl ?_
        refine jaa.tk 10 rfl ?_
        refine jaa.tk 11 rfl ?_
        refine jaa.tk 12 rfl ?_
        refine jaa.tk 13 rfl ?_
        refine jaa.tk 14 rfl ?_
        refine jaa.tk 15 rfl ?_
        refine jaa.tk 16 rfl ?_
        refine jaa.on 5 rfl fun KK hKK=>?_
        go_simp
        go_at_call 105;refine (HNu.out _ _ _ K0).mono ?_;rintro e w3 ⟨z0,rfl,g0,k3⟩
        go_wp2_with fail
        refine hKK.out _ _ ?_ (fun hSh=>?_)
        ·exact HSA.out _ _ k3
        clear hKK KK
        refine ZPT ?_
        refine jaa.on 17 rfl fun KK hKK=>?_
        go_simp
        go_at_call 31;refine (HSu.out _ _ g0.out k3).mono ?_;rintro e w4 ⟨y1,er,rfl,gy1,k4⟩
        go_wp2_with fail
        refine hKK.out _ _ ?_ (fun hSh=>?_)
        ·exact HSA.out _ _ k4
        clear hKK KK
        refine ZPT ?_
        refine jaa.tk 18 rfl ?_
        refine jaa.tk 19 rfl ?_
        refine jaa.on 20 rfl fun KK hKK=>?_
        go_simp
        go_at_call 113;refine (HGo.out _ _ _ _ gy1 k4).mono ?_;rintro e w5 ⟨z,zq,rfl,gz,k5⟩
        go_wp2_with fail
        refine hKK.out _ _ ?_ (fun hSh=>?_)
        ·exact HSA.out _ _ k5
        clear hKK KK
        refine ZPT ?_
        refine jaa.tk 21 rfl ?_
        refine jaa.last rfl (by kernel_rfl) ?_
        have HV3:=jpk (show ∀k,k<N→isQ (putF v2 u z k) (putF x2 u (0-G.a i s) k) from fun k hk=>by
         by_cases e:k=u
         ·rw [e,jaf,jaf,←gz.out.2];exact gz.out.1
         ·rw [jad e,jad e];exact HV2.out k hk)
        clear K0 k3 k4 HSA HNu HSu HGo hSh gz gy1 g0 HX HV2
        refine k5.storeR (v:=v2) (J:=[]) (t:=29) rfl rfl _ _ _ rfl g u N z rfl rfl Hum.out (Upd.head _) jar ?_
        intro W8 K8
        clear k5
        have HK:=jpk ((K8.rwPut (v:=v2) z u ZMB ZMB ZMB).lessS (D':=⟨rwP N (putF v2 u z),rwS N (putF v2 u z)⟩::(Dd++D)) (by repeat (first|with_reducible exact List.Sublist.refl _|with_reducible apply List.Sublist.cons_cons|with_reducible apply List.Sublist.cons)))
        clear K8
        go_wp2_with fail
        go_roundg (m-(i+1))
        case rel=>exact ⟨i+1,_,_,hlt,rfl,by go_num,HV3,HP2,HK.out⟩
        case measure=>omega
       ·have hgd:decide (G.own i<N)=false:=decide_eq_false hge
        have hgi:¬((G.own i:Nat):Int)<(N:Int):=by omega
        have HP2:=jpk (HP.out.skip (fun h=>hge (by omega)))
        clear HP hvb
        go_wp2_with fail
        go_roundg (m-(i+1))
        case rel=>exact ⟨i+1,_,_,hlt,rfl,by go_num,HV2,HP2,K⟩
        case measure=>omega
      ·have e:i=m:=by omega
       have HE:=jpk (show ConP w0 Ld L1 Dd D N (xR m G s) (.returned (.slice (some ⟨g,0,none⟩) N N)) wr from ⟨g,v2,rfl,jpk (HEND.out v2 x2 HV2.out (by have:=HP.out;rw [e] at this;exact this)),K⟩)
       clear K HP HV2 HEND e
       go_wp2_with fail
       go_ret
       exact HE.out)
        | fail):p:=h
theorem ZQ0 {p:Prop} (h:p:=by
 first
  | (refine ki.appOp HO.out jap _ _ 22 rfl _ 8 Tryz.underlying22 jgW rfl rfl ((n0:Int)+(k:Int)) g2 _ (by exact List.mem_cons_self) rfl (by rw [jag];omega) (by omega) ?_
     intro vo Xo2 V5 hoo ko
     replace ko:=ko.cutm
     rw [jbz] at hoo
     have HOO:=jpk hoo
     clear hoo
     refine hKK.out _ _ (fun _=>HS.out _ (⟨none,0,0⟩:Hd) (ko.blk ZMA) (ko.blk ZMA)) (fun hSq=>?_)
     have hSh:=HS.out _ (⟨none,0,0⟩:Hd) (ko.blk ZMA) (ko.blk ZMA)
     clear hKK KK hSq
     refine ZPT ?_
     refine jac.tkU 24 rfl ?_
     refine jac.tkU 25 rfl ?_
     refine jac.onF 26 rfl fun KK hKK=>?_
     obtain ⟨A8,c8,hvr⟩:=HOR.out.shapeL
     rw [jag] at hvr
     subst hvr
     refine ko.setOp1 (b:=db) (off:=1) (cs:=(Value.bool false::[Value.slice hR.A hR.n hR.c,.int .i64 gv.s,.slice gv.A gv.n gv.c,.int .i64 gv.t,.slice gv.B gv.m gv.d,Value.slice hg.A hg.n hg.c,Value.slice hO.A hO.n hO.c,Value.slice (⟨none,0,0⟩:Hd).A (⟨none,0,0⟩:Hd).n (⟨none,0,0⟩:Hd).c]).toArray) (cs':=(Value.bool false::[Value.slice (⟨A8,k+1,c8⟩:Hd).A (⟨A8,k+1,c8⟩:Hd).n (⟨A8,k+1,c8⟩:Hd).c,.int .i64 gv.s,.slice gv.A gv.n gv.c,.int .i64 gv.t,.slice gv.B gv.m gv.d,Value.slice hg.A hg.n hg.c,Value.slice hO.A hO.n hO.c,Value.slice (⟨none,0,0⟩:Hd).A (⟨none,0,0⟩:Hd).n (⟨none,0,0⟩:Hd).c]).toArray) (t:=92) rfl _ _ _ rfl (.slice A8 (k+1) c8) rfl rfl rfl ZUA rfl jmC (by simp) rfl ?_
     intro V6 k6
     refine hKK.out _ _ ?_
     clear hKK KK
     refine ZPT ?_
     refine jac.tkF 27 rfl ?_
     refine jac.tkF 28 rfl ?_
     refine jac.last (n:=29) rfl (by kernel_rfl) ?_
     obtain ⟨A7,c7,hvo⟩:=HOO.out.shapeL
     rw [jag] at hvo
     subst hvo
     have HOR2:=jpk (show OwL 5 Ln.cs 90 (Value.slice A8 (k+1) c8) (ofF (k+1) (lnF (putF Y k y) (putF hd k ⟨A9,n0,c9⟩))) Xr2 from by rw [←jnV];exact HOR.out)
     have HOO2:=jpk (show OwL 1 iEnc 3 (Value.slice A7 (k+1) c7) (ofF (k+1) (fun i=>((n0+i:Nat):Int))) Xo2 from by rw [←jn0];exact HOO.out)
     have HQ2:=jpk (HQ.out.add HY.out HA.out (h9:=⟨A9,n0,c9⟩) HOC.out)
     have HV2:=jpk (show ∀j,putF V k u m j=vg j from fun j=>by rw [jad (by have:=Hlt.out;omega)];exact HV.out j)
     refine k6.storeS (b:=db) (off:=7) (cs:=(Value.bool false::[Value.slice (⟨A8,k+1,c8⟩:Hd).A (⟨A8,k+1,c8⟩:Hd).n (⟨A8,k+1,c8⟩:Hd).c,.int .i64 gv.s,.slice gv.A gv.n gv.c,.int .i64 gv.t,.slice gv.B gv.m gv.d,Value.slice hg.A hg.n hg.c,Value.slice hO.A hO.n hO.c,Value.slice (⟨none,0,0⟩:Hd).A (⟨none,0,0⟩:Hd).n (⟨none,0,0⟩:Hd).c]).toArray) (cs':=(Value.bool false::[Value.slice (⟨A8,k+1,c8⟩:Hd).A (⟨A8,k+1,c8⟩:Hd).n (⟨A8,k+1,c8⟩:Hd).c,.int .i64 gv.s,.slice gv.A gv.n gv.c,.int .i64 gv.t,.slice gv.B gv.m gv.d,Value.slice hg.A hg.n hg.c,Value.slice (⟨A7,k+1,c7⟩:Hd).A (⟨A7,k+1,c7⟩:Hd).n (⟨A7,k+1,c7⟩:Hd).c,Value.slice (⟨none,0,0⟩:Hd).A (⟨none,0,0⟩:Hd).n (⟨none,0,0⟩:Hd).c]).toArray) (t:=92) rfl rfl _ _ _ rfl A7 (k+1) c7 rfl rfl ZUA rfl jfM (by simp) ?_
     intro W9 K9
     have HK:=jpk ((((K9.rwAdd (v:=Y) (n:=k) y ZMB ZMB ZMB).opAdd (k:=k) (V:=V) (u:=u) Hlt.out ZMB ZMB).lessS (D':=ofam m (k+1) n0 (putF V k u)::⟨rwP (k+1) (putF Y k y),rwS (k+1) (putF Y k y)⟩::D) (by repeat (first|with_reducible exact List.Sublist.refl _|with_reducible apply List.Sublist.cons_cons|with_reducible apply List.Sublist.cons))).perm (L':=((b1,#[.slice A0 n0 c0,.int .i64 y.s,.slice y.A y.n y.c,.int .i64 y.t,.slice y.B y.m y.d],97):Blk)::((db,(Value.bool false::[Value.slice (⟨A8,k+1,c8⟩:Hd).A (⟨A8,k+1,c8⟩:Hd).n (⟨A8,k+1,c8⟩:Hd).c,.int .i64 gv.s,.slice gv.A gv.n gv.c,.int .i64 gv.t,.slice gv.B gv.m gv.d,Value.slice hg.A hg.n hg.c,Value.slice (⟨A7,k+1,c7⟩:Hd).A (⟨A7,k+1,c7⟩:Hd).n (⟨A7,k+1,c7⟩:Hd).c,Value.slice (⟨none,0,0⟩:Hd).A (⟨none,0,0⟩:Hd).n (⟨none,0,0⟩:Hd).c]).toArray,92)::(Xr2++(Xo2++(Xg++(((ofF k Xs).flatten++Xc)++L)))))) (by classical exact List.perm_iff_count.2 fun z=>by simp only [List.count_append,List.count_cons];omega))
     clear K9 k6 ko HOR HOO HQ HOC HCl HS hSh HY HA HV HR HO
     go_wp2_with fail
     go_roundg (m-(k+1))
     case rel=>exact ⟨k+1,⟨A8,k+1,c8⟩,⟨A7,k+1,c7⟩,Xr2,Xo2,putF Y k y,putF V k u,putF hd k ⟨A9,n0,c9⟩,putF Xs k Xc,Hlt.out,rfl,by go_num,HOR2,HOO2,HQ2,HV2,by rw [jgT];exact HK.out.part (List.sublist_cons_self _ _)⟩
     case measure=>omega)
      | fail):p:=h
theorem Zb19 {p:Prop} (h:p:=by classical exact List.perm_iff_count.2 fun z=>by simp only [List.count_append,List.count_cons];omega):p:=h
theorem ZQ113 {p:Prop} (h:p:=by
 first
  | (go_wp2_with fail
     exact bodyPost_ret (v:=.tuple #[.slice none 0 0,.slice none 0 0,.int .i64 6]) (by simp [results,Tryz.results29,go_sem]) rfl HP.out)
      | fail):p:=h
theorem ZQ12 {p:Prop} (h:p:=by
 first
  | (have hki:(k:Int)<(m:Int):=by omega
     have hk0:(0:Int)≤(k:Int):=by omega
     have hlkd:decide (k<m)=true:=decide_eq_true hlk
     obtain ⟨eb,eo,A0,n0,c0,A3,n3,c3,A4,n4,c4,X5,hA,hbB2,hX,⟨z0,z1,z2,z3,z4⟩,r0,r1,r2⟩:=HL.out.atR hlk
     subst hA
     have x0:=(K.1.cell (p:=⟨eb,eo+k*5,none⟩) hbB2).trans z0
     have x1:=(K.1.cell (p:=⟨eb,eo+k*5+1,none⟩) hbB2).trans z1
     have x2:=(K.1.cell (p:=⟨eb,eo+k*5+2,none⟩) hbB2).trans z2
     have x3:=(K.1.cell (p:=⟨eb,eo+k*5+3,none⟩) hbB2).trans z3
     have x4:=(K.1.cell (p:=⟨eb,eo+k*5+4,none⟩) hbB2).trans z4
     have hc3:=r0.caps
     have hc4:=r1.caps
     have hc5:=r2.caps
     have hF:=HRow.out k X5 hX
     unfold rowF at hF
     rw [Bool.and_eq_true,Bool.and_eq_true,decide_eq_true_eq] at hF
     have hn0:n0=n:=by have:=hF.1.1;have:=r0.len;omega
     subst hn0
     obtain ⟨q,hq,K⟩:=K.fxOld r0
     have HE:=jpk (show isQ (q j) (rwA2 ls k j) from by
      have h1:=hq j hlt
      have h2:(q j).fv.ok=true:=List.all_eq_true.1 hF.2 _ (List.mem_of_getElem? h1)
      have h3:=jbW h2
      unfold rwA2
      rw [hX,Option.bind_some,h1,Option.map_some,Option.getD_some]
      exact h3)
     obtain ⟨ab,ao,hA⟩:=K.fxAt (A:=A0) (n:=n0) (cap:=c0) (v:=q) ZMB (by omega)
     subst hA
     replace K:=K.fxRd (n:=n0) (v:=q) (i:=j) ZMB hlt
     clear hX z0 z1 z2 z3 z4 r0 r1 r2 hF hq
     go_wp2_with (first
      | (apply K.alloc;rfl;rfl;exact ja3;clear K;intro W b2 K)
      | (apply K.storeA;rfl;rfl;rfl;rfl;rfl;(exact ZUP);exact ja2;rfl;rfl;rfl;clear K x0 x1 x2 x3 x4;intro W K;have w0c:=(K.blk (b:=b2) (cs:=#[.slice (some ⟨ab,ao,none⟩) n0 c0,.int .i64 X5.b.s,.slice A3 n3 c3,.int .i64 X5.b.t,.slice A4 n4 c4]) (t:=97) ZMB).cell (j:=0) rfl;obtain ⟨f0,f1,f2,f3⟩:=K.fxCell (n:=n0) (cap:=c0) (b:=ab) (off:=ao) (v:=q) ZMB hlt;replace K:=K.mid)
      | (at_builtin;refine K.app1 Ho.out ja4 rfl _ _ 25 rfl _ 64 Tryz.underlying25 jbF rfl rfl (q j) _ rfl _ rfl (by exact rfl) (by rw [jag];omega) (by omega) ?_;clear w0c f0 f1 f2 f3;intro v4 X4 W4 ho4 K4))
     rw [jbz] at ho4
     have HA2:=jpk (show ∀i,i<k+1→isQ (putF u k (q j) i) (rwA2 ls i j) from fun i hi=>by
      by_cases e:i=k
      ·rw [e,jaf]
       exact HE.out
      ·rw [jad e]
       exact HA.out i (by omega))
     have Ho2:=jpk ho4
     have HK:=jpk ((K4.cutm.rwAdd (v:=u) (n:=k) (q j) ZMB ZMB ZMB).lessS (D':=⟨rwP (k+1) (putF u k (q j)),rwS (k+1) (putF u k (q j))⟩::⟨rdP g1.B g1.m g1.d g1.k,rdS g1.B g1.m⟩::⟨rdP g1.A g1.n g1.c g1.l,rdS g1.A g1.n⟩::D) (by repeat (first|with_reducible exact List.Sublist.refl _|with_reducible apply List.Sublist.cons_cons|with_reducible apply List.Sublist.cons)))
     clear K4 K ho4 HA Ho HE
     go_roundg (m-(k+1))
     case rel=>exact ⟨k+1,_,_,X4,hlk,rfl,rfl,by go_num,HA2,Ho2,HK.out⟩
     case measure=>omega)
      | fail):p:=h
theorem ZQ54 {p:Prop} (h:p:=by
 first
  | (have HN:=jpk (Hst.out.2 (decide_eq_false hle))
     clear Hst hle
     refine jaa.tkA 6 rfl ?_
     refine jaa.done (by kernel_rfl) ?_
     clear hSh
     go_wp2_with fail
     go_ret
     exact ⟨false,bn,Ln,rfl,HU2,jpk (by
      rw [Bool.false_and]
      cases hb:b
      ·have h:=HN.out
       rw [hb] at h
       unfold covB
       rw [jfX hlt (by simpa using h)]
       rfl
      ·rfl),HK.out.part (List.sublist_cons_self _ _)⟩)
       | fail):p:=h
theorem ZQ72 {p:Prop} (h:p:=by
 first
  | (have HN:=jpk (Hst.out.1 (decide_eq_true hle))
     clear Hst hle
     refine jaa.tkA 6 rfl ?_
     refine jaa.done (by kernel_rfl) ?_
     clear hSh
     go_wp2_with fail
     go_roundg (n-(j+1))
     case rel=>exact ⟨j+1,bn,Ln,hlt,rfl,by go_num,HU2,HN,HK.out⟩
     case measure=>omega)
      | fail):p:=h
theorem ZQ129 {p:Prop} (h:p:=by
 first
  | (rw [hg1]
     unfold fvR
     rw [hX,Option.map_some,Option.getD_some]
     exact jbW (List.all_eq_true.1 HOk.out _ (List.mem_of_getElem? hX)))
      | fail):p:=h
theorem ZQ79 {p:Prop} (h:p:=by
 first
  | (go_ret
     exact ⟨by rw [HR.out];first|done|rfl,K.1⟩)
      | fail):p:=h
theorem jnv {p:Prop} (h:p:=by
 first
  | (clear HA HNo HYes HLong
     go_wp2
     go_ret
     exact ⟨by rw [HR.out];first|done|rfl,HB.out⟩)
      | fail):p:=h
theorem ZQ89 {p:Prop} (h:p:=by
 first
  | (obtain ⟨i,hi,rfl⟩:=List.mem_iff_getElem.1 hx
     have hi':i<n:=by rw [jag] at hi;exact hi
     have:=jaJ (f:=f) hi'
     rw [List.getElem?_eq_getElem hi] at this
     rw [Option.some.inj this]
     exact h i hi')
      | fail):p:=h
theorem ZQ2 {p:Prop} (h:p:=by
 first
  | (obtain ⟨vb,vo,hA,hvb,hc0⟩:=RdI.cellAt HL.out (k:=0) (by decide)
     subst hA
     rw [Nat.add_zero] at hc0
     clear hlen hn
     by_cases hz:gi cs 0=0
     ·rw [hz] at hc0
      rw [decide_eq_true hz,Bool.true_and] at hR
      clear hz
      cases hall:cs.all okM
      ·rw [hall] at HC hR
       subst hR
       clear hall
       go_enter Tryz.func16,Tryz.ntmps16
       go_upto_region 2 with (first|(apply K.box;rfl;rfl;rfl;clear K r;intro W b0 K;have r:=K.rawS)|(go_at_call 43;refine (HC.out _ K.1).mono ?_;rintro e W' ⟨rfl,hb⟩;replace K:=K.keep hb;clear hb r;have r:=K.rawS))
       go_region
       all_goals
        replace K:=K.drew
        clear r
        have r:=K.rawS
        generalize World.drew _=W2 at K r ⊢
        have q:=K.1.cell hvb |>.trans hc0
        go_wp2_with (first|(apply K.box;rfl;rfl;rfl;clear K r;intro W b0 K;have r:=K.rawS)|(go_at_call 43;refine (HC.out _ K.1).mono ?_;rintro e W' ⟨rfl,hb⟩;replace K:=K.keep hb;clear hb r;have r:=K.rawS))
        go_ret
        exact ⟨rfl,K.1⟩
      ·rw [hall] at HC hR
       subst hR
       clear hall
       go_enter Tryz.func16,Tryz.ntmps16
       go_upto_region 2 with (first|(apply K.box;rfl;rfl;rfl;clear K r;intro W b0 K;have r:=K.rawS)|(go_at_call 43;refine (HC.out _ K.1).mono ?_;rintro e W' ⟨rfl,hb⟩;replace K:=K.keep hb;clear hb r;have r:=K.rawS))
       go_region
       all_goals
        replace K:=K.drew
        clear r
        have r:=K.rawS
        generalize World.drew _=W2 at K r ⊢
        have q:=K.1.cell hvb |>.trans hc0
        go_wp2_with (first|(apply K.box;rfl;rfl;rfl;clear K r;intro W b0 K;have r:=K.rawS)|(go_at_call 43;refine (HC.out _ K.1).mono ?_;rintro e W' ⟨rfl,hb⟩;replace K:=K.keep hb;clear hb r;have r:=K.rawS))
        go_ret
        exact ⟨rfl,K.1⟩
     ·have hz2:(gi cs 0==0)=false:=by simp [hz]
      rw [decide_eq_false hz,Bool.false_and] at hR
      subst hR
      clear HC
      go_enter Tryz.func16,Tryz.ntmps16
      go_upto_region 2 with (first|(apply K.box;rfl;rfl;rfl;clear K r;intro W b0 K;have r:=K.rawS)|(go_at_call 43;refine (HC.out _ K.1).mono ?_;rintro e W' ⟨rfl,hb⟩;replace K:=K.keep hb;clear hb r;have r:=K.rawS))
      go_region
      all_goals
       replace K:=K.drew
       clear r
       have r:=K.rawS
       generalize World.drew _=W2 at K r ⊢
       have q:=K.1.cell hvb |>.trans hc0
       go_wp2_with (first|(apply K.box;rfl;rfl;rfl;clear K r;intro W b0 K;have r:=K.rawS)|(go_at_call 43;refine (HC.out _ K.1).mono ?_;rintro e W' ⟨rfl,hb⟩;replace K:=K.keep hb;clear hb r;have r:=K.rawS))
       go_ret
       exact ⟨rfl,K.1⟩)
        | fail):p:=h
theorem ZQ8 {p:Prop} (h:p:=by
 first
  | (go_wp2_with (first | (apply K.box;rfl;rfl;rfl;clear K r;intro W b0 K;have r:=K.rawS) | (go_at_call 43;refine (HC.out _ K.1).mono ?_;rintro e W' ⟨rfl,hb⟩;replace K:=K.keep hb;clear hb r;have r:=K.rawS))
     go_ret
     exact ⟨rfl,K.1⟩)
      | fail):p:=h
theorem ZQ73 {p:Prop} (h:p:=by
 first
  | (go_enter Tryz.func7,Tryz.ntmps7
     go_wp2_with (apply K.box;rfl;rfl;rfl;clear K r;intro W b0 K;have r:=K.rawS)
     go_ret
     exact ⟨rfl,K.1⟩)
      | fail):p:=h
theorem jnx {p:Prop} (h:p:=by
 first
  | (go_enter Tryz.func42,Tryz.ntmps42
     go_wp2
     go_ret
     exact ⟨rfl,Below.refl _ _⟩)
      | fail):p:=h
theorem ZQ6 {p:Prop} (h:p:=by
 first
  | (go_enter Tryz.func77,Tryz.ntmps77
     go_wp2_with fail
     rw [←HW.out,←HG.out]
     refine (HR1.out _ hb0).mono ?_
     rintro e w1 ⟨rfl,hb1⟩
     have K1:=K0.keep hb1
     clear K0 c0 c1 c2 c3 c4 c5 c6 c7 hb1 hb0
     obtain ⟨hb0,⟨⟨d0,d1⟩,d2,d3⟩,⟨d4,d5⟩,d6,d7⟩:=raw2.1 K1
     go_wp2_with fail
     refine (HR2.out _ hb0).mono ?_
     rintro e w2 ⟨rfl,hb1⟩
     have K2:=K1.keep hb1
     clear K1 d0 d1 d2 d3 d4 d5 d6 d7 hb1 hb0
     obtain ⟨hb0,⟨⟨d0,d1⟩,d2,d3⟩,⟨d4,d5⟩,d6,d7⟩:=raw2.1 K2
     go_wp2_with fail
     clear hb0 d0 d1 d2 d3 d4 d5 d6 d7
     go_region_held3 (fun W=>Below w.heap.size w W∧((W.cell? ⟨g,0,none⟩=some (.int .i64 s)∧W.cell? ⟨g,1,none⟩=some (.slice A n cap))∧W.cell? ⟨g+1,0,none⟩=some (.int .i64 t)∧W.cell? ⟨g+1,1,none⟩=some (.slice A2 n2 cap2))∧(W.cell? ⟨g+2,0,none⟩=some (jaw W ⟨g+2,0,none⟩)∧W.cell? ⟨g+2,1,none⟩=some (jaw W ⟨g+2,1,none⟩))∧W.frozen? ⟨g+2,0,none⟩=false∧W.frozen? ⟨g+2,1,none⟩=false)
      ((refine raw2.1 ?_;first|assumption|exact K2.drew|exact BxC.set2 (Nat.le_of_eq HG.out.symm) (by assumption) (by omega) (by simp <;> omega)|exact raw2.2 (by assumption)))
      (first
       | (go_at_call 103;refine (HS.out _ _ _ _ (by assumption) (raw2.2 (by assumption))).mono ?_;rintro e w3 ⟨s6,A6,n6,c6,l6,rfl,hr6,hstd6,hf6,k6,b6⟩)
       | (go_at_call 117;refine (HC.out _ _ _ _ _ _ (by assumption) (by assumption) (raw2.2 (by assumption))).mono ?_;rintro e w3 ⟨s3,A3,n3,c3,l3,rfl,hr3,hstd,hf3,k3,-⟩)
       | (go_at_call 119;refine (HM.out _ (raw2.2 (by assumption))).mono ?_;rintro e w2 ⟨A5,n5,c5,rfl,hr2,hf2,k2,b2⟩))
     have hA:=hf3 _ hf6
     clear hf3 hf6 hf2 hr2 k2 hr6 hstd6 k6 K2 b2
     obtain ⟨-,-,⟨x2,x3⟩,-⟩:=raw2.1 k3
     obtain ⟨e1,e2⟩:=jav (u:=.int .i64 s3) (v:=.slice A3 n3 c3) x2 x3
     have K4:=jpk (k3.set2 (Nat.le_of_eq HG.out.symm) (b:=g+2) (u:=.int .i64 s3) (v:=.slice A3 n3 c3) (by omega) (by simp <;> omega)).1
     have hr4:=jpk (hr3.set2 (b:=g+2) (u:=.int .i64 s3) (v:=.slice A3 n3 c3) (fun a h=>by have:=hA a h;omega))
     have hA4:=jpk (hA.mono (C:=w.heap.size) (by have:=HG.out;omega))
     clear hA k3 hr3 x2 x3
     go_wp2
     exact bodyPost_ret (v:=.tuple #[.agg #[.int .i64 s3,.slice A3 n3 c3],.int .i64 ER]) (by simp [results,Tryz.results77,go_sem,e1,e2]) rfl ⟨s3,A3,n3,c3,l3,rfl,hr4.out,hstd,hA4.out,K4.out⟩)
      | fail):p:=h
theorem ZQ10 {p:Prop} (h:p:=by
 first
  | (have hA:=hf3 _ hf6
     clear hf3 hf6 hf2 hr2 k2 hr6 hstd6 k6 K2 b2
     obtain ⟨-,-,⟨x2,x3⟩,-⟩:=raw2.1 k3
     obtain ⟨e1,e2⟩:=jav (u:=.int .i64 s3) (v:=.slice A3 n3 c3) x2 x3
     have K4:=jpk (k3.set2 (Nat.le_of_eq HG.out.symm) (b:=g+2) (u:=.int .i64 s3) (v:=.slice A3 n3 c3) (by omega) (by simp <;> omega)).1
     have hr4:=jpk (hr3.set2 (b:=g+2) (u:=.int .i64 s3) (v:=.slice A3 n3 c3) (fun a h=>by have:=hA a h;omega))
     have hA4:=jpk (hA.mono (C:=w.heap.size) (by have:=HG.out;omega))
     clear hA k3 hr3 x2 x3
     go_wp2
     exact bodyPost_ret (v:=.tuple #[.agg #[.int .i64 s3,.slice A3 n3 c3],.int .i64 ER]) (by simp [results,Tryz.results77,go_sem,e1,e2]) rfl ⟨s3,A3,n3,c3,l3,rfl,hr4.out,hstd,hA4.out,K4.out⟩)
      | fail):p:=h
theorem ZQ91 {p:Prop} (h:p:=by
 first
  | (go_wp2
     exact bodyPost_ret (v:=.tuple #[.agg #[.int .i64 0,.slice none 0 0],.int .i64 1]) (by simp [results,Tryz.results77,go_sem,e1,e2]) rfl ⟨0,none,0,0,[],rfl,Rd.nil,Std.zero,FrA.none,K4.out⟩)
      | fail):p:=h
theorem ZQ90 {p:Prop} (h:p:=by
 first
  | (go_wp2
     exact bodyPost_ret (v:=.tuple #[.agg #[.int .i64 0,.slice none 0 0],.int .i64 1]) (by simp [results,Tryz.results73,go_sem,e1,e2]) rfl ⟨0,none,0,0,[],rfl,Rd.nil,Std.zero,FrA.none,K4.out⟩)
      | fail):p:=h
theorem ZQ5 {p:Prop} (h:p:=by
 first
  | (rw [z1,z2] at HQ
     clear z1 z2 HB V1 V2
     go_enter Tryz.func86,Tryz.ntmps86
     go_wp2_with (first|(refine ZAL ?_;clear K r;intro W b K r)|(refine ZST ?_;clear K r;intro W K r))
     refine (HR1.out _ ZRD ZRD).mono ?_
     rintro e W' ⟨rfl,hb⟩
     replace K:=K.keep hb
     clear r
     have r:=K.rawS
     clear hb
     go_wp2_with (first|(refine ZAL ?_;clear K r;intro W b K r)|(refine ZST ?_;clear K r;intro W K r))
     refine (HR2.out _ ZRD ZRD).mono ?_
     rintro e W' ⟨rfl,hb⟩
     replace K:=K.keep hb
     clear r
     have r:=K.rawS
     clear hb
     go_wp2_with (first|(refine ZAL ?_;clear K r;intro W b K r)|(refine ZST ?_;clear K r;intro W K r))
     refine (HM1.out _ ZRD ZRD).mono ?_
     rintro e W' ⟨s5,A5,n5,c5,l5,rfl,hr,hs5,hf,hb⟩
     have hf5:=jpk (hf.mono K.1.size)
     replace K:=K.ret hb hr hf
     clear r
     have r:=K.rawS
     clear hr hf hb
     go_wp2_with (first|(refine ZAL ?_;clear K r;intro W b K r)|(refine ZST ?_;clear K r;intro W K r))
     refine (HM.out _ ZRD ZRD).mono ?_
     rintro e W' ⟨s6,A6,n6,c6,l6,rfl,hr,hs6,hf,hb⟩
     have hf6:=jpk (hf.mono K.1.size)
     replace K:=K.ret hb hr hf
     clear r
     have r:=K.rawS
     clear hr hf hb
     go_wp2_with (first|(refine ZAL ?_;clear K r;intro W b K r)|(refine ZST ?_;clear K r;intro W K r))
     refine (HQ.out _ _ _ _ _ _ _ _ _ _ _ ZRD ZRD hs5 hs6).mono ?_
     clear hs5 hs6
     rintro e W' ⟨s7,A7,n7,c7,l7,t7,B7,m7,d7,k7,rfl,⟨hra,hrb⟩,ho,⟨hfa,hfb⟩,hb⟩
     have hf7:=jpk (hfa.mono K.1.size)
     have hg7:=jpk (hfb.mono K.1.size)
     replace K:=K.retF hb hra hrb hfa hfb
     clear r
     have r:=K.rawS
     clear hra hrb hfa hfb hb
     go_wp2_with (first|(refine ZAL ?_;clear K r;intro W b K r)|(refine ZST ?_;clear K r;intro W K r))
     have HE:=jpk (⟨s7,A7,n7,c7,l7,t7,B7,m7,d7,k7,rfl,⟨ZRD,ZRD⟩,ho,⟨hf7.out,hg7.out⟩,K.1⟩:FrE w O E (.returned (.tuple #[.agg #[.int .i64 s7,.slice A7 n7 c7,.int .i64 t7,.slice B7 m7 d7],.int .i64 E])) W)
     clear ho
     exact bodyPost_ret (v:=.tuple #[.agg #[.int .i64 s7,.slice A7 n7 c7,.int .i64 t7,.slice B7 m7 d7],.int .i64 E]) (by simp [results,Tryz.results86,go_sem,r]) rfl HE.out)
      | fail):p:=h
theorem ZQ61 {p:Prop} (h:p:=by
 first
  | (rintro e W' ⟨rfl,hb⟩
     replace K:=K.keep hb
     clear r
     have r:=K.rawS
     clear hb
     go_wp2_with (first|(refine ZAL ?_;clear K r;intro W b K r)|(refine ZST ?_;clear K r;intro W K r))
     exact bodyPost_ret (v:=.tuple #[.agg #[.int .i64 0,.slice none 0 0,.int .i64 0,.slice none 0 0],.int .i64 1]) (by simp [results,Tryz.results86,go_sem,r]) rfl (Hno.out _ _ K.1))
      | fail):p:=h
theorem ZQ1 {p:Prop} (h:p:=by
 first
  | (rw [z1,z2] at HQ
     clear z1 z2 HB V3 V4
     go_enter Tryz.func40,Tryz.ntmps40
     go_wp2_with (first|(refine ZAL ?_;clear K r;intro W b K r)|(refine ZST ?_;clear K r;intro W K r))
     refine (HR1.out _ ZRD ZRD).mono ?_
     rintro e W' ⟨rfl,hb⟩
     replace K:=K.keep hb
     clear r
     have r:=K.rawS
     clear hb
     go_wp2_with (first|(refine ZAL ?_;clear K r;intro W b K r)|(refine ZST ?_;clear K r;intro W K r))
     refine (HR2.out _ ZRD ZRD).mono ?_
     rintro e W' ⟨rfl,hb⟩
     replace K:=K.keep hb
     clear r
     have r:=K.rawS
     clear hb
     go_wp2_with (first|(refine ZAL ?_;clear K r;intro W b K r)|(refine ZST ?_;clear K r;intro W K r))
     refine (HM1.out _ ZRD ZRD).mono ?_
     rintro e W' ⟨s5,A5,n5,c5,l5,rfl,hr,hs5,hf,hb⟩
     have hf5:=jpk (hf.mono K.1.size)
     replace K:=K.ret hb hr hf
     clear r
     have r:=K.rawS
     clear hr hf hb
     go_wp2_with (first|(refine ZAL ?_;clear K r;intro W b K r)|(refine ZST ?_;clear K r;intro W K r))
     refine (HM2.out _ ZRD ZRD).mono ?_
     rintro e W' ⟨s6,A6,n6,c6,l6,rfl,hr,hs6,hf,hb⟩
     have hf6:=jpk (hf.mono K.1.size)
     replace K:=K.ret hb hr hf
     clear r
     have r:=K.rawS
     clear hr hf hb
     go_wp2_with (first|(refine ZAL ?_;clear K r;intro W b K r)|(refine ZST ?_;clear K r;intro W K r))
     refine (HM3.out _ ZRD ZRD).mono ?_
     rintro e W' ⟨s8,A8,n8,c8,l8,rfl,hr,hs8,hf,hb⟩
     have hf8:=jpk (hf.mono K.1.size)
     replace K:=K.ret hb hr hf
     clear r
     have r:=K.rawS
     clear hr hf hb
     go_wp2_with (first|(refine ZAL ?_;clear K r;intro W b K r)|(refine ZST ?_;clear K r;intro W K r))
     refine (HA.out _ _ _ _ _ _ _ _ _ _ _ ZRD ZRD hs5 hs6).mono ?_
     rintro e W' ⟨s9,A9,n9,c9,l9,rfl,hr,hs9,hf,hb⟩
     have hf9:=jpk (hf.mono K.1.size)
     replace K:=K.ret hb hr hf
     clear r
     have r:=K.rawS
     clear hr hf hb
     clear hs5 hs6
     go_wp2_with (first|(refine ZAL ?_;clear K r;intro W b K r)|(refine ZST ?_;clear K r;intro W K r))
     refine (HQ.out _ _ _ _ _ _ _ _ _ _ _ ZRD ZRD hs9 hs8).mono ?_
     clear hs8 hs9
     rintro e W' ⟨s7,A7,n7,c7,l7,t7,B7,m7,d7,k7,rfl,⟨hra,hrb⟩,ho,⟨hfa,hfb⟩,hb⟩
     have hf7:=jpk (hfa.mono K.1.size)
     have hg7:=jpk (hfb.mono K.1.size)
     replace K:=K.retF hb hra hrb hfa hfb
     clear r
     have r:=K.rawS
     clear hra hrb hfa hfb hb
     go_wp2_with (first|(refine ZAL ?_;clear K r;intro W b K r)|(refine ZST ?_;clear K r;intro W K r))
     have HE:=jpk (⟨s7,A7,n7,c7,l7,t7,B7,m7,d7,k7,rfl,⟨ZRD,ZRD⟩,ho,⟨hf7.out,hg7.out⟩,K.1⟩:FrE w O E (.returned (.tuple #[.agg #[.int .i64 s7,.slice A7 n7 c7,.int .i64 t7,.slice B7 m7 d7],.int .i64 E])) W)
     clear ho
     exact bodyPost_ret (v:=.tuple #[.agg #[.int .i64 s7,.slice A7 n7 c7,.int .i64 t7,.slice B7 m7 d7],.int .i64 E]) (by simp [results,Tryz.results40,go_sem,r]) rfl HE.out)
      | fail):p:=h
theorem ZQ59 {p:Prop} (h:p:=by
 first
  | (rintro e W' ⟨rfl,hb⟩
     replace K:=K.keep hb
     clear r
     have r:=K.rawS
     clear hb
     go_wp2_with (first|(refine ZAL ?_;clear K r;intro W b K r)|(refine ZST ?_;clear K r;intro W K r))
     exact bodyPost_ret (v:=.tuple #[.agg #[.int .i64 0,.slice none 0 0,.int .i64 0,.slice none 0 0],.int .i64 1]) (by simp [results,Tryz.results40,go_sem,r]) rfl (Hno.out _ _ K.1))
      | fail):p:=h
theorem ZQ18 {p:Prop} (h:p:=by
 first
  | (go_enter Tryz.func87,Tryz.ntmps87
     go_wp2_with (first|(refine ZAL ?_;clear K r;intro W b K r)|(refine ZST ?_;clear K r;intro W K r))
     refine (HD1.out _ ZRD ZRD).mono ?_
     rintro e W' ⟨s5,A5,n5,c5,l5,s6,A6,n6,c6,l6,rfl,⟨hra,hs5,hfa⟩,⟨hrb,hs6,hfb⟩,hb⟩
     have hf5:=jpk (hfa.mono K.1.size)
     have hg5:=jpk (hfb.mono K.1.size)
     replace K:=K.retF hb hra hrb hfa hfb
     clear r
     have r:=K.rawS
     clear hra hrb hfa hfb hb
     go_wp2_with (first|(refine ZAL ?_;clear K r;intro W b K r)|(refine ZST ?_;clear K r;intro W K r))
     refine (HD2.out _ ZRD ZRD).mono ?_
     rintro e W' ⟨s7,A7,n7,c7,l7,s8,A8,n8,c8,l8,rfl,⟨hra,hs7,hfa⟩,⟨hrb,hs8,hfb⟩,hb⟩
     have hf7:=jpk (hfa.mono K.1.size)
     have hg7:=jpk (hfb.mono K.1.size)
     replace K:=K.retF hb hra hrb hfa hfb
     clear r
     have r:=K.rawS
     clear hra hrb hfa hfb hb
     obtain rfl:s6=U:=hs6.1.trans hU
     obtain rfl:s8=V:=hs8.1.trans hV
     go_wp2_with (first|(refine ZAL ?_;clear K r;intro W b K r)|(refine ZST ?_;clear K r;intro W K r))
     refine (HC.out _ _ _ _ _ _ _ _ _ _ _ ZRD ZRD hs5 hs7).mono ?_
     rintro e W' ⟨rfl,hb⟩
     replace K:=K.keep hb
     clear r
     have r:=K.rawS
     clear hb
     clear hs5 hs6 hs7 hs8 hU hV
     go_wp2
     go_ret
     exact ⟨by rw [←HE.out,Int.one_mul];rfl,K.1⟩)
      | fail):p:=h
theorem Zb20 {p:Prop} (h:p:=by first|rw [hd1,hd2,hd3,hd4];rfl|(rw [hd1,hd2,hd3];simp)|(rw [hd1,hd2];simp)|(rw [hd1];simp)):p:=h
theorem ZQ31 {p:Prop} (h:p:=by
 first
  | (have r:=K.rawS
     go_wp2_with (first|(refine ZAL ?_;clear K r;(first|((fail_if_success revert b0);intro W b0 K r)|((fail_if_success revert b1);intro W b1 K r)|intro W b K r))|(refine ZST ?_;clear K r;intro W K r))
     go_roundg (n-(k+1))
     case rel=>exact ⟨k+1,y2,hlt,rfl,by go_num,HZ2,(K.lessS (D':=⟨rdP y2.B y2.m y2.d y2.k,rdS y2.B y2.m⟩::⟨rdP y2.A y2.n y2.c y2.l,rdS y2.A y2.n⟩::[(⟨fxP (some ⟨ab,ao,none⟩) n cap u,fxS (some ⟨ab,ao,none⟩) n u⟩:Hl)]) (by repeat (first|with_reducible exact List.Sublist.refl _|with_reducible apply List.Sublist.cons_cons|with_reducible apply List.Sublist.cons))).part (L':=[((b1,#[.int .i64 y2.s,.slice y2.A y2.n y2.c,.int .i64 y2.t,.slice y2.B y2.m y2.d],29):Blk),(b0,#[.int .i64 0,.slice none 0 0,.int .i64 0,.slice none 0 0],29)]) (by repeat (first|with_reducible exact List.Sublist.refl _|with_reducible apply List.Sublist.cons_cons|with_reducible apply List.Sublist.cons))⟩
     case measure=>omega)
      | fail):p:=h
theorem ZQ33 {p:Prop} (h:p:=by
 first
  | (have HZ2:=jpk (show isQ z (gsum g x (k+1))∧FrA w.heap.size z.A∧FrA w.heap.size z.B from ⟨by rw [jfc hbit];exact HZ.out.1,HZ.out.2⟩)
     clear HZ
     go_roundg (n-(k+1))
     case rel=>exact ⟨k+1,z,hlt,rfl,by go_num,HZ2,(K.lessS (D':=⟨rdP z.B z.m z.d z.k,rdS z.B z.m⟩::⟨rdP z.A z.n z.c z.l,rdS z.A z.n⟩::[(⟨fxP (some ⟨ab,ao,none⟩) n cap u,fxS (some ⟨ab,ao,none⟩) n u⟩:Hl)]) (by repeat (first|with_reducible exact List.Sublist.refl _|with_reducible apply List.Sublist.cons_cons|with_reducible apply List.Sublist.cons))).part (L':=[((b1,#[.int .i64 z.s,.slice z.A z.n z.c,.int .i64 z.t,.slice z.B z.m z.d],29):Blk),(b0,#[.int .i64 0,.slice none 0 0,.int .i64 0,.slice none 0 0],29)]) (by repeat (first|with_reducible exact List.Sublist.refl _|with_reducible apply List.Sublist.cons_cons|with_reducible apply List.Sublist.cons))⟩
     case measure=>omega)
      | fail):p:=h
theorem ZQ107 {p:Prop} (h:p:=by
 first
  | (have h1:=hu j hj
     have h2:(u j).fv.ok=true:=List.all_eq_true.1 hoa _ (List.mem_of_getElem? h1)
     unfold fvR
     rw [h1,Option.map_some,Option.getD_some]
     exact jbW h2)
      | fail):p:=h
theorem Zb21 {p:Prop} (h:p:=by decide +kernel):p:=h
theorem Zb22 {p:Prop} (h:p:=by repeat (first|with_reducible exact List.mem_append_right _ ZMB|with_reducible exact List.mem_cons_self|with_reducible apply List.mem_cons_of_mem)):p:=h
theorem ZQ32 {p:Prop} (h:p:=by
 first
  | (go_wp2_with fail
     go_ret
     exact ⟨by rw [HcF.out,HE.out];first|done|rfl,hbE⟩)
      | fail):p:=h
theorem ZQ104 {p:Prop} (h:p:=by
 first
  | (have h2:=List.all_eq_true.1 h _ (List.mem_of_getElem? h1)
     unfold fnF at h2
     rw [Bool.and_eq_true] at h2
     unfold fvR
     rw [h1,Option.map_some,Option.getD_some]
     exact jbW h2.1)
      | fail):p:=h
theorem ZQ115 {p:Prop} (h:p:=by
 first
  | (have h9:=jds s.s s.t s.A s.B s.n s.c s.m s.d s.l s.k W (hs1.up (jab _) h) (hs2.up (jab _) h)
     rw [hs.1.right hs.2] at h9
     exact h9)
      | fail):p:=h
theorem ZQ28 {p:Prop} (h:p:=by
 first
  | (have em:mrg 3 cs o 3=(7,(fun u=>if u=0 then gi cs 7-gi cs 6 else if u=2 then gi cs 6-gi cs 2 else if u=1 then gi cs 2-gi cs 0 else 0)):=by
       simp only [mrg,e0,e1,e2]
       rfl
     rw [em]
     exact jjn hz hc)
      | fail):p:=h
theorem ZQ29 {p:Prop} (h:p:=by
 first
  | (have em:mrg 3 cs o 3=(7,(fun u=>if u=1 then gi cs 7-gi cs 5 else if u=0 then gi cs 5-gi cs 4 else if u=2 then gi cs 4-gi cs 0 else 0)):=by
       simp only [mrg,e0,e1,e2]
       rfl
     rw [em]
     exact jjp hz hc)
      | fail):p:=h
theorem ZQ30 {p:Prop} (h:p:=by
 first
  | (have em:mrg 3 cs o 3=(7,(fun u=>if u=2 then gi cs 7-gi cs 3 else if u=1 then gi cs 3-gi cs 1 else if u=0 then gi cs 1-gi cs 0 else 0)):=by
       simp only [mrg,e0,e1,e2]
       rfl
     rw [em]
     exact jjj hz hc)
      | fail):p:=h
theorem ZQ48 {p:Prop} (h:p:=by
 first
  | (have em:mrg 3 cs o 3=(7,(fun u=>if u=0 then gi cs 7-gi cs 6 else if u=1 then gi cs 6-gi cs 4 else if u=2 then gi cs 4-gi cs 0 else 0)):=by
       simp only [mrg,e0,e1,e2]
       rfl
     rw [em]
     exact jjq hz hc)
      | fail):p:=h
theorem ZQ49 {p:Prop} (h:p:=by
 first
  | (have em:mrg 3 cs o 3=(7,(fun u=>if u=1 then gi cs 7-gi cs 5 else if u=2 then gi cs 5-gi cs 1 else if u=0 then gi cs 1-gi cs 0 else 0)):=by
       simp only [mrg,e0,e1,e2]
       rfl
     rw [em]
     exact jjk hz hc)
      | fail):p:=h
theorem ZQ50 {p:Prop} (h:p:=by
 first
  | (have em:mrg 3 cs o 3=(7,(fun u=>if u=2 then gi cs 7-gi cs 3 else if u=0 then gi cs 3-gi cs 2 else if u=1 then gi cs 2-gi cs 0 else 0)):=by
       simp only [mrg,e0,e1,e2]
       rfl
     rw [em]
     exact jjm hz hc)
      | fail):p:=h
theorem ZQ99 {p:Prop} (h:p:=by
 first
  | (have em:mrg 2 cs o 2=(3,(fun u=>if u=0 then gi cs 3-gi cs 2 else if u=1 then gi cs 2-gi cs 0 else 0)):=by
       simp only [mrg,e0,e1]
       rfl
     rw [em]
     exact jmg hz hc)
      | fail):p:=h
theorem ZQ100 {p:Prop} (h:p:=by
 first
  | (have em:mrg 2 cs o 2=(3,(fun u=>if u=1 then gi cs 3-gi cs 1 else if u=0 then gi cs 1-gi cs 0 else 0)):=by
       simp only [mrg,e0,e1]
       rfl
     rw [em]
     exact jmf hz hc)
      | fail):p:=h
theorem ZQ71 {p:Prop} (h:p:=by first|(exact ⟨(h.cell (p:=⟨b0,0,none⟩) hB.lt).trans (hB.cell (j:=0) rfl),(h.cell (p:=⟨b0,1,none⟩) hB.lt).trans (hB.cell (j:=1) rfl)⟩)|fail):p:=h
theorem ZQ75 {p:Prop} (h:p:=by
 first
  | (go_wp2_with (first | (refine ZAL ?_;clear K r;(first | ((fail_if_success revert b0);intro W b0 K r) | ((fail_if_success revert b1);intro W b1 K r) | intro W b K r)) | (refine ZST ?_;clear K r;intro W K r))
     go_ret
     exact ⟨by rw [HR.out];first|done|rfl,K.1⟩)
      | fail):p:=h
theorem jnt {p:Prop} (h:p:=by
 first
  | (intro fuel cs y h1 h2
     obtain ⟨a,x,b,_⟩:=h fuel cs y h1 h2
     exact ⟨a,x,b,trivial⟩)
      | fail):p:=h
theorem ZQ4 {p:Prop} (h:p:=by
 first
  | (rw [←hw0] at hrem hrem2
     have hw0n:w0<n:=by rw [hw0];exact Nat.mod_lt _ (by omega)
     have Hw0:=jpk (show w0=oF k from by rw [hw0];exact Hu.out)
     clear hw0
     go_wp2_with fail
     clear c0 c1
     go_loopg [13] n (fun gk s13 wx=>∃(wv t:Nat),gk=t∧s13=.int .i64 wv∧Hid (wv<n)∧Hid (nxW n G t wv=ws)∧St W5 [((g,rwA n v [],29):Blk),(b1,#[.int .i64 0,.slice s.A s.n s.c,.int .i64 s.t,.slice s.B s.m s.d],29)] [⟨rwP n v,rwS n v⟩] wx)
     case atStart=>exact ⟨w0,n,rfl,rfl,jpk hw0n,jpk (by rw [Hw0.out];exact HWs.out.symm),K⟩
     case round =>
      clear K
      obtain ⟨wv,t,ht,rfl,Hwn,Hnx,K⟩:=hrel
      have Ht:=jpk ht
      clear ht
      obtain ⟨c0,c1⟩:=HC5.out _ K.1
      have hM9:G<9:=by have:=HG.out;omega
      have hwv3:wv<3:=by have:=Hwn.out;omega
      have HI:=jpk (fun W=>jdK G wv W (by omega) (by omega))
      by_cases hbit:bitI G wv=1
      ·rw [hbit] at HI
       cases t with
       | zero =>
        have h1:wv=ws:=Hnx.out
        rw [h1,HW.out.1] at hbit
        exact absurd hbit (by decide)
         | succ t =>
        obtain ⟨wn,hwn⟩:∃wn:Nat,wn=(wv+1)%n:=⟨_,rfl⟩
        have hr1:((wv:Int)+1).tmod (n:Int)=(wn:Int):=by rw [hwn];rfl
        have hr2:((wv:Int)+1)%(n:Int)=(wn:Int):=by rw [hwn];rfl
        have Hn1:=jpk (show wn<n from by rw [hwn];exact Nat.mod_lt _ (by omega))
        have Hn2:=jpk (show nxW n G t wn=ws from by
         have h1:=Hnx.out
         rw [nxW,if_pos hbit,←hwn] at h1
         exact h1)
        clear hbit hwn Hnx Hwn
        go_wp2_with (go_at_call 25;refine (HI.out _).mono ?_;rintro e W' ⟨rfl,hb⟩;replace K:=K.keep hb;clear hb c0 c1;obtain ⟨c0,c1⟩:=HC5.out _ K.1)
        go_roundg t
        case rel=>exact ⟨wn,t,rfl,by go_num,Hn1,Hn2,K⟩
        case measure=>have:=Ht.out;omega
      ·have hb0:bitI G wv=0:=by have:=jb8 G wv;omega
       have hws2:wv=ws:=by
        have h1:=Hnx.out
        cases t with
        | zero=>exact h1
        | succ t =>
         rw [nxW,if_neg hbit] at h1
         exact h1
       subst hws2
       rw [hb0] at HI
       obtain ⟨a,ha⟩:∃a:Nat,a=G ||| 1 <<< wv:=⟨_,rfl⟩
       have hstp:=jnS n (by omega) G (by have:=HG.out;have:=HN.out;omega) wv Hwn.out hb0
       have haN:a<M+1:=by rw [ha];have:=HN.out;omega
       have hor1:=jn8 G hM9 wv hwv3
       have hor2:=jn7 G hM9 wv hwv3
       rw [←ha] at hor1 hor2 hstp
       have Ha:=jpk ha
       have Hst:=jpk hstp
       have hva1:=(Hk.out.bd a).1
       have hva2:=(Hk.out.bd a).2
       have hvg1:=(Hk.out.bd G).1
       have hvg2:=(Hk.out.bd G).2
       obtain ⟨va,hva⟩:∃va,va=gi cs a:=⟨_,rfl⟩
       obtain ⟨vg,hvg⟩:∃vg,vg=gi cs G:=⟨_,rfl⟩
       have HCa:=jpk (fun V h=>by have:=HCe.out V h a haN;rw [←hva] at this;exact this:∀V,Below W5.heap.size W5 V→V.cell? ⟨vb,vo+a,none⟩=some (.int .i64 va))
       have HCg:=jpk (fun V h=>by have:=HCe.out V h G HG.out;rw [←hvg] at this;exact this:∀V,Below W5.heap.size W5 V→V.cell? ⟨vb,vo+G,none⟩=some (.int .i64 vg))
       rw [←hva] at hva1 hva2
       rw [←hvg] at hvg1 hvg2
       have Hva:=jpk hva
       have Hvg:=jpk hvg
       have hwd:IntKind.i64.wrap (va-vg)=va-vg:=IntWalk.i64_in _ (by omega)
       have haI:(a:Int)<(M:Int)+1:=by omega
       have ha0:(0:Int)≤(a:Int):=by omega
       have hGI:(G:Int)<(M:Int)+1:=by have:=HG.out;omega
       have hG0:(0:Int)≤(G:Int):=by omega
       have hwI:(wv:Int)<(n:Int):=by have:=Hwn.out;omega
       have hw00:(0:Int)≤(wv:Int):=by omega
       have hwv5:(wv:Int)≤5:=by omega
       clear hbit hb0 ha hva hvg hstp Hnx
       go_upto_region 18 with (go_at_call 25;refine (HI.out _).mono ?_;rintro e W' ⟨rfl,hb⟩;replace K:=K.keep hb;clear hb c0 c1;obtain ⟨c0,c1⟩:=HC5.out _ K.1)
       have HSP:=jpk (fun V (h:Below W5.heap.size W5 V)=>(show V.cell? ⟨b0,1,none⟩=some (.slice (some ⟨vb,vo,none⟩) (M+1:Nat) cc)∧V.cell? ⟨vb,vo+a,none⟩=some (.int .i64 va)∧V.cell? ⟨vb,vo+G,none⟩=some (.int .i64 vg) from ⟨(HC5.out V h).2,HCa.out V h,HCg.out V h⟩))
       have hSh:=HSP.out _ (K.drew).1
       replace K:=K.drew
       clear c0 c1
       refine jak 18 (fun V=>V.cell? ⟨b0,1,none⟩=some (.slice (some ⟨vb,vo,none⟩) (M+1:Nat) cc)∧V.cell? ⟨vb,vo+a,none⟩=some (.int .i64 va)∧V.cell? ⟨vb,vo+G,none⟩=some (.int .i64 vg)) (by kernel_rfl) hSh (fun hSh=>?_)
       generalize World.drew _=V0 at K hSh ⊢
       refine jaa.tk 0 rfl ?_
       refine jaa.tk 1 rfl ?_
       refine jaa.tk 2 rfl ?_
       refine jaa.tk 3 rfl ?_
       refine jaa.tk 4 rfl ?_
       refine jaa.tk 5 rfl ?_
       refine jaa.tk 6 rfl ?_
       refine jaa.tk 7 rfl ?_
       refine jaa.tk 8 rfl ?_
       refine jaa.tk 9 rfl ?_
       refine jaa.tk 10 rfl ?_
       refine jaa.tk 11 rfl ?_
       refine jaa.tk 12 rfl ?_
       refine jaa.tk 13 rfl ?_
       refine jaa.tk 14 rfl ?_
       refine jaa.tk 15 rfl ?_
       refine jaa.on 16 rfl fun KK hKK=>?_
       go_simp
       refine (jdV (va-vg) (by omega) (jmh hva1 hva2 hvg1 hvg2) K).mono ?_
       rintro e V1 ⟨q,rfl,gq,k1⟩
       clear K
       go_wp2_with fail
       refine hKK.out _ _ (HSP.out _ k1.1) (fun hSq=>?_)
       have hSh:=HSP.out _ k1.1
       clear hKK KK hSq
       refine ZPT ?_
       refine jaa.tk 17 rfl ?_
       refine jaa.last rfl (by kernel_rfl) ?_
       clear hSh
       simp only [List.getElem_toArray,List.getElem_cons_succ,List.getElem_cons_zero]
       refine k1.storeR rfl rfl _ _ _ rfl g wv n (q:Rw) rfl rfl Hwn.out ZUA jar ?_
       intro W8 K
       clear k1
       have HK:=jpk ((K.rwPut (v:=v) q wv ZMB ZMB ZMB).lessS (D':=[⟨rwP n (putF v wv q),rwS n (putF v wv q)⟩]) (by repeat (first|with_reducible exact List.Sublist.refl _|with_reducible apply List.Sublist.cons_cons|with_reducible apply List.Sublist.cons)))
       have HV2:=jpk (show a=(mrg n cs oF (k+1)).1∧isum a (fun _=>1) n=((k+1:Nat):Int)∧∀j,j<n→bitI a j=1→isQ (putF v wv q j) (((mrg n cs oF (k+1)).2 j:Int):Rat) from by
        have e1:=HV.out.1
        have e2:=HWs.out
        have e3:(mrg n cs oF (k+1)).1=a:=by
         simp only [mrg]
         rw [←e1,←e2,Ha.out]
        refine ⟨e3.symm,by rw [Hst.out.2,HV.out.2.1];rfl,fun j hj hb=>?_⟩
        have e4:(mrg n cs oF (k+1)).2 j=if j=wv then va-vg else (mrg n cs oF k).2 j:=by
         simp only [mrg]
         rw [←e1,←e2,←Ha.out,←Hva.out,←Hvg.out]
        rw [e4]
        by_cases e:j=wv
        ·rw [if_pos e,e,jaf]
         exact gq.out.1
        ·rw [if_neg e,jad e]
         refine HV.out.2.2 j hj ((jmv G (by have:=HG.out;have:=HM7.out;omega) wv hwv3 j (by omega) (by rw [←Ha.out];exact hb)).resolve_left e))
       have HG2:=jpk haN
       clear K HV gq hwd
       go_wp2_with fail
       go_roundg (n-(k+1))
       case rel=>exact ⟨k+1,a,_,hlt,rfl,by go_num,by go_num,HG2,HV2,HK.out⟩
       case measure=>omega)
        | fail):p:=h
end Go.Proofs.YtgikfcjndiohjaaGreat
