/- Laws and walks; conditions stand in each theorem. -/
import Derived.Test.YtdlcglndhhndpaaGreatP47
set_option linter.unusedSimpArgs false
set_option linter.unusedVariables false
set_option maxHeartbeats 16000000
set_option maxRecDepth 100000
namespace Go.Proofs.YtdlcglndhhndpaaGreat
open Go.RowKit
def SrT (w0:World) (L1:List Blk) (D:List Hl) (m N db:Nat) (G:Dc) (e:Ending) (W':World):Prop :=
 ∃(r s:Int) (b:Bool) (G':Dc) (Ld:List Blk) (Dd:List Hl),e=.returned (.tuple #[.int .i64 r,.int .i64 s])∧Hid (DicT m N db b G' Ld Dd)∧Hid (SrQ m N G G' b r s)∧St w0 (Ld++L1) (Dd++D) W'
theorem jee (w0 w:World) (L1:List Blk) (D:List Hl) (m N db:Nat) (G:Dc) (Ld:List Blk) (Dd:List Hl) (HL:DicT m N db false G Ld Dd) (K:St w0 (Ld++L1) (Dd++D) w) (hOk:G.Ok m N) (hm:m≤1000) (hN:N≤1000) :
 Calls Tryz.prog 68 #[.pointer (some ⟨db,0,none⟩)] w (SrT w0 L1 D m N db G):=by
 obtain ⟨t,ht⟩:=ends hOk;have HT:=jmT (show SrL m N G G false t from ⟨(fun e=>by cases e),fun _=>⟨hOk,fun R h=>h,ht⟩⟩);have HD:=jmT HL;clear ht hOk HL;go_enter Tryz.func68,Tryz.ntmps68
 go_wp2_with fail
 go_loopg [] t (fun gk wr=>∃(b:Bool) (G2:Dc) (Ld2:List Blk) (Dd2:List Hl),Hid (DicT m N db b G2 Ld2 Dd2)∧Hid (SrL m N G G2 b gk)∧St w0 (Ld2++L1) (Dd2++D) wr)
 case atStart=>exact ⟨false,G,Ld,Dd,HD,HT,K⟩
 case round =>
  clear K HT HD;obtain ⟨b,G2,Ld2,Dd2,HD,HT,K⟩:=hrel;have c0:=HD.out.flag (L:=Ld2++L1) (List.sublist_append_left _ _) _ _ K;cases b
  case true =>
   have HE:=jmT (show SrT w0 L1 D m N db G (.returned (.tuple #[.int .i64 (-1),.int .i64 (-1)])) wr from ⟨_,_,true,G2,Ld2,Dd2,rfl,HD,jmT HT.out.full,K⟩);clear HD HT K;exact ZQ144
  obtain ⟨A1,k1,hA1,hl1⟩:=HD.out.ownR (w0:=w0) (L:=Ld2++L1) (List.sublist_append_left _ _);obtain ⟨A2,k2,hA2,hl2⟩:=HD.out.freeR (w0:=w0) (L:=Ld2++L1) (List.sublist_append_left _ _);have HA1:=jmT hA1;have HA2:=jmT hA2;have HL1:=jmT hl1;have HL2:=jmT hl2;clear hA1 hA2 hl1 hl2;go_wp2_with fail;clear c0
  go_loopg [4,6] m (fun gk s4 s6 wr=>∃(k:Nat) (o:Option Nat),k≤m∧gk=m-k∧s4=.int .i64 (ixI o)∧s6=.int .i64 k∧Hid (lstP G2.own (G2.negR) k=o)∧St w0 (Ld2++L1) (Dd2++D) wr)
  case atStart=>exact ⟨0,none,Nat.zero_le _,rfl,rfl,rfl,jmT rfl,K⟩
  case round =>
   clear K;obtain ⟨k,o,hk,rfl,rfl,rfl,HO,K⟩:=hrel;have cl:=HL1.out _ _ K;by_cases hlt:k<m
   ·have hki:(k:Int)<(m:Int):=by omega
    have hk0:(0:Int)≤(k:Int):=by omega
    obtain ⟨g,hg,hcg,hgc⟩:=HA1.out ZO
    (first|subst hg|(injection hg with hg;injection hg with hg;replace hg:=hg.symm;subst hg))
    obtain ⟨vb,vc,y,hy,hvc,hval⟩:=HD.out.val (w0:=w0) (L:=Ld2++L1) (List.sublist_append_left _ _) hlt;have hsd:decide (y.s<0)=(G2.negR) k:=hy.neg_iff;have HLO:=jmT HL1.out;have hltd:decide (k<m)=true:=decide_eq_true hlt;cases hch:(G2.negR) k
    ·have HO2:=jmT ((jd5 hch).trans HO.out);rw [hch] at hsd;have hsn:¬y.s<0:=of_decide_eq_false hsd;have HS:=jmT (fun V D5 (h:St w0 (Ld2++L1) D5 V)=>(show (V.cell? ⟨db,0,none⟩=some (.slice (some ⟨vb,0,none⟩) m vc)∧V.cell? ⟨vb,k*4,none⟩=some (.int .i64 y.s)∧V.cell? ⟨db,3,none⟩=some (.slice (some ⟨g,0,none⟩) m k1)∧V.cell? ⟨g,k,none⟩=some (.int .i64 ((G2.own k:Nat):Int))) from ⟨(hval _ _ h).1,(hval _ _ h).2.1.1,HLO.out _ _ h,hgc _ _ h k hlt⟩));clear hch HO hgc hval
     as_aux_lemma =>
      go_upto_region 7 with fail;have K0:=K.drew;have s0:=HS.out _ _ K0;clear K cl;refine jah 100 (fun V=>(V.cell? ⟨db,0,none⟩=some (.slice (some ⟨vb,0,none⟩) m vc)∧V.cell? ⟨vb,k*4,none⟩=some (.int .i64 y.s)∧V.cell? ⟨db,3,none⟩=some (.slice (some ⟨g,0,none⟩) m k1)∧V.cell? ⟨g,k,none⟩=some (.int .i64 ((G2.own k:Nat):Int)))) Zb9 s0 (fun hSh=>?_);clear s0;refine jaa.tkB 0 rfl ?_;refine jaa.tkB 1 rfl ?_;refine jaa.tkB 2 rfl ?_;refine jaa.tkB 3 rfl ?_;refine jaa.tkB 4 rfl ?_;refine jaa.tkB 5 rfl ?_;refine jaa.tkB 6 rfl ?_;refine jaa.tkB 7 rfl ?_;refine jaa.tkB 8 rfl ?_;refine jaa.tkB 9 rfl ?_;refine jaa.tkB 10 rfl ?_;refine jaa.tkN 11 rfl ?_;refine jaa.tkN 12 rfl ?_;refine jaa.tkN 13 rfl ?_;refine jaa.tkN 14 rfl ?_;refine jaa.tkN 15 rfl ?_;refine jaa.tkN 16 rfl ?_;refine jaa.tkN 17 rfl ?_;refine jaa.tkN 18 rfl ?_;refine jaa.tkN 19 rfl ?_;refine jaa.tkN 20 rfl ?_;refine jaa.tkN 21 rfl ?_
      refine jaa.tkN 22 rfl ?_;refine jaa.tkN 23 rfl ?_;refine jaa.tkN 24 rfl ?_;refine jaa.tkN 25 rfl ?_;refine jaa.tkN 26 rfl ?_;refine jaa.tkN 27 rfl ?_;refine jaa.tkN 28 rfl ?_;refine jaa.tkN 29 rfl ?_;refine jaa.tkN 30 rfl ?_;refine jaa.tkB 31 rfl ?_;refine jaa.done Zb9 ?_;clear hSh;go_wp2_with fail;go_roundg (m-(k+1))
      case rel=>exact ⟨k+1,o,hlt,rfl,rfl,by go_num,HO2,K0⟩
      case measure=>omega
    ·rw [hch] at hsd;have hsn:y.s<0:=of_decide_eq_true hsd;cases o with
     | none =>
      have HO2:=jmT (jdh hch HO.out);rw [show ixI none= -1 from rfl];have HS:=jmT (fun V D5 (h:St w0 (Ld2++L1) D5 V)=>(show (V.cell? ⟨db,0,none⟩=some (.slice (some ⟨vb,0,none⟩) m vc)∧V.cell? ⟨vb,k*4,none⟩=some (.int .i64 y.s)∧V.cell? ⟨db,3,none⟩=some (.slice (some ⟨g,0,none⟩) m k1)∧V.cell? ⟨g,k,none⟩=some (.int .i64 ((G2.own k:Nat):Int))) from ⟨(hval _ _ h).1,(hval _ _ h).2.1.1,HLO.out _ _ h,hgc _ _ h k hlt⟩));clear hch HO hgc hval
      as_aux_lemma =>
       go_upto_region 7 with fail;have K0:=K.drew;have s0:=HS.out _ _ K0;clear K cl;refine jah 100 (fun V=>(V.cell? ⟨db,0,none⟩=some (.slice (some ⟨vb,0,none⟩) m vc)∧V.cell? ⟨vb,k*4,none⟩=some (.int .i64 y.s)∧V.cell? ⟨db,3,none⟩=some (.slice (some ⟨g,0,none⟩) m k1)∧V.cell? ⟨g,k,none⟩=some (.int .i64 ((G2.own k:Nat):Int)))) Zb9 s0 (fun hSh=>?_);clear s0;refine jaa.tkB 0 rfl ?_;refine jaa.tkB 1 rfl ?_;refine jaa.tkB 2 rfl ?_;refine jaa.tkB 3 rfl ?_;refine jaa.tkB 4 rfl ?_;refine jaa.tkB 5 rfl ?_;refine jaa.tkB 6 rfl ?_;refine jaa.tkB 7 rfl ?_;refine jaa.tkB 8 rfl ?_;refine jaa.tkB 9 rfl ?_;refine jaa.tkB 10 rfl ?_;refine jaa.tkB 11 rfl ?_;refine jaa.tkB 12 rfl ?_;refine jaa.tkB 13 rfl ?_;refine jaa.tkN 14 rfl ?_;refine jaa.tkN 15 rfl ?_;refine jaa.tkN 16 rfl ?_;refine jaa.tkN 17 rfl ?_;refine jaa.tkN 18 rfl ?_;refine jaa.tkN 19 rfl ?_;refine jaa.tkN 20 rfl ?_;refine jaa.tkN 21 rfl ?_
       refine jaa.tkN 22 rfl ?_;refine jaa.tkN 23 rfl ?_;refine jaa.tkN 24 rfl ?_;refine jaa.tkN 25 rfl ?_;refine jaa.tkN 26 rfl ?_;refine jaa.tkN 27 rfl ?_;refine jaa.tkN 28 rfl ?_;refine jaa.tkN 29 rfl ?_;refine jaa.tkB 30 rfl ?_;refine jaa.tkB 31 rfl ?_;refine jaa.done Zb9 ?_;clear hSh;go_wp2_with fail;go_roundg (m-(k+1))
       case rel=>exact ⟨k+1,some k,hlt,rfl,rfl,by go_num,HO2,K0⟩
       case measure=>omega
     | some i =>
      have hin:i<m:=by have:=(jar HO.out).1;omega
      have hi0:¬(i:Int)<0:=by omega
      have hi1:(0:Int)≤(i:Int):=by omega
      have hi2:(i:Int)<(m:Int):=by omega
      have hi3:decide ((i:Int)<0)=false:=decide_eq_false hi0;have hi4:max (i:Int) 0=(i:Int):=by omega
      have hi5:max 0 (i:Int)=(i:Int):=by omega
      rw [show ixI (some i)=(i:Int) from rfl];have HS:=jmT (fun V D5 (h:St w0 (Ld2++L1) D5 V)=>(show ((V.cell? ⟨db,0,none⟩=some (.slice (some ⟨vb,0,none⟩) m vc)∧V.cell? ⟨vb,k*4,none⟩=some (.int .i64 y.s)∧V.cell? ⟨db,3,none⟩=some (.slice (some ⟨g,0,none⟩) m k1)∧V.cell? ⟨g,k,none⟩=some (.int .i64 ((G2.own k:Nat):Int))))∧V.cell? ⟨g,i,none⟩=some (.int .i64 ((G2.own i:Nat):Int)) from ⟨⟨(hval _ _ h).1,(hval _ _ h).2.1.1,HLO.out _ _ h,hgc _ _ h k hlt⟩,hgc _ _ h i hin⟩));obtain ⟨bl,hbl⟩:∃bl,bl=decide (G2.own k<G2.own i):=⟨_,rfl⟩
      have HO2:=jmT (show lstP G2.own (G2.negR) (k+1)=if bl=true then some k else some i from by
       exact jjS)
      have hc5:decide (G2.own k<G2.own i)=bl:=hbl.symm;have hc4:decide (((G2.own k:Nat):Int)<((G2.own i:Nat):Int))=bl:=by rw [←hc5];exact decide_eq_decide.2 ZO
      clear hch HO hbl hgc hval
      as_aux_lemma =>
       go_upto_region 7 with fail;have K0:=K.drew;have s0:=HS.out _ _ K0;clear K cl;refine jah 100 (fun V=>((V.cell? ⟨db,0,none⟩=some (.slice (some ⟨vb,0,none⟩) m vc)∧V.cell? ⟨vb,k*4,none⟩=some (.int .i64 y.s)∧V.cell? ⟨db,3,none⟩=some (.slice (some ⟨g,0,none⟩) m k1)∧V.cell? ⟨g,k,none⟩=some (.int .i64 ((G2.own k:Nat):Int))))∧V.cell? ⟨g,i,none⟩=some (.int .i64 ((G2.own i:Nat):Int))) Zb9 s0 (fun hSh=>?_);clear s0;refine jaa.tkB 0 rfl ?_;refine jaa.tkB 1 rfl ?_;refine jaa.tkB 2 rfl ?_;refine jaa.tkB 3 rfl ?_;refine jaa.tkB 4 rfl ?_;refine jaa.tkB 5 rfl ?_;refine jaa.tkB 6 rfl ?_;refine jaa.tkB 7 rfl ?_;refine jaa.tkB 8 rfl ?_;refine jaa.tkB 9 rfl ?_;refine jaa.tkB 10 rfl ?_;refine jaa.tkB 11 rfl ?_;refine jaa.tkB 12 rfl ?_;refine jaa.tkB 13 rfl ?_;refine jaa.tkB 14 rfl ?_;refine jaa.tkB 15 rfl ?_;refine jaa.tkB 16 rfl ?_;refine jaa.tkB 17 rfl ?_;refine jaa.tkB 18 rfl ?_
       refine jaa.tkB 19 rfl ?_;refine jaa.tkB 20 rfl ?_;refine jaa.tkB 21 rfl ?_;refine jaa.tkB 22 rfl ?_;refine jaa.tkB 23 rfl ?_;refine jaa.tkB 24 rfl ?_;refine jaa.tkB 25 rfl ?_;refine jaa.tkB 26 rfl ?_;refine jaa.tkB 27 rfl ?_;refine jaa.tkB 28 rfl ?_;refine jaa.tkB 29 rfl ?_;refine jaa.tkB 30 rfl ?_;refine jaa.tkB 31 rfl ?_;exact ZQ54
   ·have e:k=m:=by omega
    have hltd:decide (k<m)=false:=decide_eq_false hlt;have hki:¬(k:Int)<(m:Int):=by omega
    have HO1:=jmT (show lstP G2.own (G2.negR) m=o from by rw [←e];exact HO.out);clear HO e hlt;obtain ⟨o1,ho1⟩:∃o1,o1=o:=⟨_,rfl⟩;rw [←ho1] at HO1 ⊢;clear ho1 o;go_wp2_with fail;clear cl hltd hki hk
    go_loopg [5,7] N (fun gk s4 s6 wr=>∃(k:Nat) (o:Option Nat),k≤N∧gk=N-k∧s4=.int .i64 (ixI o)∧s6=.int .i64 k∧Hid (lstP G2.free (G2.posC) k=o)∧St w0 (Ld2++L1) (Dd2++D) wr)
    case atStart=>exact ⟨0,none,Nat.zero_le _,rfl,rfl,rfl,jmT rfl,K⟩
    case round =>
     clear K;obtain ⟨k,o,hk,rfl,rfl,rfl,HO,K⟩:=hrel;have cl:=HL2.out _ _ K;by_cases hlt:k<N
     ·have hki:(k:Int)<(N:Int):=by omega
      have hk0:(0:Int)≤(k:Int):=by omega
      obtain ⟨g,hg,hcg,hgc⟩:=HA2.out ZO
      (first|subst hg|(injection hg with hg;injection hg with hg;replace hg:=hg.symm;subst hg))
      obtain ⟨vb,vc,y,hy,hvc,hval⟩:=HD.out.goal (w0:=w0) (L:=Ld2++L1) (List.sublist_append_left _ _) hlt;have hsd:decide (y.s>0)=(G2.posC) k:=hy.pos_iff;have HLO:=jmT HL2.out;have hltd:decide (k<N)=true:=decide_eq_true hlt;cases hch:(G2.posC) k
      ·have HO2:=jmT ((jd5 hch).trans HO.out);rw [hch] at hsd;have hsn:¬y.s>0:=of_decide_eq_false hsd;have HS:=jmT (fun V D5 (h:St w0 (Ld2++L1) D5 V)=>(show (V.cell? ⟨db,2,none⟩=some (.slice (some ⟨vb,0,none⟩) N vc)∧V.cell? ⟨vb,k*4,none⟩=some (.int .i64 y.s)∧V.cell? ⟨db,4,none⟩=some (.slice (some ⟨g,0,none⟩) N k2)∧V.cell? ⟨g,k,none⟩=some (.int .i64 ((G2.free k:Nat):Int))) from ⟨(hval _ _ h).1,(hval _ _ h).2.1.1,HLO.out _ _ h,hgc _ _ h k hlt⟩));clear hch HO hgc hval
       as_aux_lemma =>
        go_upto_region 12 with fail;have K0:=K.drew;have s0:=HS.out _ _ K0;clear K cl;refine jah 100 (fun V=>(V.cell? ⟨db,2,none⟩=some (.slice (some ⟨vb,0,none⟩) N vc)∧V.cell? ⟨vb,k*4,none⟩=some (.int .i64 y.s)∧V.cell? ⟨db,4,none⟩=some (.slice (some ⟨g,0,none⟩) N k2)∧V.cell? ⟨g,k,none⟩=some (.int .i64 ((G2.free k:Nat):Int)))) Zb9 s0 (fun hSh=>?_);clear s0;refine jaa.tkB 0 rfl ?_;refine jaa.tkB 1 rfl ?_;refine jaa.tkB 2 rfl ?_;refine jaa.tkB 3 rfl ?_;refine jaa.tkB 4 rfl ?_;refine jaa.tkB 5 rfl ?_;refine jaa.tkB 6 rfl ?_;refine jaa.tkB 7 rfl ?_;refine jaa.tkB 8 rfl ?_;refine jaa.tkB 9 rfl ?_;refine jaa.tkB 10 rfl ?_;refine jaa.tkN 11 rfl ?_;refine jaa.tkN 12 rfl ?_;refine jaa.tkN 13 rfl ?_;refine jaa.tkN 14 rfl ?_;refine jaa.tkN 15 rfl ?_;refine jaa.tkN 16 rfl ?_;refine jaa.tkN 17 rfl ?_;refine jaa.tkN 18 rfl ?_;refine jaa.tkN 19 rfl ?_;refine jaa.tkN 20 rfl ?_;refine jaa.tkN 21 rfl ?_
        refine jaa.tkN 22 rfl ?_;refine jaa.tkN 23 rfl ?_;refine jaa.tkN 24 rfl ?_;refine jaa.tkN 25 rfl ?_;refine jaa.tkN 26 rfl ?_;refine jaa.tkN 27 rfl ?_;refine jaa.tkN 28 rfl ?_;refine jaa.tkN 29 rfl ?_;refine jaa.tkN 30 rfl ?_;refine jaa.tkB 31 rfl ?_;refine jaa.done Zb9 ?_;clear hSh;go_wp2_with fail;go_roundg (N-(k+1))
        case rel=>exact ⟨k+1,o,hlt,rfl,rfl,by go_num,HO2,K0⟩
        case measure=>omega
      ·rw [hch] at hsd;have hsn:y.s>0:=of_decide_eq_true hsd;cases o with
       | none =>
        have HO2:=jmT (jdh hch HO.out);rw [show ixI none= -1 from rfl];have HS:=jmT (fun V D5 (h:St w0 (Ld2++L1) D5 V)=>(show (V.cell? ⟨db,2,none⟩=some (.slice (some ⟨vb,0,none⟩) N vc)∧V.cell? ⟨vb,k*4,none⟩=some (.int .i64 y.s)∧V.cell? ⟨db,4,none⟩=some (.slice (some ⟨g,0,none⟩) N k2)∧V.cell? ⟨g,k,none⟩=some (.int .i64 ((G2.free k:Nat):Int))) from ⟨(hval _ _ h).1,(hval _ _ h).2.1.1,HLO.out _ _ h,hgc _ _ h k hlt⟩));clear hch HO hgc hval
        as_aux_lemma =>
         go_upto_region 12 with fail;have K0:=K.drew;have s0:=HS.out _ _ K0;clear K cl;refine jah 100 (fun V=>(V.cell? ⟨db,2,none⟩=some (.slice (some ⟨vb,0,none⟩) N vc)∧V.cell? ⟨vb,k*4,none⟩=some (.int .i64 y.s)∧V.cell? ⟨db,4,none⟩=some (.slice (some ⟨g,0,none⟩) N k2)∧V.cell? ⟨g,k,none⟩=some (.int .i64 ((G2.free k:Nat):Int)))) Zb9 s0 (fun hSh=>?_);clear s0;refine jaa.tkB 0 rfl ?_;refine jaa.tkB 1 rfl ?_;refine jaa.tkB 2 rfl ?_;refine jaa.tkB 3 rfl ?_;refine jaa.tkB 4 rfl ?_;refine jaa.tkB 5 rfl ?_;refine jaa.tkB 6 rfl ?_;refine jaa.tkB 7 rfl ?_;refine jaa.tkB 8 rfl ?_;refine jaa.tkB 9 rfl ?_;refine jaa.tkB 10 rfl ?_;refine jaa.tkB 11 rfl ?_;refine jaa.tkB 12 rfl ?_;refine jaa.tkB 13 rfl ?_;refine jaa.tkN 14 rfl ?_;refine jaa.tkN 15 rfl ?_;refine jaa.tkN 16 rfl ?_;refine jaa.tkN 17 rfl ?_;refine jaa.tkN 18 rfl ?_;refine jaa.tkN 19 rfl ?_;refine jaa.tkN 20 rfl ?_;refine jaa.tkN 21 rfl ?_
         refine jaa.tkN 22 rfl ?_;refine jaa.tkN 23 rfl ?_;refine jaa.tkN 24 rfl ?_;refine jaa.tkN 25 rfl ?_;refine jaa.tkN 26 rfl ?_;refine jaa.tkN 27 rfl ?_;refine jaa.tkN 28 rfl ?_;refine jaa.tkN 29 rfl ?_;refine jaa.tkB 30 rfl ?_;refine jaa.tkB 31 rfl ?_;refine jaa.done Zb9 ?_;clear hSh;go_wp2_with fail;go_roundg (N-(k+1))
         case rel=>exact ⟨k+1,some k,hlt,rfl,rfl,by go_num,HO2,K0⟩
         case measure=>omega
       | some i =>
        have hin:i<N:=by have:=(jar HO.out).1;omega
        have hi0:¬(i:Int)<0:=by omega
        have hi1:(0:Int)≤(i:Int):=by omega
        have hi2:(i:Int)<(N:Int):=by omega
        have hi3:decide ((i:Int)<0)=false:=decide_eq_false hi0;have hi4:max (i:Int) 0=(i:Int):=by omega
        have hi5:max 0 (i:Int)=(i:Int):=by omega
        rw [show ixI (some i)=(i:Int) from rfl];have HS:=jmT (fun V D5 (h:St w0 (Ld2++L1) D5 V)=>(show ((V.cell? ⟨db,2,none⟩=some (.slice (some ⟨vb,0,none⟩) N vc)∧V.cell? ⟨vb,k*4,none⟩=some (.int .i64 y.s)∧V.cell? ⟨db,4,none⟩=some (.slice (some ⟨g,0,none⟩) N k2)∧V.cell? ⟨g,k,none⟩=some (.int .i64 ((G2.free k:Nat):Int))))∧V.cell? ⟨g,i,none⟩=some (.int .i64 ((G2.free i:Nat):Int)) from ⟨⟨(hval _ _ h).1,(hval _ _ h).2.1.1,HLO.out _ _ h,hgc _ _ h k hlt⟩,hgc _ _ h i hin⟩));obtain ⟨bl,hbl⟩:∃bl,bl=decide (G2.free k<G2.free i):=⟨_,rfl⟩
        have HO2:=jmT (show lstP G2.free (G2.posC) (k+1)=if bl=true then some k else some i from by
         exact jjS)
        have hc5:decide (G2.free k<G2.free i)=bl:=hbl.symm;have hc4:decide (((G2.free k:Nat):Int)<((G2.free i:Nat):Int))=bl:=by rw [←hc5];exact decide_eq_decide.2 ZO
        clear hch HO hbl hgc hval
        as_aux_lemma =>
         go_upto_region 12 with fail;have K0:=K.drew;have s0:=HS.out _ _ K0;clear K cl;refine jah 100 (fun V=>((V.cell? ⟨db,2,none⟩=some (.slice (some ⟨vb,0,none⟩) N vc)∧V.cell? ⟨vb,k*4,none⟩=some (.int .i64 y.s)∧V.cell? ⟨db,4,none⟩=some (.slice (some ⟨g,0,none⟩) N k2)∧V.cell? ⟨g,k,none⟩=some (.int .i64 ((G2.free k:Nat):Int))))∧V.cell? ⟨g,i,none⟩=some (.int .i64 ((G2.free i:Nat):Int))) Zb9 s0 (fun hSh=>?_);clear s0;refine jaa.tkB 0 rfl ?_;refine jaa.tkB 1 rfl ?_;refine jaa.tkB 2 rfl ?_;refine jaa.tkB 3 rfl ?_;refine jaa.tkB 4 rfl ?_;refine jaa.tkB 5 rfl ?_;refine jaa.tkB 6 rfl ?_;refine jaa.tkB 7 rfl ?_;refine jaa.tkB 8 rfl ?_;refine jaa.tkB 9 rfl ?_;refine jaa.tkB 10 rfl ?_;refine jaa.tkB 11 rfl ?_;refine jaa.tkB 12 rfl ?_;refine jaa.tkB 13 rfl ?_;refine jaa.tkB 14 rfl ?_;refine jaa.tkB 15 rfl ?_;refine jaa.tkB 16 rfl ?_;refine jaa.tkB 17 rfl ?_;refine jaa.tkB 18 rfl ?_
         refine jaa.tkB 19 rfl ?_;refine jaa.tkB 20 rfl ?_;refine jaa.tkB 21 rfl ?_;refine jaa.tkB 22 rfl ?_;refine jaa.tkB 23 rfl ?_;refine jaa.tkB 24 rfl ?_;refine jaa.tkB 25 rfl ?_;refine jaa.tkB 26 rfl ?_;refine jaa.tkB 27 rfl ?_;refine jaa.tkB 28 rfl ?_;refine jaa.tkB 29 rfl ?_;refine jaa.tkB 30 rfl ?_;refine jaa.tkB 31 rfl ?_;exact ZQ53
     ·have e:k=N:=by omega
      have hltd:decide (k<N)=false:=decide_eq_false hlt;have hki:¬(k:Int)<(N:Int):=by omega
      have HO2:=jmT (show lstP G2.free (G2.posC) N=o from by rw [←e];exact HO.out);clear HO e hlt;by_cases hnn:o1=none∧o=none
      ·obtain ⟨h1,h2⟩:=hnn;subst h1 h2;rw [show ixI none= -1 from rfl];have HE:=jmT (show SrT w0 L1 D m N db G (.returned (.tuple #[.int .i64 (-1),.int .i64 (-1)])) _ from ⟨_,_,false,G2,Ld2,Dd2,rfl,HD,jmT (HT.out.stop (jjg HO1.out HO2.out) ⟨rfl,rfl⟩),K⟩);clear HD HT;exact ZQ144
      go_upto_region 14 with fail;refine ZPT ?_;go_cut [105] from 100 to 105 (fun p wx=>p=.bool false∧St w0 (Ld2++L1) (Dd2++D) wx)
      case first =>
       clear HO1 HO2 HT HD HA1 HA2;cases o1 with
       | none =>
        cases o with
        | none=>exact absurd ⟨rfl,rfl⟩ hnn
        | some s =>
         rw [show ixI none= -1 from rfl,show ixI (some s)=((s:Nat):Int) from rfl];have hs0:¬((s:Nat):Int)<0:=by omega
         have hs1:decide (((s:Nat):Int)<0)=false:=decide_eq_false hs0;go_wp2_with fail;go_meet;exact ⟨rfl,K⟩
       | some rr =>
        rw [show ixI (some rr)=((rr:Nat):Int) from rfl];have hr0:¬((rr:Nat):Int)<0:=by omega
        have hr1:decide (((rr:Nat):Int)<0)=false:=decide_eq_false hr0;go_wp2_with fail;go_meet;exact ⟨rfl,K⟩
      clear K;obtain ⟨rfl,K⟩:=hcut;go_upto_region 17 with fail;refine ZPT ?_;go_cut [113] from 108 to 113 (fun p wx=>p=.bool (o1.isSome&&o.isSome)∧St w0 (Ld2++L1) (Dd2++D) wx)
      case first =>
       clear HO1 HO2 HT HD HA1 HA2 hnn;cases o1 with
       | none =>
        rw [show ixI none= -1 from rfl];go_wp2_with fail;go_meet;exact ⟨rfl,K⟩
       | some rr =>
        rw [show ixI (some rr)=((rr:Nat):Int) from rfl];have hri0:(0:Int)≤((rr:Nat):Int):=by omega
        have hge:decide (((rr:Nat):Int)≥0)=true:=decide_eq_true hri0;cases o with
        | none =>
         rw [show ixI none= -1 from rfl];go_wp2_with fail;go_meet;exact ⟨rfl,K⟩
        | some s =>
         rw [show ixI (some s)=((s:Nat):Int) from rfl];have hsi0:(0:Int)≤((s:Nat):Int):=by omega
         have hge2:decide (((s:Nat):Int)≥0)=true:=decide_eq_true hsi0;go_wp2_with fail;go_meet;exact ⟨rfl,K⟩
      clear K;obtain ⟨rfl,K⟩:=hcut;obtain ⟨bb,hbb⟩:∃bb,bb=(o1.isSome&&o.isSome):=⟨_,rfl⟩;rw [←hbb];have HBB:=jmT hbb;clear hbb
      go_upto_if 113 with fail
      refine ZPT ?_;go_cut [8] from 114 to 128 (fun p wx=>∃rowb:Bool,p=.bool rowb∧Hid (rowb=true→∃rr,o1=some rr∧rr<m∧G2.pick m N=G2.rowP N rr)∧Hid (rowb=false→∃s,o=some s∧s<N∧G2.pick m N=G2.colP m s)∧St w0 (Ld2++L1) (Dd2++D) wx)
      case first =>
       clear HT HD;cases bb
       ·have HE1:=jmT (show decide (ixI o<0)=true→∃rr,o1=some rr∧rr<m∧G2.pick m N=G2.rowP N rr from fun h=>by
         cases o with
         | none =>
          cases o1 with
          | none=>exact absurd ⟨rfl,rfl⟩ hnn
          | some rr=>exact ⟨rr,rfl,(jar HO1.out).1,jge HO1.out HO2.out⟩
         | some s =>
          have h2:((s:Nat):Int)<0:=of_decide_eq_true h
          omega)
        have HE2:=jmT (show decide (ixI o<0)=false→∃s,o=some s∧s<N∧G2.pick m N=G2.colP m s from fun h=>by
         cases o with
         | none=>exact absurd h Zb4
         | some s =>
          cases o1 with
          | none=>exact ⟨s,rfl,(jar HO2.out).1,jgd HO1.out HO2.out⟩
          | some rr=>exact absurd HBB.out Zb0)
        clear HO1 HO2 hnn HA1 HA2;go_wp2_with fail;go_meet;exact ⟨_,rfl,HE1,HE2,K⟩
       ·cases o1 with
        | none=>exact absurd HBB.out Zb0
        | some rr =>
         cases o with
         | none=>exact absurd HBB.out Zb0
         | some s =>
          rw [show ixI (some rr)=((rr:Nat):Int) from rfl,show ixI (some s)=((s:Nat):Int) from rfl];have hri0:(0:Int)≤((rr:Nat):Int):=by omega
          have Hrm:=jmT (show rr<m from (jar HO1.out).1);have HsN:=jmT (show s<N from (jar HO2.out).1);obtain ⟨g1,hg1,hcg1,hgc1⟩:=HA1.out (by have:=Hrm.out;omega);obtain ⟨g2,hg2,hcg2,hgc2⟩:=HA2.out (by have:=HsN.out;omega);subst hg1 hg2;have HGc1:=jmT hgc1;have HGc2:=jmT hgc2;have hri:((rr:Nat):Int)<(m:Int):=by have:=Hrm.out;omega
          have hsi:((s:Nat):Int)<(N:Int):=by have:=HsN.out;omega
          have hsi0:(0:Int)≤((s:Nat):Int):=by omega
          obtain ⟨bl,hbl⟩:∃bl,bl=decide (G2.own rr<G2.free s):=⟨_,rfl⟩;have hc5:decide (G2.own rr<G2.free s)=bl:=hbl.symm;have hc4:decide (((G2.own rr:Nat):Int)<((G2.free s:Nat):Int))=bl:=by rw [←hc5];exact decide_eq_decide.2 ZO
          have HE1:=jmT (show bl=true→∃r',some rr=some r'∧r'<m∧G2.pick m N=G2.rowP N r' from fun h=>⟨rr,rfl,Hrm.out,jgc HO1.out HO2.out (of_decide_eq_true (hc5.trans h))⟩);have HE2:=jmT (show bl=false→∃s',some s=some s'∧s'<N∧G2.pick m N=G2.colP m s' from fun h=>⟨s,rfl,HsN.out,jgb HO1.out HO2.out (of_decide_eq_false (hc5.trans h))⟩);have HS:=jmT (fun V D5 (h:St w0 (Ld2++L1) D5 V)=>(show V.cell? ⟨db,3,none⟩=some (.slice (some ⟨g1,0,none⟩) m k1)∧V.cell? ⟨g1,rr,none⟩=some (.int .i64 ((G2.own rr:Nat):Int))∧V.cell? ⟨db,4,none⟩=some (.slice (some ⟨g2,0,none⟩) N k2)∧V.cell? ⟨g2,s,none⟩=some (.int .i64 ((G2.free s:Nat):Int)) from ⟨HL1.out _ _ h,HGc1.out _ _ h rr Hrm.out,HL2.out _ _ h,HGc2.out _ _ h s HsN.out⟩));clear hgc1 hgc2 hbl HO1 HO2 hnn HBB;go_upto_region 18 with fail;have K0:=K.drew;have s0:=HS.out _ _ K0;clear K
          refine jah 100 (fun V=>V.cell? ⟨db,3,none⟩=some (.slice (some ⟨g1,0,none⟩) m k1)∧V.cell? ⟨g1,rr,none⟩=some (.int .i64 ((G2.own rr:Nat):Int))∧V.cell? ⟨db,4,none⟩=some (.slice (some ⟨g2,0,none⟩) N k2)∧V.cell? ⟨g2,s,none⟩=some (.int .i64 ((G2.free s:Nat):Int))) Zb9 s0 (fun hSh=>?_);clear s0;refine jaa.tkB 0 rfl ?_;refine jaa.tkB 1 rfl ?_;refine jaa.tkB 2 rfl ?_;refine jaa.tkB 3 rfl ?_;refine jaa.tkB 4 rfl ?_;refine jaa.tkB 5 rfl ?_;refine jaa.tkB 6 rfl ?_;refine jaa.tkB 7 rfl ?_;refine jaa.tkB 8 rfl ?_;refine jaa.tkB 9 rfl ?_;refine jaa.tkB 10 rfl ?_;refine jaa.tkB 11 rfl ?_;refine jaa.tkB 12 rfl ?_;refine jaa.tkB 13 rfl ?_;refine jaa.tkB 14 rfl ?_;refine jaa.tkB 15 rfl ?_;refine jaa.done Zb9 ?_;clear hSh;go_wp2_with fail;go_meet;exact ⟨bl,rfl,HE1,HE2,K0⟩
      clear K HO1 HO2 hnn;obtain ⟨rowb,rfl,hrow,hcol,K⟩:=hcut;cases rowb
      ·obtain ⟨s,rfl,hsN,hpk⟩:=hcol.out rfl;rw [show ixI (some s)=((s:Nat):Int) from rfl];have HsN:=jmT hsN;have HPK:=jmT hpk;clear hrow hcol hsN hpk;go_wp2_with fail;clear hltd hki hk;have hsi:((s:Nat):Int)<(N:Int):=by have:=HsN.out;omega
       have hs0:(0:Int)≤((s:Nat):Int):=by omega
       go_loopg [4,10] m (fun gk s4 s6 wr=>∃(k:Nat) (o:Option Nat),k≤m∧gk=m-k∧s4=.int .i64 (ixI o)∧s6=.int .i64 k∧Hid (lstP G2.own (G2.posA s) k=o)∧St w0 (Ld2++L1) (Dd2++D) wr)
       case atStart=>exact ⟨0,none,Nat.zero_le _,rfl,rfl,rfl,jmT rfl,K⟩
       case round =>
        clear K;obtain ⟨k,o,hk,rfl,rfl,rfl,HO,K⟩:=hrel;have cl:=HL1.out _ _ K;by_cases hlt:k<m
        ·have hki:(k:Int)<(m:Int):=by omega
         have hk0:(0:Int)≤(k:Int):=by omega
         obtain ⟨g,hg,hcg,hgc⟩:=HA1.out ZO
         (first|subst hg|(injection hg with hg;injection hg with hg;replace hg:=hg.symm;subst hg))
         obtain ⟨hb,hc,rb,cp,y,hy,hhc,hcp,hval⟩:=HD.out.elem (w0:=w0) (L:=Ld2++L1) (List.sublist_append_left _ _) hlt HsN.out;have hsd:decide (y.s>0)=(G2.posA s) k:=hy.pos_iff;have HLO:=jmT HL1.out;have hltd:decide (k<m)=true:=decide_eq_true hlt;cases hch:(G2.posA s) k
         ·have HO2:=jmT ((jd5 hch).trans HO.out);rw [hch] at hsd;have hsn:¬y.s>0:=of_decide_eq_false hsd;have HS:=jmT (fun V D5 (h:St w0 (Ld2++L1) D5 V)=>(show (V.cell? ⟨db,1,none⟩=some (.slice (some ⟨hb,0,none⟩) m hc)∧V.cell? ⟨hb,k,none⟩=some (.slice (some ⟨rb,0,none⟩) N cp)∧V.cell? ⟨rb,s*4,none⟩=some (.int .i64 y.s)∧V.cell? ⟨db,3,none⟩=some (.slice (some ⟨g,0,none⟩) m k1)∧V.cell? ⟨g,k,none⟩=some (.int .i64 ((G2.own k:Nat):Int))) from ⟨(hval _ _ h).1,(hval _ _ h).2.1,(hval _ _ h).2.2.1.1,HLO.out _ _ h,hgc _ _ h k hlt⟩));clear hch HO hgc hval
          as_aux_lemma =>
           go_upto_region 32 with fail;have K0:=K.drew;have s0:=HS.out _ _ K0;clear K cl;refine jah 100 (fun V=>(V.cell? ⟨db,1,none⟩=some (.slice (some ⟨hb,0,none⟩) m hc)∧V.cell? ⟨hb,k,none⟩=some (.slice (some ⟨rb,0,none⟩) N cp)∧V.cell? ⟨rb,s*4,none⟩=some (.int .i64 y.s)∧V.cell? ⟨db,3,none⟩=some (.slice (some ⟨g,0,none⟩) m k1)∧V.cell? ⟨g,k,none⟩=some (.int .i64 ((G2.own k:Nat):Int)))) Zb9 s0 (fun hSh=>?_);clear s0;refine jaa.tkB 0 rfl ?_;refine jaa.tkB 1 rfl ?_;refine jaa.tkB 2 rfl ?_;refine jaa.tkB 3 rfl ?_;refine jaa.tkB 4 rfl ?_;refine jaa.tkB 5 rfl ?_;refine jaa.tkB 6 rfl ?_;refine jaa.tkB 7 rfl ?_;refine jaa.tkB 8 rfl ?_;refine jaa.tkB 9 rfl ?_;refine jaa.tkB 10 rfl ?_;refine jaa.tkB 11 rfl ?_;refine jaa.tkB 12 rfl ?_;refine jaa.tkB 13 rfl ?_;refine jaa.tkN 14 rfl ?_;refine jaa.tkN 15 rfl ?_;refine jaa.tkN 16 rfl ?_;refine jaa.tkN 17 rfl ?_;refine jaa.tkN 18 rfl ?_
           refine jaa.tkN 19 rfl ?_;refine jaa.tkN 20 rfl ?_;refine jaa.tkN 21 rfl ?_;refine jaa.tkN 22 rfl ?_;refine jaa.tkN 23 rfl ?_;refine jaa.tkN 24 rfl ?_;refine jaa.tkN 25 rfl ?_;refine jaa.tkN 26 rfl ?_;refine jaa.tkN 27 rfl ?_;refine jaa.tkN 28 rfl ?_;refine jaa.tkN 29 rfl ?_;refine jaa.tkN 30 rfl ?_;refine jaa.tkN 31 rfl ?_;refine jaa.tkN 32 rfl ?_;refine jaa.tkN 33 rfl ?_;refine jaa.tkB 34 rfl ?_;refine jaa.done Zb9 ?_;clear hSh;go_wp2_with fail;go_roundg (m-(k+1))
           case rel=>exact ⟨k+1,o,hlt,rfl,rfl,by go_num,HO2,K0⟩
           case measure=>omega
         ·rw [hch] at hsd;have hsn:y.s>0:=of_decide_eq_true hsd;cases o with
          | none =>
           have HO2:=jmT (jdh hch HO.out);rw [show ixI none= -1 from rfl];have HS:=jmT (fun V D5 (h:St w0 (Ld2++L1) D5 V)=>(show (V.cell? ⟨db,1,none⟩=some (.slice (some ⟨hb,0,none⟩) m hc)∧V.cell? ⟨hb,k,none⟩=some (.slice (some ⟨rb,0,none⟩) N cp)∧V.cell? ⟨rb,s*4,none⟩=some (.int .i64 y.s)∧V.cell? ⟨db,3,none⟩=some (.slice (some ⟨g,0,none⟩) m k1)∧V.cell? ⟨g,k,none⟩=some (.int .i64 ((G2.own k:Nat):Int))) from ⟨(hval _ _ h).1,(hval _ _ h).2.1,(hval _ _ h).2.2.1.1,HLO.out _ _ h,hgc _ _ h k hlt⟩));clear hch HO hgc hval
           as_aux_lemma =>
            go_upto_region 32 with fail;have K0:=K.drew;have s0:=HS.out _ _ K0;clear K cl;refine jah 100 (fun V=>(V.cell? ⟨db,1,none⟩=some (.slice (some ⟨hb,0,none⟩) m hc)∧V.cell? ⟨hb,k,none⟩=some (.slice (some ⟨rb,0,none⟩) N cp)∧V.cell? ⟨rb,s*4,none⟩=some (.int .i64 y.s)∧V.cell? ⟨db,3,none⟩=some (.slice (some ⟨g,0,none⟩) m k1)∧V.cell? ⟨g,k,none⟩=some (.int .i64 ((G2.own k:Nat):Int)))) Zb9 s0 (fun hSh=>?_);clear s0;refine jaa.tkB 0 rfl ?_;refine jaa.tkB 1 rfl ?_;refine jaa.tkB 2 rfl ?_;refine jaa.tkB 3 rfl ?_;refine jaa.tkB 4 rfl ?_;refine jaa.tkB 5 rfl ?_;refine jaa.tkB 6 rfl ?_;refine jaa.tkB 7 rfl ?_;refine jaa.tkB 8 rfl ?_;refine jaa.tkB 9 rfl ?_;refine jaa.tkB 10 rfl ?_;refine jaa.tkB 11 rfl ?_;refine jaa.tkB 12 rfl ?_;refine jaa.tkB 13 rfl ?_;refine jaa.tkB 14 rfl ?_;refine jaa.tkB 15 rfl ?_;refine jaa.tkB 16 rfl ?_;refine jaa.tkN 17 rfl ?_;refine jaa.tkN 18 rfl ?_
            refine jaa.tkN 19 rfl ?_;refine jaa.tkN 20 rfl ?_;refine jaa.tkN 21 rfl ?_;refine jaa.tkN 22 rfl ?_;refine jaa.tkN 23 rfl ?_;refine jaa.tkN 24 rfl ?_;refine jaa.tkN 25 rfl ?_;refine jaa.tkN 26 rfl ?_;refine jaa.tkN 27 rfl ?_;refine jaa.tkN 28 rfl ?_;refine jaa.tkN 29 rfl ?_;refine jaa.tkN 30 rfl ?_;refine jaa.tkN 31 rfl ?_;refine jaa.tkN 32 rfl ?_;refine jaa.tkB 33 rfl ?_;refine jaa.tkB 34 rfl ?_;refine jaa.done Zb9 ?_;clear hSh;go_wp2_with fail;go_roundg (m-(k+1))
            case rel=>exact ⟨k+1,some k,hlt,rfl,rfl,by go_num,HO2,K0⟩
            case measure=>omega
          | some i =>
           have hin:i<m:=by have:=(jar HO.out).1;omega
           have hi0:¬(i:Int)<0:=by omega
           have hi1:(0:Int)≤(i:Int):=by omega
           have hi2:(i:Int)<(m:Int):=by omega
           have hi3:decide ((i:Int)<0)=false:=decide_eq_false hi0;have hi4:max (i:Int) 0=(i:Int):=by omega
           have hi5:max 0 (i:Int)=(i:Int):=by omega
           rw [show ixI (some i)=(i:Int) from rfl];have HS:=jmT (fun V D5 (h:St w0 (Ld2++L1) D5 V)=>(show ((V.cell? ⟨db,1,none⟩=some (.slice (some ⟨hb,0,none⟩) m hc)∧V.cell? ⟨hb,k,none⟩=some (.slice (some ⟨rb,0,none⟩) N cp)∧V.cell? ⟨rb,s*4,none⟩=some (.int .i64 y.s)∧V.cell? ⟨db,3,none⟩=some (.slice (some ⟨g,0,none⟩) m k1)∧V.cell? ⟨g,k,none⟩=some (.int .i64 ((G2.own k:Nat):Int))))∧V.cell? ⟨g,i,none⟩=some (.int .i64 ((G2.own i:Nat):Int)) from ⟨⟨(hval _ _ h).1,(hval _ _ h).2.1,(hval _ _ h).2.2.1.1,HLO.out _ _ h,hgc _ _ h k hlt⟩,hgc _ _ h i hin⟩));obtain ⟨bl,hbl⟩:∃bl,bl=decide (G2.own k<G2.own i):=⟨_,rfl⟩
           have HO2:=jmT (show lstP G2.own (G2.posA s) (k+1)=if bl=true then some k else some i from by
            exact jjS)
           have hc5:decide (G2.own k<G2.own i)=bl:=hbl.symm;have hc4:decide (((G2.own k:Nat):Int)<((G2.own i:Nat):Int))=bl:=by rw [←hc5];exact decide_eq_decide.2 ZO
           clear hch HO hbl hgc hval
           as_aux_lemma =>
            go_upto_region 32 with fail;have K0:=K.drew;have s0:=HS.out _ _ K0;clear K cl;refine jah 100 (fun V=>((V.cell? ⟨db,1,none⟩=some (.slice (some ⟨hb,0,none⟩) m hc)∧V.cell? ⟨hb,k,none⟩=some (.slice (some ⟨rb,0,none⟩) N cp)∧V.cell? ⟨rb,s*4,none⟩=some (.int .i64 y.s)∧V.cell? ⟨db,3,none⟩=some (.slice (some ⟨g,0,none⟩) m k1)∧V.cell? ⟨g,k,none⟩=some (.int .i64 ((G2.own k:Nat):Int))))∧V.cell? ⟨g,i,none⟩=some (.int .i64 ((G2.own i:Nat):Int))) Zb9 s0 (fun hSh=>?_);clear s0;refine jaa.tkB 0 rfl ?_;refine jaa.tkB 1 rfl ?_;refine jaa.tkB 2 rfl ?_;refine jaa.tkB 3 rfl ?_;refine jaa.tkB 4 rfl ?_;refine jaa.tkB 5 rfl ?_;refine jaa.tkB 6 rfl ?_;refine jaa.tkB 7 rfl ?_;refine jaa.tkB 8 rfl ?_;refine jaa.tkB 9 rfl ?_;refine jaa.tkB 10 rfl ?_;refine jaa.tkB 11 rfl ?_;refine jaa.tkB 12 rfl ?_;refine jaa.tkB 13 rfl ?_;refine jaa.tkB 14 rfl ?_;refine jaa.tkB 15 rfl ?_;refine jaa.tkB 16 rfl ?_
            refine jaa.tkB 17 rfl ?_;refine jaa.tkB 18 rfl ?_;refine jaa.tkB 19 rfl ?_;refine jaa.tkB 20 rfl ?_;refine jaa.tkB 21 rfl ?_;refine jaa.tkB 22 rfl ?_;refine jaa.tkB 23 rfl ?_;refine jaa.tkB 24 rfl ?_;refine jaa.tkB 25 rfl ?_;refine jaa.tkB 26 rfl ?_;refine jaa.tkB 27 rfl ?_;refine jaa.tkB 28 rfl ?_;refine jaa.tkB 29 rfl ?_;refine jaa.tkB 30 rfl ?_;refine jaa.tkB 31 rfl ?_;refine jaa.tkB 32 rfl ?_;refine jaa.tkB 33 rfl ?_;refine jaa.tkB 34 rfl ?_;exact ZQ54
        ·have e:k=m:=by omega
         have hltd:decide (k<m)=false:=decide_eq_false hlt;have hki:¬(k:Int)<(m:Int):=by omega
         have HO3:=jmT (show lstP G2.own (G2.posA s) m=o from by rw [←e];exact HO.out);clear HO e hlt;cases o with
         | none =>
          rw [show ixI none= -1 from rfl];have HE:=jmT (show SrT w0 L1 D m N db G (.returned (.tuple #[.int .i64 (-1),.int .i64 ((s:Nat):Int)])) _ from ⟨_,_,false,G2,Ld2,Dd2,rfl,HD,jmT (HT.out.stop ((HPK.out).trans (jhL HO3.out)) ⟨rfl,rfl⟩),K⟩);clear HD HT;go_wp2_with fail;exact bodyPost_ret (v:=.tuple #[.int .i64 (-1),.int .i64 ((s:Nat):Int)]) (by simp [results,Tryz.results68,go_sem]) rfl HE.out
         | some rr =>
          rw [show ixI (some rr)=((rr:Nat):Int) from rfl];have hs0:¬((rr:Nat):Int)<0:=by omega
          have hs1:decide (((rr:Nat):Int)<0)=false:=decide_eq_false hs0;have hpk:=((HPK.out).trans (jhM HO3.out));exact ZQ45
      ·obtain ⟨rr,rfl,hrm,hpk⟩:=hrow.out rfl;rw [show ixI (some rr)=((rr:Nat):Int) from rfl];have Hrm:=jmT hrm;have HPK:=jmT hpk;clear hrow hcol hrm hpk;go_wp2_with fail;clear hltd hki hk;have hri:((rr:Nat):Int)<(m:Int):=by have:=Hrm.out;omega
       have hr0:(0:Int)≤((rr:Nat):Int):=by omega
       go_loopg [5,9] N (fun gk s4 s6 wr=>∃(k:Nat) (o:Option Nat),k≤N∧gk=N-k∧s4=.int .i64 (ixI o)∧s6=.int .i64 k∧Hid (lstP G2.free (G2.negA rr) k=o)∧St w0 (Ld2++L1) (Dd2++D) wr)
       case atStart=>exact ⟨0,none,Nat.zero_le _,rfl,rfl,rfl,jmT rfl,K⟩
       case round =>
        clear K;obtain ⟨k,o,hk,rfl,rfl,rfl,HO,K⟩:=hrel;have cl:=HL2.out _ _ K;by_cases hlt:k<N
        ·have hki:(k:Int)<(N:Int):=by omega
         have hk0:(0:Int)≤(k:Int):=by omega
         obtain ⟨g,hg,hcg,hgc⟩:=HA2.out ZO
         (first|subst hg|(injection hg with hg;injection hg with hg;replace hg:=hg.symm;subst hg))
         obtain ⟨hb,hc,rb,cp,y,hy,hhc,hcp,hval⟩:=HD.out.elem (w0:=w0) (L:=Ld2++L1) (List.sublist_append_left _ _) Hrm.out hlt;have hsd:decide (y.s<0)=(G2.negA rr) k:=hy.neg_iff;have HLO:=jmT HL2.out;have hltd:decide (k<N)=true:=decide_eq_true hlt;cases hch:(G2.negA rr) k
         ·have HO2:=jmT ((jd5 hch).trans HO.out);rw [hch] at hsd;have hsn:¬y.s<0:=of_decide_eq_false hsd;have HS:=jmT (fun V D5 (h:St w0 (Ld2++L1) D5 V)=>(show (V.cell? ⟨db,1,none⟩=some (.slice (some ⟨hb,0,none⟩) m hc)∧V.cell? ⟨hb,rr,none⟩=some (.slice (some ⟨rb,0,none⟩) N cp)∧V.cell? ⟨rb,k*4,none⟩=some (.int .i64 y.s)∧V.cell? ⟨db,4,none⟩=some (.slice (some ⟨g,0,none⟩) N k2)∧V.cell? ⟨g,k,none⟩=some (.int .i64 ((G2.free k:Nat):Int))) from ⟨(hval _ _ h).1,(hval _ _ h).2.1,(hval _ _ h).2.2.1.1,HLO.out _ _ h,hgc _ _ h k hlt⟩));clear hch HO hgc hval
          as_aux_lemma =>
           go_upto_region 24 with fail;have K0:=K.drew;have s0:=HS.out _ _ K0;clear K cl;refine jah 100 (fun V=>(V.cell? ⟨db,1,none⟩=some (.slice (some ⟨hb,0,none⟩) m hc)∧V.cell? ⟨hb,rr,none⟩=some (.slice (some ⟨rb,0,none⟩) N cp)∧V.cell? ⟨rb,k*4,none⟩=some (.int .i64 y.s)∧V.cell? ⟨db,4,none⟩=some (.slice (some ⟨g,0,none⟩) N k2)∧V.cell? ⟨g,k,none⟩=some (.int .i64 ((G2.free k:Nat):Int)))) Zb9 s0 (fun hSh=>?_);clear s0;refine jaa.tkB 0 rfl ?_;refine jaa.tkB 1 rfl ?_;refine jaa.tkB 2 rfl ?_;refine jaa.tkB 3 rfl ?_;refine jaa.tkB 4 rfl ?_;refine jaa.tkB 5 rfl ?_;refine jaa.tkB 6 rfl ?_;refine jaa.tkB 7 rfl ?_;refine jaa.tkB 8 rfl ?_;refine jaa.tkB 9 rfl ?_;refine jaa.tkB 10 rfl ?_;refine jaa.tkB 11 rfl ?_;refine jaa.tkB 12 rfl ?_;refine jaa.tkB 13 rfl ?_;refine jaa.tkN 14 rfl ?_;refine jaa.tkN 15 rfl ?_;refine jaa.tkN 16 rfl ?_;refine jaa.tkN 17 rfl ?_;refine jaa.tkN 18 rfl ?_
           refine jaa.tkN 19 rfl ?_;refine jaa.tkN 20 rfl ?_;refine jaa.tkN 21 rfl ?_;refine jaa.tkN 22 rfl ?_;refine jaa.tkN 23 rfl ?_;refine jaa.tkN 24 rfl ?_;refine jaa.tkN 25 rfl ?_;refine jaa.tkN 26 rfl ?_;refine jaa.tkN 27 rfl ?_;refine jaa.tkN 28 rfl ?_;refine jaa.tkN 29 rfl ?_;refine jaa.tkN 30 rfl ?_;refine jaa.tkN 31 rfl ?_;refine jaa.tkN 32 rfl ?_;refine jaa.tkN 33 rfl ?_;refine jaa.tkB 34 rfl ?_;refine jaa.done Zb9 ?_;clear hSh;go_wp2_with fail;go_roundg (N-(k+1))
           case rel=>exact ⟨k+1,o,hlt,rfl,rfl,by go_num,HO2,K0⟩
           case measure=>omega
         ·rw [hch] at hsd;have hsn:y.s<0:=of_decide_eq_true hsd;cases o with
          | none =>
           have HO2:=jmT (jdh hch HO.out);rw [show ixI none= -1 from rfl];have HS:=jmT (fun V D5 (h:St w0 (Ld2++L1) D5 V)=>(show (V.cell? ⟨db,1,none⟩=some (.slice (some ⟨hb,0,none⟩) m hc)∧V.cell? ⟨hb,rr,none⟩=some (.slice (some ⟨rb,0,none⟩) N cp)∧V.cell? ⟨rb,k*4,none⟩=some (.int .i64 y.s)∧V.cell? ⟨db,4,none⟩=some (.slice (some ⟨g,0,none⟩) N k2)∧V.cell? ⟨g,k,none⟩=some (.int .i64 ((G2.free k:Nat):Int))) from ⟨(hval _ _ h).1,(hval _ _ h).2.1,(hval _ _ h).2.2.1.1,HLO.out _ _ h,hgc _ _ h k hlt⟩));clear hch HO hgc hval
           as_aux_lemma =>
            go_upto_region 24 with fail;have K0:=K.drew;have s0:=HS.out _ _ K0;clear K cl;refine jah 100 (fun V=>(V.cell? ⟨db,1,none⟩=some (.slice (some ⟨hb,0,none⟩) m hc)∧V.cell? ⟨hb,rr,none⟩=some (.slice (some ⟨rb,0,none⟩) N cp)∧V.cell? ⟨rb,k*4,none⟩=some (.int .i64 y.s)∧V.cell? ⟨db,4,none⟩=some (.slice (some ⟨g,0,none⟩) N k2)∧V.cell? ⟨g,k,none⟩=some (.int .i64 ((G2.free k:Nat):Int)))) Zb9 s0 (fun hSh=>?_);clear s0;refine jaa.tkB 0 rfl ?_;refine jaa.tkB 1 rfl ?_;refine jaa.tkB 2 rfl ?_;refine jaa.tkB 3 rfl ?_;refine jaa.tkB 4 rfl ?_;refine jaa.tkB 5 rfl ?_;refine jaa.tkB 6 rfl ?_;refine jaa.tkB 7 rfl ?_;refine jaa.tkB 8 rfl ?_;refine jaa.tkB 9 rfl ?_;refine jaa.tkB 10 rfl ?_;refine jaa.tkB 11 rfl ?_;refine jaa.tkB 12 rfl ?_;refine jaa.tkB 13 rfl ?_;refine jaa.tkB 14 rfl ?_;refine jaa.tkB 15 rfl ?_;refine jaa.tkB 16 rfl ?_;refine jaa.tkN 17 rfl ?_;refine jaa.tkN 18 rfl ?_
            refine jaa.tkN 19 rfl ?_;refine jaa.tkN 20 rfl ?_;refine jaa.tkN 21 rfl ?_;refine jaa.tkN 22 rfl ?_;refine jaa.tkN 23 rfl ?_;refine jaa.tkN 24 rfl ?_;refine jaa.tkN 25 rfl ?_;refine jaa.tkN 26 rfl ?_;refine jaa.tkN 27 rfl ?_;refine jaa.tkN 28 rfl ?_;refine jaa.tkN 29 rfl ?_;refine jaa.tkN 30 rfl ?_;refine jaa.tkN 31 rfl ?_;refine jaa.tkN 32 rfl ?_;refine jaa.tkB 33 rfl ?_;refine jaa.tkB 34 rfl ?_;refine jaa.done Zb9 ?_;clear hSh;go_wp2_with fail;go_roundg (N-(k+1))
            case rel=>exact ⟨k+1,some k,hlt,rfl,rfl,by go_num,HO2,K0⟩
            case measure=>omega
          | some i =>
           have hin:i<N:=by have:=(jar HO.out).1;omega
           have hi0:¬(i:Int)<0:=by omega
           have hi1:(0:Int)≤(i:Int):=by omega
           have hi2:(i:Int)<(N:Int):=by omega
           have hi3:decide ((i:Int)<0)=false:=decide_eq_false hi0;have hi4:max (i:Int) 0=(i:Int):=by omega
           have hi5:max 0 (i:Int)=(i:Int):=by omega
           rw [show ixI (some i)=(i:Int) from rfl];have HS:=jmT (fun V D5 (h:St w0 (Ld2++L1) D5 V)=>(show ((V.cell? ⟨db,1,none⟩=some (.slice (some ⟨hb,0,none⟩) m hc)∧V.cell? ⟨hb,rr,none⟩=some (.slice (some ⟨rb,0,none⟩) N cp)∧V.cell? ⟨rb,k*4,none⟩=some (.int .i64 y.s)∧V.cell? ⟨db,4,none⟩=some (.slice (some ⟨g,0,none⟩) N k2)∧V.cell? ⟨g,k,none⟩=some (.int .i64 ((G2.free k:Nat):Int))))∧V.cell? ⟨g,i,none⟩=some (.int .i64 ((G2.free i:Nat):Int)) from ⟨⟨(hval _ _ h).1,(hval _ _ h).2.1,(hval _ _ h).2.2.1.1,HLO.out _ _ h,hgc _ _ h k hlt⟩,hgc _ _ h i hin⟩));obtain ⟨bl,hbl⟩:∃bl,bl=decide (G2.free k<G2.free i):=⟨_,rfl⟩
           have HO2:=jmT (show lstP G2.free (G2.negA rr) (k+1)=if bl=true then some k else some i from by
            exact jjS)
           have hc5:decide (G2.free k<G2.free i)=bl:=hbl.symm;have hc4:decide (((G2.free k:Nat):Int)<((G2.free i:Nat):Int))=bl:=by rw [←hc5];exact decide_eq_decide.2 ZO
           clear hch HO hbl hgc hval
           as_aux_lemma =>
            go_upto_region 24 with fail;have K0:=K.drew;have s0:=HS.out _ _ K0;clear K cl;refine jah 100 (fun V=>((V.cell? ⟨db,1,none⟩=some (.slice (some ⟨hb,0,none⟩) m hc)∧V.cell? ⟨hb,rr,none⟩=some (.slice (some ⟨rb,0,none⟩) N cp)∧V.cell? ⟨rb,k*4,none⟩=some (.int .i64 y.s)∧V.cell? ⟨db,4,none⟩=some (.slice (some ⟨g,0,none⟩) N k2)∧V.cell? ⟨g,k,none⟩=some (.int .i64 ((G2.free k:Nat):Int))))∧V.cell? ⟨g,i,none⟩=some (.int .i64 ((G2.free i:Nat):Int))) Zb9 s0 (fun hSh=>?_);clear s0;refine jaa.tkB 0 rfl ?_;refine jaa.tkB 1 rfl ?_;refine jaa.tkB 2 rfl ?_;refine jaa.tkB 3 rfl ?_;refine jaa.tkB 4 rfl ?_;refine jaa.tkB 5 rfl ?_;refine jaa.tkB 6 rfl ?_;refine jaa.tkB 7 rfl ?_;refine jaa.tkB 8 rfl ?_;refine jaa.tkB 9 rfl ?_;refine jaa.tkB 10 rfl ?_;refine jaa.tkB 11 rfl ?_;refine jaa.tkB 12 rfl ?_;refine jaa.tkB 13 rfl ?_;refine jaa.tkB 14 rfl ?_;refine jaa.tkB 15 rfl ?_;refine jaa.tkB 16 rfl ?_
            refine jaa.tkB 17 rfl ?_;refine jaa.tkB 18 rfl ?_;refine jaa.tkB 19 rfl ?_;refine jaa.tkB 20 rfl ?_;refine jaa.tkB 21 rfl ?_;refine jaa.tkB 22 rfl ?_;refine jaa.tkB 23 rfl ?_;refine jaa.tkB 24 rfl ?_;refine jaa.tkB 25 rfl ?_;refine jaa.tkB 26 rfl ?_;refine jaa.tkB 27 rfl ?_;refine jaa.tkB 28 rfl ?_;refine jaa.tkB 29 rfl ?_;refine jaa.tkB 30 rfl ?_;refine jaa.tkB 31 rfl ?_;refine jaa.tkB 32 rfl ?_;refine jaa.tkB 33 rfl ?_;refine jaa.tkB 34 rfl ?_;exact ZQ53
        ·have e:k=N:=by omega
         have hltd:decide (k<N)=false:=decide_eq_false hlt;have hki:¬(k:Int)<(N:Int):=by omega
         have HO3:=jmT (show lstP G2.free (G2.negA rr) N=o from by rw [←e];exact HO.out);clear HO e hlt;cases o with
         | none =>
          rw [show ixI none= -1 from rfl];have HE:=jmT (show SrT w0 L1 D m N db G (.returned (.tuple #[.int .i64 ((rr:Nat):Int),.int .i64 (-1)])) _ from ⟨_,_,false,G2,Ld2,Dd2,rfl,HD,jmT (HT.out.stop ((HPK.out).trans (jjr HO3.out)) ⟨rfl,rfl⟩),K⟩);clear HD HT;go_wp2_with fail;exact bodyPost_ret (v:=.tuple #[.int .i64 ((rr:Nat):Int),.int .i64 (-1)]) (by simp [results,Tryz.results68,go_sem]) rfl HE.out
         | some s =>
          rw [show ixI (some s)=((s:Nat):Int) from rfl];have hs0:¬((s:Nat):Int)<0:=by omega
          have hs1:decide (((s:Nat):Int)<0)=false:=decide_eq_false hs0;have hpk:=((HPK.out).trans (jjs HO3.out));exact ZQ45
end Go.Proofs.YtdlcglndhhndpaaGreat
