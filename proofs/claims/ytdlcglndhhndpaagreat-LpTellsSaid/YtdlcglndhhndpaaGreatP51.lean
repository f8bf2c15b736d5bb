/- Laws and walks; conditions stand in each theorem. -/
import Derived.Test.YtdlcglndhhndpaaGreatP48
import Derived.Test.YtdlcglndhhndpaaGreatP49
import Derived.Test.YtdlcglndhhndpaaGreatP42
set_option linter.unusedSimpArgs false
set_option linter.unusedVariables false
set_option maxHeartbeats 16000000
set_option maxRecDepth 100000
namespace Go.Proofs.YtdlcglndhhndpaaGreat
open Go.RowKit
theorem jjF (A A':Option Addr) (n cap m cap':Nat) (l:List Fv) (ls:List Rv) (w:World) (hl:RdF w w.heap.size A n cap l) (hr:RdR w w.heap.size A' m cap' ls) (hn:n≤20) (hm:m≤40) (hno:(l.all Fv.ok&&ls.all (rowF n))=false) :
 Calls Tryz.prog 24 #[.agg #[.slice A n cap,.slice A' m cap']] w fun e w'=>e=.returned (.tuple #[.slice none 0 0,.slice none 0 0,.int .i64 1])∧Below w.heap.size w w':=by
 have HR:=jmT (fun W (h:Below w.heap.size w W)=>jch A A' n cap m cap' l ls W (hl.up jan h) (hr.up ja7 h) hn hm);rw [hno] at HR;have K:=St.start w;clear hl hr hno;go_enter Tryz.func24,Tryz.ntmps24
 go_wp2_with (first|(first|(apply K.box;rfl;rfl;rfl;clear K;intro W b0 K;have c0:=(K.blk (b:=b0) (cs:=#[.slice A n cap,.slice A' m cap']) (t:=38) List.mem_cons_self).cell (j:=0) rfl;have c1:=(K.blk (b:=b0) (cs:=#[.slice A n cap,.slice A' m cap']) (t:=38) List.mem_cons_self).cell (j:=1) rfl))|(go_at_call 27;refine (HR.out _ K.1).mono ?_;rintro e W' ⟨rfl,hb⟩;replace K:=K.keep hb))
 exact bodyPost_ret (v:=.tuple #[.slice none 0 0,.slice none 0 0,.int .i64 1]) Zb27 rfl ⟨rfl,K.1⟩
theorem jhr (A A':Option Addr) (n cap m cap':Nat) (l:List Fv) (ls:List Rv) (w:World) (hl:RdF w w.heap.size A n cap l) (hr:RdR w w.heap.size A' m cap' ls) (hn:n≤20) (hm:m≤40) (hok:(l.all Fv.ok&&ls.all (rowF n))=true) :
 Calls Tryz.prog 24 #[.agg #[.slice A n cap,.slice A' m cap']] w (SolP w m n l ls):=by
 have HR:=jmT (fun W (h:Below w.heap.size w W)=>jch A A' n cap m cap' l ls W (hl.up jan h) (hr.up ja7 h) hn hm);rw [hok] at HR;rw [Bool.and_eq_true] at hok;have hrow:∀(k:Nat) (X:Rv),ls[k]?=some X→rowF n X=true:=fun k X h=>List.all_eq_true.1 hok.2 _ (List.mem_of_getElem? h)
 have hlen:=hl.len;have hcap:=hl.caps;have hcap':=hr.caps;obtain ⟨vg,hvg,K⟩:=(St.start w).fxOld hl
 have hc:∀j,j<n→isQ (vg j) (fvR l j):=fun j hj=>by
  have h1:=hvg j hj;have h2:(vg j).fv.ok=true:=List.all_eq_true.1 hok.1 _ (List.mem_of_getElem? h1);unfold fvR;rw [h1,Option.map_some,Option.getD_some];exact jbR h2
 have HC:=jmT hc;have HOp:=jmT (fun W L D B cg v c (K:St w L D W) hg hc=>jjd w W L D A A' B n cap m cap' cg ls v c K hr hrow hg hc ZO ZO);have hn0:(0:Int)≤(n:Int):=by omega
 clear hl hok hc hvg hlen hrow;go_enter Tryz.func24,Tryz.ntmps24
 go_wp2_with (first
  | (first | (apply K.box;rfl;rfl;rfl;clear K;intro W b0 K;have c0:=(K.blk (b:=b0) (cs:=#[.slice A n cap,.slice A' m cap']) (t:=38) List.mem_cons_self).cell (j:=0) rfl;have c1:=(K.blk (b:=b0) (cs:=#[.slice A n cap,.slice A' m cap']) (t:=38) List.mem_cons_self).cell (j:=1) rfl))
  | (go_at_call 27;refine (HR.out _ K.1).mono ?_;rintro e W' ⟨rfl,hb⟩;replace K:=K.keep hb;clear c0 c1;have c0:=(K.blk (b:=b0) (cs:=#[.slice A n cap,.slice A' m cap']) (t:=38) List.mem_cons_self).cell (j:=0) rfl;have c1:=(K.blk (b:=b0) (cs:=#[.slice A n cap,.slice A' m cap']) (t:=38) List.mem_cons_self).cell (j:=1) rfl)
  | (at_make;refine K.make rfl _ _ _ _ rfl _ _ _ Tryz.underlying23 jaF n rfl rfl _ (jez n) ZO ZO ?_;clear K c0 c1 hb;intro W0 g K))
 clear HR
 go_loopg [10] n (fun gk s10 wr=>∃(k:Nat) (v:Nat→Rw),k≤n∧gk=n-k∧s10=.int .i64 k∧Hid (∀j,j<k→isQ (v j) 0)∧St w ((g,rwA n v [],50)::[((b0,#[.slice A n cap,.slice A' m cap'],38):Blk)]) (⟨rwP n v,rwS n v⟩::[(⟨fxP A n cap vg,fxS A n vg⟩:Hl)]) wr)
 case atStart=>exact ⟨0,fun _=>Rw.zero,Nat.zero_le _,rfl,rfl,jmT (fun j h=>absurd h ZO),K.rwNew n⟩
 case round =>
  clear K;obtain ⟨k,v,hk,rfl,rfl,HV,K⟩:=hrel;by_cases hlt:k<n
  ·have hki:(k:Int)<(n:Int):=by omega
   have hk0:(0:Int)≤(k:Int):=by omega
   have hltd:decide (k<n)=true:=decide_eq_true hlt;go_wp2_with fail;refine (jba 0 Zb4 Zb24 K).mono ?_;rintro e W1 ⟨z,rfl,gz,k1⟩;replace K:=k1;clear k1
   go_wp2_with (refine K.storeR rfl rfl _ _ _ rfl g k n z rfl rfl hlt ZUA jae ?_;clear K;intro W8 K)
   have HK:=jmT ((K.rwPut (v:=v) z k ZMB ZMB ZMB).lessS (D':=⟨rwP n (putF v k z),rwS n (putF v k z)⟩::[(⟨fxP A n cap vg,fxS A n vg⟩:Hl)]) Zb10)
   have HV2:=jmT (show ∀j,j<k+1→isQ (putF v k z j) 0 from fun j hj=>by
    by_cases e:j=k
    ·subst e;rw [jaf];have:=gz.out;exact this
    ·rw [jad e];exact HV.out j ZO)
   clear K HV gz;go_roundg (n-(k+1))
   case rel=>exact ⟨k+1,_,hlt,rfl,by go_num,HV2,HK.out⟩
   case measure=>omega
  ·have e:n=k:=by omega
   subst e;have hltd:decide (n<n)=false:=decide_eq_false hlt;have hki:¬(n:Int)<(n:Int):=by omega
   have K2:=K.fxOwn ZO;clear K;have K:=K2;clear K2;have c0:=(K.blk (b:=b0) (cs:=#[.slice A n cap,.slice A' m cap']) (t:=38) List.mem_cons_self).cell (j:=0) rfl;have c1:=(K.blk (b:=b0) (cs:=#[.slice A n cap,.slice A' m cap']) (t:=38) List.mem_cons_self).cell (j:=1) rfl;have HO1:=jmT (HOp.out _ _ _ _ _ _ (fun _=>0) K List.mem_cons_self HV.out);clear HV;go_upto_region 13 with (go_at_call 67;refine HO1.out.mono ?_;rintro e w4 ⟨db1,Ld1,Dd1,rfl,hD1,k3⟩)
   obtain ⟨G0,hG0⟩:∃G0,G0=opnD n (rwA2 ls) (rwB2 ls false) (fun _=>0):=⟨_,rfl⟩;have hOk0:G0.Ok m n:=by rw [hG0];exact jgX m n _ _ _
   have HG0:=jmT hG0;rw [←hG0] at hD1;clear hG0 hltd hki hlt K c0 c1 HO1;have HS1:=jmT (jee w _ _ _ m n db1 G0 Ld1 Dd1 hD1.out k3 hOk0 ZO ZO);clear k3 hD1;go_upto_region 14 with (go_at_call 68;refine HS1.out.mono ?_;rintro e w5 ⟨r1,s1,b1,G1,Ld2,Dd2,rfl,hD2,hS,K⟩)
   clear HS1;have cf:=hD2.out.flag (w0:=w) (L:=Ld2++[((b0,#[.slice A n cap,.slice A' m cap'],38):Blk)]) (List.sublist_append_left _ _) _ _ K;cases b1
   ·obtain ⟨hq1,hq2⟩:=hS.out.2 rfl;have HOk1:=jmT (hq1.like hOk0 _ rfl).1;rw [HG0.out] at hq1;have HQ1:=jmT hq1;clear hS hq1;rcases jmb hq2 with ⟨i,hp,rfl⟩|⟨hp,rfl⟩
    ·
     have him:i<m:=(Dc.pick_contra hp).1;have HE:=jmT (jbw.none (c:=fvR l) HQ1.out hp);clear hq2 hp HQ1 HOp HC HG0 hOk0 HOk1;have hi0:(0:Int)≤(i:Int):=by omega
     have hi1:(i:Int)≥0:=by omega
     have hi2:decide ((i:Int)≥0)=true:=decide_eq_true hi1;have hi3:(i:Int)<(m:Int):=by omega
     have HIM:=jmT him;obtain ⟨A1,k1,hA1,hl1⟩:=hD2.out.ownR (w0:=w) (L:=Ld2) (List.Sublist.refl _);have HA1:=jmT hA1;have HC1:=jmT (fun V L5 D5 (h:St w L5 D5 V) (hs:Ld2.Sublist L5)=>(show V.cell? ⟨db1,3,none⟩=some (.slice A1 m k1) from hl1 _ _ (h.part hs)))
     have HT1:=jmT (fun V L5 D5 (h:St w L5 D5 V) (hs:Ld2.Sublist L5) (x:Nat) (j:Int) (hj:ixI (idxP G1.own x m)=j)=>(show Calls Tryz.prog 69 #[.slice A1 m k1,.int .i64 ((x:Nat):Int)] V (fun e W'=>e=.returned (.int .i64 j)∧St w L5 D5 W') from by
      rw [←hj]
      exact jeN A1 m k1 G1.own x w V L5 D5 h ZO (fun h0=>by
       obtain ⟨g,h1,h2,h3⟩:=HA1.out h0
       exact ⟨g,h1,h2,fun W D K i hi=>h3 W D (K.part hs) i hi⟩)))
     clear hA1 hl1;obtain ⟨A2,k2,hA2,hl2⟩:=hD2.out.freeR (w0:=w) (L:=Ld2) (List.Sublist.refl _);have HA2:=jmT hA2;have HC2:=jmT (fun V L5 D5 (h:St w L5 D5 V) (hs:Ld2.Sublist L5)=>(show V.cell? ⟨db1,4,none⟩=some (.slice A2 n k2) from hl2 _ _ (h.part hs)))
     have HT2:=jmT (fun V L5 D5 (h:St w L5 D5 V) (hs:Ld2.Sublist L5) (x:Nat) (j:Int) (hj:ixI (idxP G1.free x n)=j)=>(show Calls Tryz.prog 69 #[.slice A2 n k2,.int .i64 ((x:Nat):Int)] V (fun e W'=>e=.returned (.int .i64 j)∧St w L5 D5 W') from by
      rw [←hj]
      exact jeN A2 n k2 G1.free x w V L5 D5 h ZO (fun h0=>by
       obtain ⟨g,h1,h2,h3⟩:=HA2.out h0
       exact ⟨g,h1,h2,fun W D K i hi=>h3 W D (K.part hs) i hi⟩)))
     clear hA2 hl2;obtain ⟨go,hgo,hcg,hgc⟩:=HA1.out ZO;subst hgo;have HGC:=jmT (fun V L5 D5 (h:St w L5 D5 V) (hs:Ld2.Sublist L5)=>hgc _ _ (h.part hs) i HIM.out);clear hgc HA1 HA2;go_wp2_with fail;clear cf;obtain ⟨v0,hv0⟩:∃v0,v0=v:=⟨_,rfl⟩;rw [←hv0] at K;clear hv0 v
     go_loopg [8,14] m (fun gk s8 s14 wr=>∃(k:Nat) (v:Nat→Rw) (val:Value) (Xy:List Blk),k≤m∧gk=m-k∧s8=val∧s14=.int .i64 k∧Hid (∀j,j<k→isQ (v j) (yC n G1 i j))∧Hid (OwL 4 Rw.cs 50 val (ofF k v) Xy)∧St w (Xy++(Ld2++[((b0,#[.slice A n cap,.slice A' m cap'],38):Blk)])) (⟨rwP k v,rwS k v⟩::(Dd2++(⟨fxP (some ⟨g,0,none⟩) n n v0,fxS (some ⟨g,0,none⟩) n v0⟩::[(⟨fxP A n cap vg,fxS A n vg⟩:Hl)]))) wr)
     case atStart=>exact ⟨0,fun _=>Rw.zero,_,[],Nat.zero_le _,rfl,rfl,rfl,jmT (fun j h=>absurd h ZO),jmT OwL.nil,K.rwNew 0⟩
     case round =>
      clear K;obtain ⟨k,v,val,Xy,hk,rfl,rfl,rfl,HV,Ho,K⟩:=hrel;by_cases hlt:k<m
      ·have hki:(k:Int)<(m:Int):=by omega
       have hk0:(0:Int)≤(k:Int):=by omega
       have hltd:decide (k<m)=true:=decide_eq_true hlt;obtain ⟨x,hx⟩:∃x,x=n+k:=⟨_,rfl⟩;have hw1:IntKind.i64.wrap ((n:Int)+(k:Int))=(x:Int):=by rw [IntWalk.i64_in _ ZO];omega
       have HX:=jmT hx;clear hx;go_wp2_with fail;refine (jba 0 Zb4 Zb24 K).mono ?_;rintro e W1 ⟨z0,rfl,gz0,k1⟩;replace K:=k1;clear k1;go_upto_region 21 with (first|(apply K.alloc;rfl;rfl;exact jaj;clear K;intro W b1 K)|(apply K.storeA;rfl;rfl;rfl;rfl;rfl;(exact ZUP);exact jae;rfl;rfl;rfl;clear K;intro W K))
       have gz:=jmT (show isQ z0 0 from by have:=gz0.out;exact this);clear gz0;have cF:=HC2.out _ _ _ K Zb28;obtain ⟨j,hj⟩:∃j,ixI (idxP G1.free x n)=j:=⟨_,rfl⟩;have HJ:=jmT hj;clear hj;go_wp2_with fail;refine (HT2.out _ _ _ K Zb28 x j HJ.out).mono ?_;rintro e W2 ⟨rfl,K2⟩;clear cF K;have K:=K2;clear K2;have cO:=HC1.out _ _ _ K Zb28;have cR:=HGC.out _ _ _ K Zb28;by_cases he:G1.own i=x
       ·have he3:((G1.own i:Nat):Int)=((x:Nat):Int):=by rw [he]
        have he2:(((G1.own i:Nat):Int)==((x:Nat):Int))=true:=by rw [beq_iff_eq];exact he3
        have he4:decide (((G1.own i:Nat):Int)=((x:Nat):Int))=true:=decide_eq_true he3;go_wp2_with fail;refine (jba 1 Zb4 Zb24 K).mono ?_;rintro e W5 ⟨z1,rfl,gz1,k1⟩;replace K:=k1;clear k1;have gz2:=jmT (show isQ z1 1 from by have:=gz1.out;exact this);clear gz1
        have GZ:=jmT (show isQ z1 (yC n G1 i k) from by
         unfold yC;rw [if_pos (by rw [he];exact HX.out)]
         exact gz2.out)
        clear cO cR gz gz2 he he2 he3 he4 HJ;go_upto_region 26 with (first|(apply K.alloc;rfl;rfl;exact jaj;clear K;intro W b1 K)|(apply K.storeA;rfl;rfl;rfl;rfl;rfl;(exact ZUP);exact jae;rfl;rfl;rfl;clear K;intro W K))
        have K2:=K.perm (L':=Xy++(((b1,#[.int .i64 z1.s,.slice z1.A z1.n z1.c,.int .i64 z1.t,.slice z1.B z1.m z1.d],50):Blk)::(Ld2++[((b0,#[.slice A n cap,.slice A' m cap'],38):Blk)]))) Zb21;clear K;have K:=K2;clear K2;have hBb1:=K.blk (b:=b1) (cs:=#[.int .i64 z1.s,.slice z1.A z1.n z1.c,.int .i64 z1.t,.slice z1.B z1.m z1.d]) (t:=50) ZMA;have e0b1:=hBb1.cell (j:=0) rfl;have e1b1:=hBb1.cell (j:=1) rfl;have e2b1:=hBb1.cell (j:=2) rfl;have e3b1:=hBb1.cell (j:=3) rfl;clear hBb1
        go_wp2_with (at_builtin;refine K.app1 Ho.out jax rfl _ _ 23 rfl _ 64 Tryz.underlying23 jaF rfl rfl (z1) _ rfl _ rfl Zb23 Zb3 ZO ?_;clear e0b1 e1b1 e2b1 e3b1;intro v4 X4 W4 ho4 K4)
        rw [jaP] at ho4
        have HV2:=jmT (show ∀j,j<k+1→isQ (putF v k (z1) j) (yC n G1 i j) from fun j hj=>by
         by_cases e:j=k
         ·rw [e,jaf];exact GZ.out
         ·rw [jad e]
          exact HV.out j ZO)
        have Ho2:=jmT ho4;have HK:=jmT ((K4.cutm.rwAdd (v:=v) (n:=k) (z1) ZMB ZMB ZMB).lessS (D':=⟨rwP (k+1) (putF v k (z1)),rwS (k+1) (putF v k (z1))⟩::(Dd2++(⟨fxP (some ⟨g,0,none⟩) n n v0,fxS (some ⟨g,0,none⟩) n v0⟩::[(⟨fxP A n cap vg,fxS A n vg⟩:Hl)]))) Zb10);clear K4 K ho4 HV Ho GZ;go_roundg (m-(k+1))
        case rel=>exact ⟨k+1,_,_,X4,hlt,rfl,rfl,by go_num,HV2,Ho2,HK.out⟩
        case measure=>omega
       ·have he3:¬((G1.own i:Nat):Int)=((x:Nat):Int):=by omega
        have he2:(((G1.own i:Nat):Int)==((x:Nat):Int))=false:=by simpa using he3
        have he4:decide (((G1.own i:Nat):Int)=((x:Nat):Int))=false:=decide_eq_false he3;rcases jcd G1.free x n with ⟨h1,-⟩|⟨kk,h1,h2,-⟩
        ·have hj:=HJ.out;rw [h1] at hj;have hj: -1=j:=hj;subst hj;clear HJ
         have GZ:=jmT (show isQ z0 (yC n G1 i k) from by
          unfold yC;rw [if_neg (by rw [←HX.out];exact he),←HX.out,h1]
          exact gz.out)
         clear gz he h1;go_upto_region 26 with (first|(apply K.alloc;rfl;rfl;exact jaj;clear K;intro W b1 K)|(apply K.storeA;rfl;rfl;rfl;rfl;rfl;(exact ZUP);exact jae;rfl;rfl;rfl;clear K;intro W K))
         have K2:=K.perm (L':=Xy++(((b1,#[.int .i64 z0.s,.slice z0.A z0.n z0.c,.int .i64 z0.t,.slice z0.B z0.m z0.d],50):Blk)::(Ld2++[((b0,#[.slice A n cap,.slice A' m cap'],38):Blk)]))) Zb21;clear K;have K:=K2;clear K2;have hBb1:=K.blk (b:=b1) (cs:=#[.int .i64 z0.s,.slice z0.A z0.n z0.c,.int .i64 z0.t,.slice z0.B z0.m z0.d]) (t:=50) ZMA;have e0b1:=hBb1.cell (j:=0) rfl;have e1b1:=hBb1.cell (j:=1) rfl;have e2b1:=hBb1.cell (j:=2) rfl;have e3b1:=hBb1.cell (j:=3) rfl;clear hBb1
         go_wp2_with (at_builtin;refine K.app1 Ho.out jax rfl _ _ 23 rfl _ 64 Tryz.underlying23 jaF rfl rfl (z0) _ rfl _ rfl Zb23 Zb3 ZO ?_;clear e0b1 e1b1 e2b1 e3b1;intro v4 X4 W4 ho4 K4)
         rw [jaP] at ho4
         have HV2:=jmT (show ∀j,j<k+1→isQ (putF v k (z0) j) (yC n G1 i j) from fun j hj=>by
          by_cases e:j=k
          ·rw [e,jaf];exact GZ.out
          ·rw [jad e]
           exact HV.out j ZO)
         have Ho2:=jmT ho4;have HK:=jmT ((K4.cutm.rwAdd (v:=v) (n:=k) (z0) ZMB ZMB ZMB).lessS (D':=⟨rwP (k+1) (putF v k (z0)),rwS (k+1) (putF v k (z0))⟩::(Dd2++(⟨fxP (some ⟨g,0,none⟩) n n v0,fxS (some ⟨g,0,none⟩) n v0⟩::[(⟨fxP A n cap vg,fxS A n vg⟩:Hl)]))) Zb10);clear K4 K ho4 HV Ho GZ;go_roundg (m-(k+1))
         case rel=>exact ⟨k+1,_,_,X4,hlt,rfl,rfl,by go_num,HV2,Ho2,HK.out⟩
         case measure=>omega
        ·have hj:=HJ.out;rw [h1] at hj;have hj:(kk:Int)=j:=hj;subst hj;clear HJ;have hq0:(0:Int)≤(kk:Int):=by omega
         have hq1:(kk:Int)≥0:=by omega
         have hq2:decide ((kk:Int)≥0)=true:=decide_eq_true hq1;have hq3:(kk:Int)<(n:Int):=by omega
         obtain ⟨hb,hc,rb,cp,y,hy,hcap1,hcap2,hW⟩:=hD2.out.elemU (w0:=w) HIM.out h2;obtain ⟨y1,y2,⟨y3,y4,y5,y6⟩,hK⟩:=hW _ _ _ Zb28 K;replace K:=hK (fun x hx=>jd7 (A:=[_,_,_]) hx);have HY:=jmT hy;clear hy hK
         have GZ:=jmT (show isQ y (yC n G1 i k) from by
          unfold yC;rw [if_neg (by rw [←HX.out];exact he),←HX.out,h1]
          exact HY.out)
         clear gz he h1 HY hW;go_upto_region 26 with (first|(apply K.alloc;rfl;rfl;exact jaj;clear K;intro W b1 K)|(apply K.storeA;rfl;rfl;rfl;rfl;rfl;(exact ZUP);exact jae;rfl;rfl;rfl;clear K;intro W K))
         have K2:=K.perm (L':=Xy++(((b1,#[.int .i64 y.s,.slice y.A y.n y.c,.int .i64 y.t,.slice y.B y.m y.d],50):Blk)::(Ld2++[((b0,#[.slice A n cap,.slice A' m cap'],38):Blk)]))) Zb21;clear K;have K:=K2;clear K2;have hBb1:=K.blk (b:=b1) (cs:=#[.int .i64 y.s,.slice y.A y.n y.c,.int .i64 y.t,.slice y.B y.m y.d]) (t:=50) ZMA;have e0b1:=hBb1.cell (j:=0) rfl;have e1b1:=hBb1.cell (j:=1) rfl;have e2b1:=hBb1.cell (j:=2) rfl;have e3b1:=hBb1.cell (j:=3) rfl;clear hBb1
         go_wp2_with (at_builtin;refine K.app1 Ho.out jax rfl _ _ 23 rfl _ 64 Tryz.underlying23 jaF rfl rfl (y) _ rfl _ rfl Zb23 Zb3 ZO ?_;clear e0b1 e1b1 e2b1 e3b1;intro v4 X4 W4 ho4 K4)
         rw [jaP] at ho4
         have HV2:=jmT (show ∀j,j<k+1→isQ (putF v k (y) j) (yC n G1 i j) from fun j hj=>by
          by_cases e:j=k
          ·rw [e,jaf];exact GZ.out
          ·rw [jad e]
           exact HV.out j ZO)
         have Ho2:=jmT ho4;have HK:=jmT ((K4.cutm.rwAdd (v:=v) (n:=k) (y) ZMB ZMB ZMB).lessS (D':=⟨rwP (k+1) (putF v k (y)),rwS (k+1) (putF v k (y))⟩::(Dd2++(⟨fxP (some ⟨g,0,none⟩) n n v0,fxS (some ⟨g,0,none⟩) n v0⟩::[(⟨fxP A n cap vg,fxS A n vg⟩:Hl)]))) Zb10);clear K4 K ho4 HV Ho GZ;go_roundg (m-(k+1))
         case rel=>exact ⟨k+1,_,_,X4,hlt,rfl,rfl,by go_num,HV2,Ho2,HK.out⟩
         case measure=>omega
      ·have e:m=k:=by omega
       subst e;have hltd:decide (m<m)=false:=decide_eq_false hlt;have hki:¬(m:Int)<(m:Int):=by omega
       obtain ⟨Ao,co,hv,hro⟩:=Ho.out.rdF K ZMB ZO;subst hv;rw [jav (g:=fun j=>fvQ (yC n G1 i j)) (fun j hj=>(HV.out j hj).fv)] at hro;have HP:=jmT (show SolP w m n l ls (.returned (.tuple #[.slice none 0 0,.slice Ao m co,.int .i64 4])) wr from ⟨_,HE.out,⟨_,_,rfl,hro,fun j hj=>(HV.out j hj).2⟩,K.1⟩);clear hro HV Ho K HE;go_wp2_with fail;exact bodyPost_ret (v:=.tuple #[.slice none 0 0,.slice Ao m co,.int .i64 4]) Zb27 rfl HP.out
    ·have HNC:=jmT hp;have K2:=(K.part (L':=[((b0,#[.slice A n cap,.slice A' m cap'],38):Blk)]) (List.sublist_append_right _ _)).less (D':=[(⟨fxP A n cap vg,fxS A n vg⟩:Hl)]) (fun x hx=>List.mem_append_right _ (List.mem_cons_of_mem _ (by simpa using hx)));clear K hq2 hp hD2;have c0:=(K2.blk (b:=b0) (cs:=#[.slice A n cap,.slice A' m cap']) (t:=38) List.mem_cons_self).cell (j:=0) rfl;have c1:=(K2.blk (b:=b0) (cs:=#[.slice A n cap,.slice A' m cap']) (t:=38) List.mem_cons_self).cell (j:=1) rfl;have HO2:=jmT (HOp.out _ _ _ _ _ _ _ K2 List.mem_cons_self HC.out);obtain ⟨G3,hG3⟩:∃G3,G3=opnD n (rwA2 ls) (rwB2 ls false) (fvR l):=⟨_,rfl⟩;have hOk3:G3.Ok m n:=by rw [hG3];exact jgX m n _ _ _
     have HG3:=jmT hG3;clear hG3;go_upto_region 29 with (go_at_call 67;refine HO2.out.mono ?_;rintro e w6 ⟨db3,Ld3,Dd3,rfl,hD3,k5⟩)
     rw [←HG3.out] at hD3;have HS2:=jmT (jee w _ _ _ m n db3 G3 Ld3 Dd3 hD3.out k5 hOk3 ZO ZO);clear k5 K2 c0 c1 cf HO2 HOp hD3;go_upto_region 30 with (go_at_call 68;refine HS2.out.mono ?_;rintro e w7 ⟨r4,s4,b4,G4,Ld4,Dd4,rfl,HD4,hS4,K⟩)
     clear HS2;have HFL:=jmT (fun V L5 D5 (h:St w L5 D5 V) (hs:Ld4.Sublist L5)=>(show V.cell? ⟨db3,5,none⟩=some (.bool b4) from HD4.out.flag (w0:=w) hs V D5 h));cases b4
     case true =>
      obtain ⟨hq4,rfl,rfl⟩:=hS4.out.1 rfl;rw [HG3.out] at hq4;have HP:=jmT (fun V (h:Below w.heap.size w V)=>show SolP w m n l ls (.returned (.tuple #[.slice none 0 0,.slice none 0 0,.int .i64 6])) V from ⟨_,jbw.full2 HQ1.out HNC.out hq4,rfl,h⟩);clear hS4 hq4 HG3 hOk3;go_wp2_with fail
      go_loopg [7,20] 0 (fun gk s7 s20 wr=>gk=0∧s7=.slice none 0 0∧s20=.int .i64 0∧St w (Ld4++[((b0,#[.slice A n cap,.slice A' m cap'],38):Blk)]) (Dd4++[(⟨fxP A n cap vg,fxS A n vg⟩:Hl)]) wr)
      case atStart=>exact ⟨rfl,rfl,rfl,K⟩
      case round =>
       clear K;obtain ⟨rfl,rfl,rfl,K⟩:=hrel;have cf:=HFL.out _ _ _ K Zb28;have HP2:=jmT (HP.out _ K.1);by_cases h0n:0<n
       ·have hni:(0:Int)<(n:Int):=by omega
        have hnd:decide (0<n)=true:=decide_eq_true h0n;go_wp2_with fail;exact bodyPost_ret (v:=.tuple #[.slice none 0 0,.slice none 0 0,.int .i64 6]) Zb27 rfl HP2.out
       ·have hni:¬(0:Int)<(n:Int):=by omega
        have hnd:decide (0<n)=false:=decide_eq_false h0n;go_wp2_with fail;exact bodyPost_ret (v:=.tuple #[.slice none 0 0,.slice none 0 0,.int .i64 6]) Zb27 rfl HP2.out
     obtain ⟨hq4,hq5⟩:=hS4.out.2 rfl;rw [HG3.out] at hq4;have HE:=jmT (jbw.fin HQ1.out HNC.out hq4);clear hS4 hq4 HG3 hOk3 HQ1 HNC HG0 hOk0 HOk1;obtain ⟨A3,k3,hA3,hl3⟩:=HD4.out.ownR (w0:=w) (L:=Ld4) (List.Sublist.refl _);have HA3:=jmT hA3;have HC3:=jmT (fun V L5 D5 (h:St w L5 D5 V) (hs:Ld4.Sublist L5)=>(show V.cell? ⟨db3,3,none⟩=some (.slice A3 m k3) from hl3 _ _ (h.part hs)))
     have HT3:=jmT (fun V L5 D5 (h:St w L5 D5 V) (hs:Ld4.Sublist L5) (x:Nat) (j:Int) (hj:ixI (idxP G4.own x m)=j)=>(show Calls Tryz.prog 69 #[.slice A3 m k3,.int .i64 ((x:Nat):Int)] V (fun e W'=>e=.returned (.int .i64 j)∧St w L5 D5 W') from by
      rw [←hj]
      exact jeN A3 m k3 G4.own x w V L5 D5 h ZO (fun h0=>by
       obtain ⟨g,h1,h2,h3⟩:=HA3.out h0
       exact ⟨g,h1,h2,fun W D K i hi=>h3 W D (K.part hs) i hi⟩)))
     clear hA3 hl3;obtain ⟨A4,k4,hA4,hl4⟩:=HD4.out.freeR (w0:=w) (L:=Ld4) (List.Sublist.refl _);have HA4:=jmT hA4;have HC4:=jmT (fun V L5 D5 (h:St w L5 D5 V) (hs:Ld4.Sublist L5)=>(show V.cell? ⟨db3,4,none⟩=some (.slice A4 n k4) from hl4 _ _ (h.part hs)))
     have HT4:=jmT (fun V L5 D5 (h:St w L5 D5 V) (hs:Ld4.Sublist L5) (x:Nat) (j:Int) (hj:ixI (idxP G4.free x n)=j)=>(show Calls Tryz.prog 69 #[.slice A4 n k4,.int .i64 ((x:Nat):Int)] V (fun e W'=>e=.returned (.int .i64 j)∧St w L5 D5 W') from by
      rw [←hj]
      exact jeN A4 n k4 G4.free x w V L5 D5 h ZO (fun h0=>by
       obtain ⟨g,h1,h2,h3⟩:=HA4.out h0
       exact ⟨g,h1,h2,fun W D K i hi=>h3 W D (K.part hs) i hi⟩)))
     clear hA4 hl4;obtain ⟨u0,u1,u2,u3,u4,hmem⟩:=HD4.out.own9;have HMem:=jmT hmem;clear hmem;rcases jma hq5 with ⟨s0,hp,rfl,he⟩|⟨rfl,he⟩
     ·
      rw [he] at HE;have hs0:s0<n:=(Dc.pick_endless hp).1;have HS0:=jmT hs0;have hi0:(0:Int)≤(s0:Int):=by omega
      have hi1:(s0:Int)≥0:=by omega
      have hi2:decide ((s0:Int)≥0)=true:=decide_eq_true hi1;have hi3:(s0:Int)<(n:Int):=by omega
      have hi4:¬(s0:Int)<0:=by omega
      have hi5:decide ((s0:Int)<0)=false:=decide_eq_false hi4;obtain ⟨go,hgo,hcg,hgc⟩:=HA4.out ZO;subst hgo;have HGC:=jmT (fun V L5 D5 (h:St w L5 D5 V) (hs:Ld4.Sublist L5)=>hgc _ _ (h.part hs) s0 HS0.out);clear hgc HA3 HA4 hq5 hp he hs0;go_wp2_with fail
      go_loopg [7,20] n (fun gk s7 s20 wr=>∃(k:Nat) (v:Nat→Rw) (val:Value) (Xy:List Blk),k≤n∧gk=n-k∧s7=val∧s20=.int .i64 k∧Hid (∀j,j<k→isQ (v j) (xR m G4 s0 j))∧Hid (OwL 4 Rw.cs 50 val (ofF k v) Xy)∧St w (Xy++(Ld4++[((b0,#[.slice A n cap,.slice A' m cap'],38):Blk)])) (⟨rwP k v,rwS k v⟩::(Dd4++[(⟨fxP A n cap vg,fxS A n vg⟩:Hl)])) wr)
      case atStart=>exact ⟨0,fun _=>Rw.zero,_,[],Nat.zero_le _,rfl,rfl,rfl,jmT (fun j h=>absurd h ZO),jmT OwL.nil,K.rwNew 0⟩
      case round =>
       clear K;obtain ⟨k,v,val,Xy,hk,rfl,rfl,rfl,HV,Ho,K⟩:=hrel;have cf:=HFL.out _ _ _ K Zb28;by_cases hlt:k<n
       ·have hki:(k:Int)<(n:Int):=by omega
        have hk0:(0:Int)≤(k:Int):=by omega
        have hltd:decide (k<n)=true:=decide_eq_true hlt;go_wp2_with fail;refine (jba 0 Zb4 Zb24 K).mono ?_;rintro e W1 ⟨z0,rfl,gz0,k1⟩;replace K:=k1;clear k1;go_upto_region 34 with (first|(apply K.alloc;rfl;rfl;exact jaj;clear K;intro W b1 K)|(apply K.storeA;rfl;rfl;rfl;rfl;rfl;(exact ZUP);exact jae;rfl;rfl;rfl;clear K;intro W K))
        have gz:=jmT (show isQ z0 0 from by have:=gz0.out;exact this);clear gz0;clear cf;have cF:=HC3.out _ _ _ K Zb28;obtain ⟨j,hj⟩:∃j,ixI (idxP G4.own k m)=j:=⟨_,rfl⟩;have HJ:=jmT hj;clear hj;go_wp2_with fail;refine (HT3.out _ _ _ K Zb28 k j HJ.out).mono ?_;rintro e W2 ⟨rfl,K2⟩;clear cF K;have K:=K2;clear K2;have cO:=HC4.out _ _ _ K Zb28;have cR:=HGC.out _ _ _ K Zb28;by_cases he:G4.free s0=k
        ·have he3:((G4.free s0:Nat):Int)=((k:Nat):Int):=by rw [he]
         have he2:(((G4.free s0:Nat):Int)==((k:Nat):Int))=true:=by rw [beq_iff_eq];exact he3
         have he4:decide (((G4.free s0:Nat):Int)=((k:Nat):Int))=true:=decide_eq_true he3;go_wp2_with fail;refine (jba 1 Zb4 Zb24 K).mono ?_;rintro e W5 ⟨z1,rfl,gz1,k1⟩;replace K:=k1;clear k1;have gz2:=jmT (show isQ z1 1 from by have:=gz1.out;exact this);clear gz1
         have GZ:=jmT (show isQ z1 (xR m G4 s0 k) from by
          unfold xR;rw [if_pos he]
          exact gz2.out)
         clear cO cR gz gz2 he he2 he3 he4 HJ;go_upto_region 43 with (first|(apply K.alloc;rfl;rfl;exact jaj;clear K;intro W b1 K)|(apply K.storeA;rfl;rfl;rfl;rfl;rfl;(exact ZUP);exact jae;rfl;rfl;rfl;clear K;intro W K))
         have K2:=K.perm (L':=Xy++(((b1,#[.int .i64 z1.s,.slice z1.A z1.n z1.c,.int .i64 z1.t,.slice z1.B z1.m z1.d],50):Blk)::(Ld4++[((b0,#[.slice A n cap,.slice A' m cap'],38):Blk)]))) Zb21;clear K;have K:=K2;clear K2;have hBb1:=K.blk (b:=b1) (cs:=#[.int .i64 z1.s,.slice z1.A z1.n z1.c,.int .i64 z1.t,.slice z1.B z1.m z1.d]) (t:=50) ZMA;have e0b1:=hBb1.cell (j:=0) rfl;have e1b1:=hBb1.cell (j:=1) rfl;have e2b1:=hBb1.cell (j:=2) rfl;have e3b1:=hBb1.cell (j:=3) rfl;clear hBb1
         go_wp2_with (at_builtin;refine K.app1 Ho.out jax rfl _ _ 23 rfl _ 64 Tryz.underlying23 jaF rfl rfl (z1) _ rfl _ rfl Zb23 Zb3 ZO ?_;clear e0b1 e1b1 e2b1 e3b1;intro v4 X4 W4 ho4 K4)
         rw [jaP] at ho4
         have HV2:=jmT (show ∀j,j<k+1→isQ (putF v k (z1) j) (xR m G4 s0 j) from fun j hj=>by
          by_cases e:j=k
          ·rw [e,jaf];exact GZ.out
          ·rw [jad e]
           exact HV.out j ZO)
         have Ho2:=jmT ho4;have HK:=jmT ((K4.cutm.rwAdd (v:=v) (n:=k) (z1) ZMB ZMB ZMB).lessS (D':=⟨rwP (k+1) (putF v k (z1)),rwS (k+1) (putF v k (z1))⟩::(Dd4++[(⟨fxP A n cap vg,fxS A n vg⟩:Hl)])) Zb10);clear K4 K ho4 HV Ho GZ;go_roundg (n-(k+1))
         case rel=>exact ⟨k+1,_,_,X4,hlt,rfl,rfl,by go_num,HV2,Ho2,HK.out⟩
         case measure=>omega
        ·have he3:¬((G4.free s0:Nat):Int)=((k:Nat):Int):=by omega
         have he2:(((G4.free s0:Nat):Int)==((k:Nat):Int))=false:=by simpa using he3
         have he4:decide (((G4.free s0:Nat):Int)=((k:Nat):Int))=false:=decide_eq_false he3;rcases jcd G4.own k m with ⟨h1,-⟩|⟨kk,h1,h2,-⟩
         ·have hj:=HJ.out;rw [h1] at hj;have hj: -1=j:=hj;subst hj;clear HJ
          have GZ:=jmT (show isQ z0 (xR m G4 s0 k) from by
           unfold xR;rw [if_neg he,h1]
           exact gz.out)
          clear gz he h1;go_upto_region 43 with (first|(apply K.alloc;rfl;rfl;exact jaj;clear K;intro W b1 K)|(apply K.storeA;rfl;rfl;rfl;rfl;rfl;(exact ZUP);exact jae;rfl;rfl;rfl;clear K;intro W K))
          have K2:=K.perm (L':=Xy++(((b1,#[.int .i64 z0.s,.slice z0.A z0.n z0.c,.int .i64 z0.t,.slice z0.B z0.m z0.d],50):Blk)::(Ld4++[((b0,#[.slice A n cap,.slice A' m cap'],38):Blk)]))) Zb21;clear K;have K:=K2;clear K2;have hBb1:=K.blk (b:=b1) (cs:=#[.int .i64 z0.s,.slice z0.A z0.n z0.c,.int .i64 z0.t,.slice z0.B z0.m z0.d]) (t:=50) ZMA;have e0b1:=hBb1.cell (j:=0) rfl;have e1b1:=hBb1.cell (j:=1) rfl;have e2b1:=hBb1.cell (j:=2) rfl;have e3b1:=hBb1.cell (j:=3) rfl;clear hBb1
          go_wp2_with (at_builtin;refine K.app1 Ho.out jax rfl _ _ 23 rfl _ 64 Tryz.underlying23 jaF rfl rfl (z0) _ rfl _ rfl Zb23 Zb3 ZO ?_;clear e0b1 e1b1 e2b1 e3b1;intro v4 X4 W4 ho4 K4)
          rw [jaP] at ho4
          have HV2:=jmT (show ∀j,j<k+1→isQ (putF v k (z0) j) (xR m G4 s0 j) from fun j hj=>by
           by_cases e:j=k
           ·rw [e,jaf];exact GZ.out
           ·rw [jad e]
            exact HV.out j ZO)
          have Ho2:=jmT ho4;have HK:=jmT ((K4.cutm.rwAdd (v:=v) (n:=k) (z0) ZMB ZMB ZMB).lessS (D':=⟨rwP (k+1) (putF v k (z0)),rwS (k+1) (putF v k (z0))⟩::(Dd4++[(⟨fxP A n cap vg,fxS A n vg⟩:Hl)])) Zb10);clear K4 K ho4 HV Ho GZ;go_roundg (n-(k+1))
          case rel=>exact ⟨k+1,_,_,X4,hlt,rfl,rfl,by go_num,HV2,Ho2,HK.out⟩
          case measure=>omega
         ·have hj:=HJ.out;rw [h1] at hj;have hj:(kk:Int)=j:=hj;subst hj;clear HJ;have hq0:(0:Int)≤(kk:Int):=by omega
          have hq1:(kk:Int)≥0:=by omega
          have hq2:decide ((kk:Int)≥0)=true:=decide_eq_true hq1;have hq3:(kk:Int)<(m:Int):=by omega
          obtain ⟨hb,hc,rb,cp,y,hy,hcap1,hcap2,hW⟩:=HD4.out.elemU (w0:=w) h2 HS0.out;obtain ⟨y1,y2,⟨y3,y4,y5,y6⟩,hK⟩:=hW _ _ _ Zb28 K;replace K:=hK (fun x hx=>jd7 (A:=[_,_,_]) hx);have HY:=jmT hy;clear hy hK;go_upto_region 41 with fail;refine ZPT ?_
          go_cut [23] from 160 to 173 (fun p wx=>∃(g:Nat) (z1:Rw),p=.pointer (some ⟨g,0,none⟩)∧Hid (isQ z1 (0-G4.a kk s0))∧St w ((g,#[.int .i64 z1.s,.slice z1.A z1.n z1.c,.int .i64 z1.t,.slice z1.B z1.m z1.d],50)::((b1,#[.int .i64 z0.s,.slice z0.A z0.n z0.c,.int .i64 z0.t,.slice z0.B z0.m z0.d],50):Blk)::(Xy++(Ld4++[((b0,#[.slice A n cap,.slice A' m cap'],38):Blk)]))) (⟨rdP z1.B z1.m z1.d z1.k,rdS z1.B z1.m⟩::⟨rdP z1.A z1.n z1.c z1.l,rdS z1.A z1.n⟩::⟨rdP y.B y.m y.d y.k,rdS y.B y.m⟩::⟨rdP y.A y.n y.c y.l,rdS y.A y.n⟩::⟨rdP z0.B z0.m z0.d z0.k,rdS z0.B z0.m⟩::⟨rdP z0.A z0.n z0.c z0.l,rdS z0.A z0.n⟩::⟨rwP k v,rwS k v⟩::(Dd4++[(⟨fxP A n cap vg,fxS A n vg⟩:Hl)])) wx)
          case first =>
           have HS:=jmT (fun V L5 D5 (h:St w L5 D5 V) (hs:Ld4.Sublist L5)=>(show V.cell? ⟨db3,1,none⟩=some (.slice (some ⟨hb,0,none⟩) m hc)∧V.cell? ⟨hb,kk,none⟩=some (.slice (some ⟨rb,0,none⟩) n cp)∧(V.cell? ⟨rb,s0*4,none⟩=some (.int .i64 y.s)∧V.cell? ⟨rb,s0*4+1,none⟩=some (.slice y.A y.n y.c)∧V.cell? ⟨rb,s0*4+2,none⟩=some (.int .i64 y.t)∧V.cell? ⟨rb,s0*4+3,none⟩=some (.slice y.B y.m y.d)) from ⟨(hW _ _ _ hs h).1,(hW _ _ _ hs h).2.1,(hW _ _ _ hs h).2.2.1⟩))
           have HCal:=jmT (fun V L5 D5 (h:St w L5 D5 V) (hs:Ld4.Sublist L5) (X Y:Rw) (hX:isQ X ((0:Int):Rat)) (hY:isQ Y ((1:Int):Rat)) m1 m2 m3 m4 m5 m6=>(show Calls Tryz.prog 70 #[.pointer (some ⟨db3,0,none⟩),.agg #[.int .i64 X.s,.slice X.A X.n X.c,.int .i64 X.t,.slice X.B X.m X.d],.agg #[.int .i64 Y.s,.slice Y.A Y.n Y.c,.int .i64 Y.t,.slice Y.B Y.m Y.d],.agg #[.int .i64 y.s,.slice y.A y.n y.c,.int .i64 y.t,.slice y.B y.m y.d]] V (FrD w L5 D5 (0-G4.a kk s0)) from by
            have h2:=jcf w V L5 L5 D5 db3 u0 u1 u2 u3 u4 false false X Y y 0 1 (G4.a kk s0) h (Upd.ofMem (hs.subset HMem.out)) hX hY HY.out m1 m2 m3 m4 m5 m6 (by rw [jdr HY.out.2];rfl);rw [if_pos (jdr HY.out.2),Rat.one_mul] at h2
            exact h2))
           have K0:=K.drew;have sz:=HS.out _ _ _ K0 Zb28;clear K;refine jbm 15 (fun V=>V.cell? ⟨db3,1,none⟩=some (.slice (some ⟨hb,0,none⟩) m hc)∧V.cell? ⟨hb,kk,none⟩=some (.slice (some ⟨rb,0,none⟩) n cp)∧(V.cell? ⟨rb,s0*4,none⟩=some (.int .i64 y.s)∧V.cell? ⟨rb,s0*4+1,none⟩=some (.slice y.A y.n y.c)∧V.cell? ⟨rb,s0*4+2,none⟩=some (.int .i64 y.t)∧V.cell? ⟨rb,s0*4+3,none⟩=some (.slice y.B y.m y.d))) Zb9 sz (fun hSh=>?_);clear sz;generalize World.drew _=X0 at K0 hSh ⊢;refine jac.tkU 0 rfl ?_;refine jac.tkU 3 rfl ?_;refine jac.tkU 4 rfl ?_;refine jac.tkU 5 rfl ?_;refine jac.tk 6 rfl ?_;refine jac.tkU 7 rfl ?_;refine jac.tkU 8 rfl ?_;refine jac.tk 9 rfl ?_;refine jac.tkU 10 rfl ?_;refine jac.tkU 11 rfl ?_;refine jac.tk 12 rfl ?_;refine jac.two (i:=1) (j:=14) rfl rfl rfl rfl Zb9 (fun KK hKK=>?_) (fun KK hKK=>?_)
           focus
            go_simp;go_at_call 66;refine (jba 0 Zb4 Zb24 K0).mono ?_;rintro e X1 ⟨o0,rfl,go0,k1⟩;go_wp2_with fail;refine hKK.out _ _ (fun _=>HS.out _ _ _ k1 Zb28) (fun hSq=>?_);have hSh:=HS.out _ _ _ k1 Zb28;clear hKK KK hSq;refine ZPT ?_;refine jac.two (i:=2) (j:=14) rfl rfl rfl rfl Zb9 (fun KK hKK=>?_) (fun KK hKK=>?_)
            focus
             go_simp;go_at_call 66;refine (jba 1 Zb4 Zb24 k1).mono ?_;rintro e X2 ⟨o1,rfl,go1,k2⟩;go_wp2_with fail;refine hKK.out _ _ (fun _=>HS.out _ _ _ k2 Zb28) (fun hSq=>?_);have hSh:=HS.out _ _ _ k2 Zb28;clear hKK KK hSq;refine ZPT ?_;refine jac.two (i:=13) (j:=14) rfl rfl rfl rfl Zb9 (fun KK hKK=>?_) (fun KK hKK=>?_)
             focus
              go_simp;go_at_call 70;refine (HCal.out _ _ _ k2 Zb28 _ _ go0.out go1.out ZMB ZMB ZMB ZMB ZMB ZMB).mono ?_;rintro e X3 ⟨z1,rfl,gz1,k3⟩;go_wp2_with fail;refine hKK.out _ _ (fun _=>HS.out _ _ _ k3 Zb28) (fun hSq=>?_);have hSh:=HS.out _ _ _ k3 Zb28;clear hKK KK hSq;refine ZPT ?_;refine jac.on 14 rfl fun KK hKK=>?_
              go_simp;have k4:=k3.new #[.int .i64 0,.slice none 0 0,.int .i64 0,.slice none 0 0] 50;generalize X3.alloc (.cells #[.int .i64 0,.slice none 0 0,.int .i64 0,.slice none 0 0] 50)=X4 at k4 ⊢;generalize X3.heap.size=g9 at k4 ⊢;refine hKK.out _ _ (fun _=>HS.out _ _ _ k4 Zb28) (fun hSq=>?_);have hSh:=HS.out _ _ _ k4 Zb28;clear hKK KK hSq;refine ZPT ?_;have kz:=k4;clear k4 k3 k2 k1 K0
             rotate_right
             focus
              go_simp;have k3:=k2.new #[.int .i64 0,.slice none 0 0,.int .i64 0,.slice none 0 0] 50;generalize X2.alloc (.cells #[.int .i64 0,.slice none 0 0,.int .i64 0,.slice none 0 0] 50)=X3 at k3 ⊢;generalize X2.heap.size=g9 at k3 ⊢;refine hKK.out _ _ (fun _=>HS.out _ _ _ k3 Zb28) (fun hSq=>?_);have hSh:=HS.out _ _ _ k3 Zb28;clear hKK KK hSq;refine ZPT ?_;refine jac.on 13 rfl fun KK hKK=>?_
              go_simp;go_at_call 70;refine (HCal.out _ _ _ k3 Zb28 _ _ go0.out go1.out ZMB ZMB ZMB ZMB ZMB ZMB).mono ?_;rintro e X4 ⟨z1,rfl,gz1,k4⟩;go_wp2_with fail;refine hKK.out _ _ (fun _=>HS.out _ _ _ k4 Zb28) (fun hSq=>?_);have hSh:=HS.out _ _ _ k4 Zb28;clear hKK KK hSq;refine ZPT ?_;have kz:=k4;clear k4 k3 k2 k1 K0
            rotate_right
            focus
             go_simp;have k2:=k1.new #[.int .i64 0,.slice none 0 0,.int .i64 0,.slice none 0 0] 50;generalize X1.alloc (.cells #[.int .i64 0,.slice none 0 0,.int .i64 0,.slice none 0 0] 50)=X2 at k2 ⊢;generalize X1.heap.size=g9 at k2 ⊢;refine hKK.out _ _ (fun _=>HS.out _ _ _ k2 Zb28) (fun hSq=>?_);have hSh:=HS.out _ _ _ k2 Zb28;clear hKK KK hSq;refine ZPT ?_;refine jac.on 2 rfl fun KK hKK=>?_
             go_simp;go_at_call 66;refine (jba 1 Zb4 Zb24 k2).mono ?_;rintro e X3 ⟨o1,rfl,go1,k3⟩;go_wp2_with fail;refine hKK.out _ _ (fun _=>HS.out _ _ _ k3 Zb28) (fun hSq=>?_);have hSh:=HS.out _ _ _ k3 Zb28;clear hKK KK hSq;refine ZPT ?_;refine jac.on 13 rfl fun KK hKK=>?_
             go_simp;go_at_call 70;refine (HCal.out _ _ _ k3 Zb28 _ _ go0.out go1.out ZMB ZMB ZMB ZMB ZMB ZMB).mono ?_;rintro e X4 ⟨z1,rfl,gz1,k4⟩;go_wp2_with fail;refine hKK.out _ _ (fun _=>HS.out _ _ _ k4 Zb28) (fun hSq=>?_);have hSh:=HS.out _ _ _ k4 Zb28;clear hKK KK hSq;refine ZPT ?_;have kz:=k4;clear k4 k3 k2 k1 K0
           rotate_right
           focus
            go_simp;have k1:=K0.new #[.int .i64 0,.slice none 0 0,.int .i64 0,.slice none 0 0] 50;generalize X0.alloc (.cells #[.int .i64 0,.slice none 0 0,.int .i64 0,.slice none 0 0] 50)=X1 at k1 ⊢;generalize X0.heap.size=g9 at k1 ⊢;refine hKK.out _ _ (fun _=>HS.out _ _ _ k1 Zb28) (fun hSq=>?_);have hSh:=HS.out _ _ _ k1 Zb28;clear hKK KK hSq;refine ZPT ?_;refine jac.on 1 rfl fun KK hKK=>?_
            go_simp;go_at_call 66;refine (jba 0 Zb4 Zb24 k1).mono ?_;rintro e X2 ⟨o0,rfl,go0,k2⟩;go_wp2_with fail;refine hKK.out _ _ (fun _=>HS.out _ _ _ k2 Zb28) (fun hSq=>?_);have hSh:=HS.out _ _ _ k2 Zb28;clear hKK KK hSq;refine ZPT ?_;refine jac.on 2 rfl fun KK hKK=>?_
            go_simp;go_at_call 66;refine (jba 1 Zb4 Zb24 k2).mono ?_;rintro e X3 ⟨o1,rfl,go1,k3⟩;go_wp2_with fail;refine hKK.out _ _ (fun _=>HS.out _ _ _ k3 Zb28) (fun hSq=>?_);have hSh:=HS.out _ _ _ k3 Zb28;clear hKK KK hSq;refine ZPT ?_;refine jac.on 13 rfl fun KK hKK=>?_
            go_simp;go_at_call 70;refine (HCal.out _ _ _ k3 Zb28 _ _ go0.out go1.out ZMB ZMB ZMB ZMB ZMB ZMB).mono ?_;rintro e X4 ⟨z1,rfl,gz1,k4⟩;go_wp2_with fail;refine hKK.out _ _ (fun _=>HS.out _ _ _ k4 Zb28) (fun hSq=>?_);have hSh:=HS.out _ _ _ k4 Zb28;clear hKK KK hSq;refine ZPT ?_;have kz:=k4;clear k4 k3 k2 k1 K0
           all_goals
            refine jac.onF 15 rfl fun KK hKK=>?_
            have r:=kz.rawS;have zz:=kz.thaw (g:=g9) (cs:=#[.int .i64 0,.slice none 0 0,.int .i64 0,.slice none 0 0]) (t:=50) ZMB;go_simp;have K9:=kz.set4Z (b:=g9) (t:=50) (x0:=.int .i64 0) (x1:=.slice none 0 0) (x2:=.int .i64 0) (x3:=.slice none 0 0) (u0:=.int .i64 z1.s) (u1:=.slice z1.A z1.n z1.c) (u2:=.int .i64 z1.t) (u3:=.slice z1.B z1.m z1.d) (Upd.head _);refine hKK.out _ _ ?_;clear hKK KK r zz;refine ZPT ?_;refine ⟨by kernel_rfl,?_⟩;generalize ((((X4.setCell ⟨g9,0,none⟩ (.int .i64 z1.s)).setCell ⟨g9,1,none⟩ (.slice z1.A z1.n z1.c)).setCell ⟨g9,2,none⟩ (.int .i64 z1.t)).setCell ⟨g9,3,none⟩ (.slice z1.B z1.m z1.d))=W9 at K9 ⊢;clear kz hSh HS HCal;have K:=K9;clear K9;go_wp2_with fail;go_meet;exact ⟨_,z1,rfl,gz1,K.lessS Zb10⟩
          clear K;obtain ⟨gy,z1,rfl,gz1,K⟩:=hcut;have hBgy:=K.blk (b:=gy) (cs:=#[.int .i64 z1.s,.slice z1.A z1.n z1.c,.int .i64 z1.t,.slice z1.B z1.m z1.d]) (t:=50) ZMA;have e0gy:=hBgy.cell (j:=0) rfl;have e1gy:=hBgy.cell (j:=1) rfl;have e2gy:=hBgy.cell (j:=2) rfl;have e3gy:=hBgy.cell (j:=3) rfl;clear hBgy
          have GZ:=jmT (show isQ z1 (xR m G4 s0 k) from by
           unfold xR;rw [if_neg he,h1]
           exact gz1.out)
          clear gz he h1 HY hW gz1 cO cR he2 he3 he4;go_upto_region 43 with (first|(apply K.alloc;rfl;rfl;exact jaj;clear K;intro W b1 K)|(apply K.storeA;rfl;rfl;rfl;rfl;rfl;(exact ZUP);exact jae;rfl;rfl;rfl;clear K;intro W K))
          clear e0gy e1gy e2gy e3gy;have K2:=(K.part (List.sublist_cons_self _ _)).lessS (D':=⟨rdP z1.B z1.m z1.d z1.k,rdS z1.B z1.m⟩::⟨rdP z1.A z1.n z1.c z1.l,rdS z1.A z1.n⟩::⟨rwP k v,rwS k v⟩::(Dd4++[(⟨fxP A n cap vg,fxS A n vg⟩:Hl)])) Zb10;clear K;have K:=K2;clear K2;go_upto_region 43 with (first|(apply K.alloc;rfl;rfl;exact jaj;clear K;intro W b1 K)|(apply K.storeA;rfl;rfl;rfl;rfl;rfl;(exact ZUP);exact jae;rfl;rfl;rfl;clear K;intro W K))
          have K2:=K.perm (L':=Xy++(((b1,#[.int .i64 z1.s,.slice z1.A z1.n z1.c,.int .i64 z1.t,.slice z1.B z1.m z1.d],50):Blk)::(Ld4++[((b0,#[.slice A n cap,.slice A' m cap'],38):Blk)]))) Zb21;clear K;have K:=K2;clear K2;have hBb1:=K.blk (b:=b1) (cs:=#[.int .i64 z1.s,.slice z1.A z1.n z1.c,.int .i64 z1.t,.slice z1.B z1.m z1.d]) (t:=50) ZMA;have e0b1:=hBb1.cell (j:=0) rfl;have e1b1:=hBb1.cell (j:=1) rfl;have e2b1:=hBb1.cell (j:=2) rfl;have e3b1:=hBb1.cell (j:=3) rfl;clear hBb1
          go_wp2_with (at_builtin;refine K.app1 Ho.out jax rfl _ _ 23 rfl _ 64 Tryz.underlying23 jaF rfl rfl (z1) _ rfl _ rfl Zb23 Zb3 ZO ?_;clear e0b1 e1b1 e2b1 e3b1;intro v4 X4 W4 ho4 K4)
          rw [jaP] at ho4
          have HV2:=jmT (show ∀j,j<k+1→isQ (putF v k (z1) j) (xR m G4 s0 j) from fun j hj=>by
           by_cases e:j=k
           ·rw [e,jaf];exact GZ.out
           ·rw [jad e]
            exact HV.out j ZO)
          have Ho2:=jmT ho4;have HK:=jmT ((K4.cutm.rwAdd (v:=v) (n:=k) (z1) ZMB ZMB ZMB).lessS (D':=⟨rwP (k+1) (putF v k (z1)),rwS (k+1) (putF v k (z1))⟩::(Dd4++[(⟨fxP A n cap vg,fxS A n vg⟩:Hl)])) Zb10);clear K4 K ho4 HV Ho GZ;go_roundg (n-(k+1))
          case rel=>exact ⟨k+1,_,_,X4,hlt,rfl,rfl,by go_num,HV2,Ho2,HK.out⟩
          case measure=>omega
       ·have e:n=k:=by omega
        subst e;have hltd:decide (n<n)=false:=decide_eq_false hlt;have hki:¬(n:Int)<(n:Int):=by omega
        obtain ⟨Ao,co,hv,hro⟩:=Ho.out.rdF K ZMB ZO;subst hv;rw [jav (g:=fun j=>fvQ (xR m G4 s0 j)) (fun j hj=>(HV.out j hj).fv)] at hro;have HP:=jmT (show SolP w m n l ls (.returned (.tuple #[.slice Ao n co,.slice none 0 0,.int .i64 3])) wr from ⟨_,HE.out,⟨_,_,rfl,hro,fun j hj=>(HV.out j hj).2⟩,K.1⟩);clear hro HV Ho K HE;go_wp2_with fail;exact bodyPost_ret (v:=.tuple #[.slice Ao n co,.slice none 0 0,.int .i64 3]) Zb27 rfl HP.out
     ·rw [he] at HE;clear HA3 HA4 hq5 he;go_wp2_with fail
      go_loopg [7,20] n (fun gk s7 s20 wr=>∃(k:Nat) (v:Nat→Rw) (val:Value) (Xy:List Blk),k≤n∧gk=n-k∧s7=val∧s20=.int .i64 k∧Hid (∀j,j<k→isQ (v j) (xB m G4 j))∧Hid (OwL 4 Rw.cs 50 val (ofF k v) Xy)∧St w (Xy++(Ld4++[((b0,#[.slice A n cap,.slice A' m cap'],38):Blk)])) (⟨rwP k v,rwS k v⟩::(Dd4++[(⟨fxP A n cap vg,fxS A n vg⟩:Hl)])) wr)
      case atStart=>exact ⟨0,fun _=>Rw.zero,_,[],Nat.zero_le _,rfl,rfl,rfl,jmT (fun j h=>absurd h ZO),jmT OwL.nil,K.rwNew 0⟩
      case round =>
       clear K;obtain ⟨k,v,val,Xy,hk,rfl,rfl,rfl,HV,Ho,K⟩:=hrel;have cf:=HFL.out _ _ _ K Zb28;by_cases hlt:k<n
       ·have hki:(k:Int)<(n:Int):=by omega
        have hk0:(0:Int)≤(k:Int):=by omega
        have hltd:decide (k<n)=true:=decide_eq_true hlt;go_wp2_with fail;refine (jba 0 Zb4 Zb24 K).mono ?_;rintro e W1 ⟨z0,rfl,gz0,k1⟩;replace K:=k1;clear k1;go_upto_region 34 with (first|(apply K.alloc;rfl;rfl;exact jaj;clear K;intro W b1 K)|(apply K.storeA;rfl;rfl;rfl;rfl;rfl;(exact ZUP);exact jae;rfl;rfl;rfl;clear K;intro W K))
        have gz:=jmT (show isQ z0 0 from by have:=gz0.out;exact this);clear gz0;clear cf;have cF:=HC3.out _ _ _ K Zb28;obtain ⟨j,hj⟩:∃j,ixI (idxP G4.own k m)=j:=⟨_,rfl⟩;have HJ:=jmT hj;clear hj;go_wp2_with fail;refine (HT3.out _ _ _ K Zb28 k j HJ.out).mono ?_;rintro e W2 ⟨rfl,K2⟩;clear cF K;have K:=K2;clear K2;rcases jcd G4.own k m with ⟨h1,-⟩|⟨kk,h1,h2,-⟩
        ·have hj:=HJ.out;rw [h1] at hj;have hj: -1=j:=hj;subst hj;clear HJ
         have GZ:=jmT (show isQ z0 (xB m G4 k) from by
          unfold xB;rw [h1]
          exact gz.out)
         clear gz h1;go_upto_region 43 with (first|(apply K.alloc;rfl;rfl;exact jaj;clear K;intro W b1 K)|(apply K.storeA;rfl;rfl;rfl;rfl;rfl;(exact ZUP);exact jae;rfl;rfl;rfl;clear K;intro W K))
         have K2:=K.perm (L':=Xy++(((b1,#[.int .i64 z0.s,.slice z0.A z0.n z0.c,.int .i64 z0.t,.slice z0.B z0.m z0.d],50):Blk)::(Ld4++[((b0,#[.slice A n cap,.slice A' m cap'],38):Blk)]))) Zb21;clear K;have K:=K2;clear K2;have hBb1:=K.blk (b:=b1) (cs:=#[.int .i64 z0.s,.slice z0.A z0.n z0.c,.int .i64 z0.t,.slice z0.B z0.m z0.d]) (t:=50) ZMA;have e0b1:=hBb1.cell (j:=0) rfl;have e1b1:=hBb1.cell (j:=1) rfl;have e2b1:=hBb1.cell (j:=2) rfl;have e3b1:=hBb1.cell (j:=3) rfl;clear hBb1
         go_wp2_with (at_builtin;refine K.app1 Ho.out jax rfl _ _ 23 rfl _ 64 Tryz.underlying23 jaF rfl rfl (z0) _ rfl _ rfl Zb23 Zb3 ZO ?_;clear e0b1 e1b1 e2b1 e3b1;intro v4 X4 W4 ho4 K4)
         rw [jaP] at ho4
         have HV2:=jmT (show ∀j,j<k+1→isQ (putF v k (z0) j) (xB m G4 j) from fun j hj=>by
          by_cases e:j=k
          ·rw [e,jaf];exact GZ.out
          ·rw [jad e]
           exact HV.out j ZO)
         have Ho2:=jmT ho4;have HK:=jmT ((K4.cutm.rwAdd (v:=v) (n:=k) (z0) ZMB ZMB ZMB).lessS (D':=⟨rwP (k+1) (putF v k (z0)),rwS (k+1) (putF v k (z0))⟩::(Dd4++[(⟨fxP A n cap vg,fxS A n vg⟩:Hl)])) Zb10);clear K4 K ho4 HV Ho GZ;go_roundg (n-(k+1))
         case rel=>exact ⟨k+1,_,_,X4,hlt,rfl,rfl,by go_num,HV2,Ho2,HK.out⟩
         case measure=>omega
        ·have hj:=HJ.out;rw [h1] at hj;have hj:(kk:Int)=j:=hj;subst hj;clear HJ;have hq0:(0:Int)≤(kk:Int):=by omega
         have hq1:(kk:Int)≥0:=by omega
         have hq2:decide ((kk:Int)≥0)=true:=decide_eq_true hq1;have hq3:(kk:Int)<(m:Int):=by omega
         obtain ⟨vb,vc,y,hy,hcap1,hW⟩:=HD4.out.valU (w0:=w) h2;obtain ⟨y1,⟨y3,y4,y5,y6⟩,hK⟩:=hW _ _ _ Zb28 K;replace K:=hK (fun x hx=>jd7 (A:=[_,_,_]) hx)
         have GZ:=jmT (show isQ y (xB m G4 k) from by
          unfold xB;rw [h1]
          exact hy)
         clear gz h1 hW hy hK;go_upto_region 43 with (first|(apply K.alloc;rfl;rfl;exact jaj;clear K;intro W b1 K)|(apply K.storeA;rfl;rfl;rfl;rfl;rfl;(exact ZUP);exact jae;rfl;rfl;rfl;clear K;intro W K))
         have K2:=K.perm (L':=Xy++(((b1,#[.int .i64 y.s,.slice y.A y.n y.c,.int .i64 y.t,.slice y.B y.m y.d],50):Blk)::(Ld4++[((b0,#[.slice A n cap,.slice A' m cap'],38):Blk)]))) Zb21;clear K;have K:=K2;clear K2;have hBb1:=K.blk (b:=b1) (cs:=#[.int .i64 y.s,.slice y.A y.n y.c,.int .i64 y.t,.slice y.B y.m y.d]) (t:=50) ZMA;have e0b1:=hBb1.cell (j:=0) rfl;have e1b1:=hBb1.cell (j:=1) rfl;have e2b1:=hBb1.cell (j:=2) rfl;have e3b1:=hBb1.cell (j:=3) rfl;clear hBb1
         go_wp2_with (at_builtin;refine K.app1 Ho.out jax rfl _ _ 23 rfl _ 64 Tryz.underlying23 jaF rfl rfl (y) _ rfl _ rfl Zb23 Zb3 ZO ?_;clear e0b1 e1b1 e2b1 e3b1;intro v4 X4 W4 ho4 K4)
         rw [jaP] at ho4
         have HV2:=jmT (show ∀j,j<k+1→isQ (putF v k (y) j) (xB m G4 j) from fun j hj=>by
          by_cases e:j=k
          ·rw [e,jaf];exact GZ.out
          ·rw [jad e]
           exact HV.out j ZO)
         have Ho2:=jmT ho4;have HK:=jmT ((K4.cutm.rwAdd (v:=v) (n:=k) (y) ZMB ZMB ZMB).lessS (D':=⟨rwP (k+1) (putF v k (y)),rwS (k+1) (putF v k (y))⟩::(Dd4++[(⟨fxP A n cap vg,fxS A n vg⟩:Hl)])) Zb10);clear K4 K ho4 HV Ho GZ;go_roundg (n-(k+1))
         case rel=>exact ⟨k+1,_,_,X4,hlt,rfl,rfl,by go_num,HV2,Ho2,HK.out⟩
         case measure=>omega
       ·have e:n=k:=by omega
        subst e;have hltd:decide (n<n)=false:=decide_eq_false hlt;have hki:¬(n:Int)<(n:Int):=by omega
        have HVX:=jmT HV.out;have Hox:=jmT Ho.out;clear HV Ho hk hlt;go_wp2_with fail;clear cf hltd hki;obtain ⟨vx,hvx⟩:∃vx,vx=v:=⟨_,rfl⟩;obtain ⟨Xx,hXx⟩:∃Xx,Xx=Xy:=⟨_,rfl⟩;subst hvx hXx
        go_loopg [8,24] m (fun gk s8 s24 wr=>∃(k:Nat) (v:Nat→Rw) (val:Value) (Xy:List Blk),k≤m∧gk=m-k∧s8=val∧s24=.int .i64 k∧Hid (∀j,j<k→isQ (v j) (yB n G4 j))∧Hid (OwL 4 Rw.cs 50 val (ofF k v) Xy)∧St w (Xy++(Xx++(Ld4++[((b0,#[.slice A n cap,.slice A' m cap'],38):Blk)]))) (⟨rwP k v,rwS k v⟩::(⟨rwP n vx,rwS n vx⟩::(Dd4++[(⟨fxP A n cap vg,fxS A n vg⟩:Hl)]))) wr)
        case atStart=>exact ⟨0,fun _=>Rw.zero,_,[],Nat.zero_le _,rfl,rfl,rfl,jmT (fun j h=>absurd h ZO),jmT OwL.nil,K.rwNew 0⟩
        case round =>
         clear K;obtain ⟨k,v,val,Xy,hk,rfl,rfl,rfl,HV,Ho,K⟩:=hrel;by_cases hlt:k<m
         ·have hki:(k:Int)<(m:Int):=by omega
          have hk0:(0:Int)≤(k:Int):=by omega
          have hltd:decide (k<m)=true:=decide_eq_true hlt;obtain ⟨x,hx⟩:∃x,x=n+k:=⟨_,rfl⟩;have hw1:IntKind.i64.wrap ((n:Int)+(k:Int))=(x:Int):=by rw [IntWalk.i64_in _ ZO];omega
          have HX:=jmT hx;clear hx;go_wp2_with fail;refine (jba 0 Zb4 Zb24 K).mono ?_;rintro e W1 ⟨z0,rfl,gz0,k1⟩;replace K:=k1;clear k1;go_upto_region 52 with (first|(apply K.alloc;rfl;rfl;exact jaj;clear K;intro W b1 K)|(apply K.storeA;rfl;rfl;rfl;rfl;rfl;(exact ZUP);exact jae;rfl;rfl;rfl;clear K;intro W K))
          have gz:=jmT (show isQ z0 0 from by have:=gz0.out;exact this);clear gz0;have cF:=HC4.out _ _ _ K Zb28;obtain ⟨j,hj⟩:∃j,ixI (idxP G4.free x n)=j:=⟨_,rfl⟩;have HJ:=jmT hj;clear hj;go_wp2_with fail;refine (HT4.out _ _ _ K Zb28 x j HJ.out).mono ?_;rintro e W2 ⟨rfl,K2⟩;clear cF K;have K:=K2;clear K2;rcases jcd G4.free x n with ⟨h1,-⟩|⟨kk,h1,h2,-⟩
          ·have hj:=HJ.out;rw [h1] at hj;have hj: -1=j:=hj;subst hj;clear HJ
           have GZ:=jmT (show isQ z0 (yB n G4 k) from by
            unfold yB;rw [←HX.out,h1]
            exact gz.out)
           clear gz h1;go_upto_region 56 with (first|(apply K.alloc;rfl;rfl;exact jaj;clear K;intro W b1 K)|(apply K.storeA;rfl;rfl;rfl;rfl;rfl;(exact ZUP);exact jae;rfl;rfl;rfl;clear K;intro W K))
           have K2:=K.perm (L':=Xy++(((b1,#[.int .i64 z0.s,.slice z0.A z0.n z0.c,.int .i64 z0.t,.slice z0.B z0.m z0.d],50):Blk)::(Xx++(Ld4++[((b0,#[.slice A n cap,.slice A' m cap'],38):Blk)])))) Zb21;clear K;have K:=K2;clear K2;have hBb1:=K.blk (b:=b1) (cs:=#[.int .i64 z0.s,.slice z0.A z0.n z0.c,.int .i64 z0.t,.slice z0.B z0.m z0.d]) (t:=50) ZMA;have e0b1:=hBb1.cell (j:=0) rfl;have e1b1:=hBb1.cell (j:=1) rfl;have e2b1:=hBb1.cell (j:=2) rfl;have e3b1:=hBb1.cell (j:=3) rfl;clear hBb1
           go_wp2_with (at_builtin;refine K.app1 Ho.out jax rfl _ _ 23 rfl _ 64 Tryz.underlying23 jaF rfl rfl (z0) _ rfl _ rfl Zb23 Zb3 ZO ?_;clear e0b1 e1b1 e2b1 e3b1;intro v4 X4 W4 ho4 K4)
           rw [jaP] at ho4
           have HV2:=jmT (show ∀j,j<k+1→isQ (putF v k (z0) j) (yB n G4 j) from fun j hj=>by
            by_cases e:j=k
            ·rw [e,jaf];exact GZ.out
            ·rw [jad e]
             exact HV.out j ZO)
           have Ho2:=jmT ho4;have HK:=jmT ((K4.cutm.rwAdd (v:=v) (n:=k) (z0) ZMB ZMB ZMB).lessS (D':=⟨rwP (k+1) (putF v k (z0)),rwS (k+1) (putF v k (z0))⟩::(⟨rwP n vx,rwS n vx⟩::(Dd4++[(⟨fxP A n cap vg,fxS A n vg⟩:Hl)]))) Zb10);clear K4 K ho4 HV Ho GZ;go_roundg (m-(k+1))
           case rel=>exact ⟨k+1,_,_,X4,hlt,rfl,rfl,by go_num,HV2,Ho2,HK.out⟩
           case measure=>omega
          ·have hj:=HJ.out;rw [h1] at hj;have hj:(kk:Int)=j:=hj;subst hj;clear HJ;have hq0:(0:Int)≤(kk:Int):=by omega
           have hq1:(kk:Int)≥0:=by omega
           have hq2:decide ((kk:Int)≥0)=true:=decide_eq_true hq1;have hq3:(kk:Int)<(n:Int):=by omega
           obtain ⟨rb,cp,y,hy,hcap2,hW⟩:=HD4.out.goalU (w0:=w) h2;obtain ⟨y2,⟨y3,y4,y5,y6⟩,hK⟩:=hW _ _ _ Zb28 K;replace K:=hK (fun x hx=>jd7 (A:=[_,_,_,_]) hx);have HY:=jmT hy;clear hy hK;go_upto_region 54 with fail;refine ZPT ?_
           go_cut [27] from 202 to 212 (fun p wx=>∃(g:Nat) (z1:Rw),p=.pointer (some ⟨g,0,none⟩)∧Hid (isQ z1 (0-G4.c kk))∧St w ((g,#[.int .i64 z1.s,.slice z1.A z1.n z1.c,.int .i64 z1.t,.slice z1.B z1.m z1.d],50)::((b1,#[.int .i64 z0.s,.slice z0.A z0.n z0.c,.int .i64 z0.t,.slice z0.B z0.m z0.d],50):Blk)::(Xy++(Xx++(Ld4++[((b0,#[.slice A n cap,.slice A' m cap'],38):Blk)])))) (⟨rdP z1.B z1.m z1.d z1.k,rdS z1.B z1.m⟩::⟨rdP z1.A z1.n z1.c z1.l,rdS z1.A z1.n⟩::⟨rdP y.B y.m y.d y.k,rdS y.B y.m⟩::⟨rdP y.A y.n y.c y.l,rdS y.A y.n⟩::⟨rdP z0.B z0.m z0.d z0.k,rdS z0.B z0.m⟩::⟨rdP z0.A z0.n z0.c z0.l,rdS z0.A z0.n⟩::⟨rwP k v,rwS k v⟩::(⟨rwP n vx,rwS n vx⟩::(Dd4++[(⟨fxP A n cap vg,fxS A n vg⟩:Hl)]))) wx)
           case first =>
            have HS:=jmT (fun V L5 D5 (h:St w L5 D5 V) (hs:Ld4.Sublist L5)=>(show V.cell? ⟨db3,2,none⟩=some (.slice (some ⟨rb,0,none⟩) n cp)∧(V.cell? ⟨rb,kk*4,none⟩=some (.int .i64 y.s)∧V.cell? ⟨rb,kk*4+1,none⟩=some (.slice y.A y.n y.c)∧V.cell? ⟨rb,kk*4+2,none⟩=some (.int .i64 y.t)∧V.cell? ⟨rb,kk*4+3,none⟩=some (.slice y.B y.m y.d)) from ⟨(hW _ _ _ hs h).1,(hW _ _ _ hs h).2.1⟩))
            have HCal:=jmT (fun V L5 D5 (h:St w L5 D5 V) (hs:Ld4.Sublist L5) (X Y:Rw) (hX:isQ X ((0:Int):Rat)) (hY:isQ Y ((1:Int):Rat)) m1 m2 m3 m4 m5 m6=>(show Calls Tryz.prog 70 #[.pointer (some ⟨db3,0,none⟩),.agg #[.int .i64 X.s,.slice X.A X.n X.c,.int .i64 X.t,.slice X.B X.m X.d],.agg #[.int .i64 Y.s,.slice Y.A Y.n Y.c,.int .i64 Y.t,.slice Y.B Y.m Y.d],.agg #[.int .i64 y.s,.slice y.A y.n y.c,.int .i64 y.t,.slice y.B y.m y.d]] V (FrD w L5 D5 (0-G4.c kk)) from by
             have h2:=jcf w V L5 L5 D5 db3 u0 u1 u2 u3 u4 false false X Y y 0 1 (G4.c kk) h (Upd.ofMem (hs.subset HMem.out)) hX hY HY.out m1 m2 m3 m4 m5 m6 (by rw [jdr HY.out.2];rfl);rw [if_pos (jdr HY.out.2),Rat.one_mul] at h2
             exact h2))
            have K0:=K.drew;have sz:=HS.out _ _ _ K0 Zb28;clear K;refine jbm 12 (fun V=>V.cell? ⟨db3,2,none⟩=some (.slice (some ⟨rb,0,none⟩) n cp)∧(V.cell? ⟨rb,kk*4,none⟩=some (.int .i64 y.s)∧V.cell? ⟨rb,kk*4+1,none⟩=some (.slice y.A y.n y.c)∧V.cell? ⟨rb,kk*4+2,none⟩=some (.int .i64 y.t)∧V.cell? ⟨rb,kk*4+3,none⟩=some (.slice y.B y.m y.d))) Zb9 sz (fun hSh=>?_);clear sz;generalize World.drew _=X0 at K0 hSh ⊢;refine jac.tkU 0 rfl ?_;refine jac.tkU 3 rfl ?_;refine jac.tkU 4 rfl ?_;refine jac.tkU 5 rfl ?_;refine jac.tk 6 rfl ?_;refine jac.tkU 7 rfl ?_;refine jac.tkU 8 rfl ?_;refine jac.tk 9 rfl ?_;refine jac.two (i:=1) (j:=11) rfl rfl rfl rfl Zb9 (fun KK hKK=>?_) (fun KK hKK=>?_)
            focus
             go_simp;go_at_call 66;refine (jba 0 Zb4 Zb24 K0).mono ?_;rintro e X1 ⟨o0,rfl,go0,k1⟩;go_wp2_with fail;refine hKK.out _ _ (fun _=>HS.out _ _ _ k1 Zb28) (fun hSq=>?_);have hSh:=HS.out _ _ _ k1 Zb28;clear hKK KK hSq;refine ZPT ?_;refine jac.two (i:=2) (j:=11) rfl rfl rfl rfl Zb9 (fun KK hKK=>?_) (fun KK hKK=>?_)
             focus
              go_simp;go_at_call 66;refine (jba 1 Zb4 Zb24 k1).mono ?_;rintro e X2 ⟨o1,rfl,go1,k2⟩;go_wp2_with fail;refine hKK.out _ _ (fun _=>HS.out _ _ _ k2 Zb28) (fun hSq=>?_);have hSh:=HS.out _ _ _ k2 Zb28;clear hKK KK hSq;refine ZPT ?_;refine jac.two (i:=10) (j:=11) rfl rfl rfl rfl Zb9 (fun KK hKK=>?_) (fun KK hKK=>?_)
              focus
               go_simp;go_at_call 70;refine (HCal.out _ _ _ k2 Zb28 _ _ go0.out go1.out ZMB ZMB ZMB ZMB ZMB ZMB).mono ?_;rintro e X3 ⟨z1,rfl,gz1,k3⟩;go_wp2_with fail;refine hKK.out _ _ (fun _=>HS.out _ _ _ k3 Zb28) (fun hSq=>?_);have hSh:=HS.out _ _ _ k3 Zb28;clear hKK KK hSq;refine ZPT ?_;refine jac.on 11 rfl fun KK hKK=>?_
               go_simp;have k4:=k3.new #[.int .i64 0,.slice none 0 0,.int .i64 0,.slice none 0 0] 50;generalize X3.alloc (.cells #[.int .i64 0,.slice none 0 0,.int .i64 0,.slice none 0 0] 50)=X4 at k4 ⊢;generalize X3.heap.size=g9 at k4 ⊢;refine hKK.out _ _ (fun _=>HS.out _ _ _ k4 Zb28) (fun hSq=>?_);have hSh:=HS.out _ _ _ k4 Zb28;clear hKK KK hSq;refine ZPT ?_;have kz:=k4;clear k4 k3 k2 k1 K0
              rotate_right
              focus
               go_simp;have k3:=k2.new #[.int .i64 0,.slice none 0 0,.int .i64 0,.slice none 0 0] 50;generalize X2.alloc (.cells #[.int .i64 0,.slice none 0 0,.int .i64 0,.slice none 0 0] 50)=X3 at k3 ⊢;generalize X2.heap.size=g9 at k3 ⊢;refine hKK.out _ _ (fun _=>HS.out _ _ _ k3 Zb28) (fun hSq=>?_);have hSh:=HS.out _ _ _ k3 Zb28;clear hKK KK hSq;refine ZPT ?_;refine jac.on 10 rfl fun KK hKK=>?_
               go_simp;go_at_call 70;refine (HCal.out _ _ _ k3 Zb28 _ _ go0.out go1.out ZMB ZMB ZMB ZMB ZMB ZMB).mono ?_;rintro e X4 ⟨z1,rfl,gz1,k4⟩;go_wp2_with fail;refine hKK.out _ _ (fun _=>HS.out _ _ _ k4 Zb28) (fun hSq=>?_);have hSh:=HS.out _ _ _ k4 Zb28;clear hKK KK hSq;refine ZPT ?_;have kz:=k4;clear k4 k3 k2 k1 K0
             rotate_right
             focus
              go_simp;have k2:=k1.new #[.int .i64 0,.slice none 0 0,.int .i64 0,.slice none 0 0] 50;generalize X1.alloc (.cells #[.int .i64 0,.slice none 0 0,.int .i64 0,.slice none 0 0] 50)=X2 at k2 ⊢;generalize X1.heap.size=g9 at k2 ⊢;refine hKK.out _ _ (fun _=>HS.out _ _ _ k2 Zb28) (fun hSq=>?_);have hSh:=HS.out _ _ _ k2 Zb28;clear hKK KK hSq;refine ZPT ?_;refine jac.on 2 rfl fun KK hKK=>?_
              go_simp;go_at_call 66;refine (jba 1 Zb4 Zb24 k2).mono ?_;rintro e X3 ⟨o1,rfl,go1,k3⟩;go_wp2_with fail;refine hKK.out _ _ (fun _=>HS.out _ _ _ k3 Zb28) (fun hSq=>?_);have hSh:=HS.out _ _ _ k3 Zb28;clear hKK KK hSq;refine ZPT ?_;refine jac.on 10 rfl fun KK hKK=>?_
              go_simp;go_at_call 70;refine (HCal.out _ _ _ k3 Zb28 _ _ go0.out go1.out ZMB ZMB ZMB ZMB ZMB ZMB).mono ?_;rintro e X4 ⟨z1,rfl,gz1,k4⟩;go_wp2_with fail;refine hKK.out _ _ (fun _=>HS.out _ _ _ k4 Zb28) (fun hSq=>?_);have hSh:=HS.out _ _ _ k4 Zb28;clear hKK KK hSq;refine ZPT ?_;have kz:=k4;clear k4 k3 k2 k1 K0
            rotate_right
            focus
             go_simp;have k1:=K0.new #[.int .i64 0,.slice none 0 0,.int .i64 0,.slice none 0 0] 50;generalize X0.alloc (.cells #[.int .i64 0,.slice none 0 0,.int .i64 0,.slice none 0 0] 50)=X1 at k1 ⊢;generalize X0.heap.size=g9 at k1 ⊢;refine hKK.out _ _ (fun _=>HS.out _ _ _ k1 Zb28) (fun hSq=>?_);have hSh:=HS.out _ _ _ k1 Zb28;clear hKK KK hSq;refine ZPT ?_;refine jac.on 1 rfl fun KK hKK=>?_
             go_simp;go_at_call 66;refine (jba 0 Zb4 Zb24 k1).mono ?_;rintro e X2 ⟨o0,rfl,go0,k2⟩;go_wp2_with fail;refine hKK.out _ _ (fun _=>HS.out _ _ _ k2 Zb28) (fun hSq=>?_);have hSh:=HS.out _ _ _ k2 Zb28;clear hKK KK hSq;refine ZPT ?_;refine jac.on 2 rfl fun KK hKK=>?_
             go_simp;go_at_call 66;refine (jba 1 Zb4 Zb24 k2).mono ?_;rintro e X3 ⟨o1,rfl,go1,k3⟩;go_wp2_with fail;refine hKK.out _ _ (fun _=>HS.out _ _ _ k3 Zb28) (fun hSq=>?_);have hSh:=HS.out _ _ _ k3 Zb28;clear hKK KK hSq;refine ZPT ?_;refine jac.on 10 rfl fun KK hKK=>?_
             go_simp;go_at_call 70;refine (HCal.out _ _ _ k3 Zb28 _ _ go0.out go1.out ZMB ZMB ZMB ZMB ZMB ZMB).mono ?_;rintro e X4 ⟨z1,rfl,gz1,k4⟩;go_wp2_with fail;refine hKK.out _ _ (fun _=>HS.out _ _ _ k4 Zb28) (fun hSq=>?_);have hSh:=HS.out _ _ _ k4 Zb28;clear hKK KK hSq;refine ZPT ?_;have kz:=k4;clear k4 k3 k2 k1 K0
            all_goals
             refine jac.onF 12 rfl fun KK hKK=>?_
             have r:=kz.rawS;have zz:=kz.thaw (g:=g9) (cs:=#[.int .i64 0,.slice none 0 0,.int .i64 0,.slice none 0 0]) (t:=50) ZMB;go_simp;have K9:=kz.set4Z (b:=g9) (t:=50) (x0:=.int .i64 0) (x1:=.slice none 0 0) (x2:=.int .i64 0) (x3:=.slice none 0 0) (u0:=.int .i64 z1.s) (u1:=.slice z1.A z1.n z1.c) (u2:=.int .i64 z1.t) (u3:=.slice z1.B z1.m z1.d) (Upd.head _);refine hKK.out _ _ ?_;clear hKK KK r zz;refine ZPT ?_;refine ⟨by kernel_rfl,?_⟩;generalize ((((X4.setCell ⟨g9,0,none⟩ (.int .i64 z1.s)).setCell ⟨g9,1,none⟩ (.slice z1.A z1.n z1.c)).setCell ⟨g9,2,none⟩ (.int .i64 z1.t)).setCell ⟨g9,3,none⟩ (.slice z1.B z1.m z1.d))=W9 at K9 ⊢;clear kz hSh HS HCal;have K:=K9;clear K9;go_wp2_with fail;go_meet;exact ⟨_,z1,rfl,gz1,K.lessS Zb10⟩
           clear K;obtain ⟨gy,z1,rfl,gz1,K⟩:=hcut;have hBgy:=K.blk (b:=gy) (cs:=#[.int .i64 z1.s,.slice z1.A z1.n z1.c,.int .i64 z1.t,.slice z1.B z1.m z1.d]) (t:=50) ZMA;have e0gy:=hBgy.cell (j:=0) rfl;have e1gy:=hBgy.cell (j:=1) rfl;have e2gy:=hBgy.cell (j:=2) rfl;have e3gy:=hBgy.cell (j:=3) rfl;clear hBgy
           have GZ:=jmT (show isQ z1 (yB n G4 k) from by
            unfold yB;rw [←HX.out,h1]
            exact gz1.out)
           clear gz h1 HY hW gz1;go_upto_region 56 with (first|(apply K.alloc;rfl;rfl;exact jaj;clear K;intro W b1 K)|(apply K.storeA;rfl;rfl;rfl;rfl;rfl;(exact ZUP);exact jae;rfl;rfl;rfl;clear K;intro W K))
           clear e0gy e1gy e2gy e3gy;have K2:=(K.part (List.sublist_cons_self _ _)).lessS (D':=⟨rdP z1.B z1.m z1.d z1.k,rdS z1.B z1.m⟩::⟨rdP z1.A z1.n z1.c z1.l,rdS z1.A z1.n⟩::⟨rwP k v,rwS k v⟩::(⟨rwP n vx,rwS n vx⟩::(Dd4++[(⟨fxP A n cap vg,fxS A n vg⟩:Hl)]))) Zb10;clear K;have K:=K2;clear K2;go_upto_region 56 with (first|(apply K.alloc;rfl;rfl;exact jaj;clear K;intro W b1 K)|(apply K.storeA;rfl;rfl;rfl;rfl;rfl;(exact ZUP);exact jae;rfl;rfl;rfl;clear K;intro W K))
           have K2:=K.perm (L':=Xy++(((b1,#[.int .i64 z1.s,.slice z1.A z1.n z1.c,.int .i64 z1.t,.slice z1.B z1.m z1.d],50):Blk)::(Xx++(Ld4++[((b0,#[.slice A n cap,.slice A' m cap'],38):Blk)])))) Zb21;clear K;have K:=K2;clear K2;have hBb1:=K.blk (b:=b1) (cs:=#[.int .i64 z1.s,.slice z1.A z1.n z1.c,.int .i64 z1.t,.slice z1.B z1.m z1.d]) (t:=50) ZMA;have e0b1:=hBb1.cell (j:=0) rfl;have e1b1:=hBb1.cell (j:=1) rfl;have e2b1:=hBb1.cell (j:=2) rfl;have e3b1:=hBb1.cell (j:=3) rfl;clear hBb1
           go_wp2_with (at_builtin;refine K.app1 Ho.out jax rfl _ _ 23 rfl _ 64 Tryz.underlying23 jaF rfl rfl (z1) _ rfl _ rfl Zb23 Zb3 ZO ?_;clear e0b1 e1b1 e2b1 e3b1;intro v4 X4 W4 ho4 K4)
           rw [jaP] at ho4
           have HV2:=jmT (show ∀j,j<k+1→isQ (putF v k (z1) j) (yB n G4 j) from fun j hj=>by
            by_cases e:j=k
            ·rw [e,jaf];exact GZ.out
            ·rw [jad e]
             exact HV.out j ZO)
           have Ho2:=jmT ho4;have HK:=jmT ((K4.cutm.rwAdd (v:=v) (n:=k) (z1) ZMB ZMB ZMB).lessS (D':=⟨rwP (k+1) (putF v k (z1)),rwS (k+1) (putF v k (z1))⟩::(⟨rwP n vx,rwS n vx⟩::(Dd4++[(⟨fxP A n cap vg,fxS A n vg⟩:Hl)]))) Zb10);clear K4 K ho4 HV Ho GZ;go_roundg (m-(k+1))
           case rel=>exact ⟨k+1,_,_,X4,hlt,rfl,rfl,by go_num,HV2,Ho2,HK.out⟩
           case measure=>omega
         ·have e:m=k:=by omega
          subst e;have hltd:decide (m<m)=false:=decide_eq_false hlt;have hki:¬(m:Int)<(m:Int):=by omega
          have cf:=HFL.out _ _ _ K Zb28;obtain ⟨Ao,co,hv,hro⟩:=Ho.out.rdF K ZMB ZO;subst hv;rw [jav (g:=fun j=>fvQ (yB n G4 j)) (fun j hj=>(HV.out j hj).fv)] at hro;obtain ⟨Ax,cx,hvx,hrx⟩:=Hox.out.rdF (K.part (List.sublist_append_right _ _)) ZMB ZO;subst hvx;rw [jav (g:=fun j=>fvQ (xB m G4 j)) (fun j hj=>(HVX.out j hj).fv)] at hrx;have HP:=jmT (show SolP w m n l ls (.returned (.tuple #[.slice Ax n cx,.slice Ao m co,.int .i64 0])) wr from ⟨_,HE.out,⟨_,_,_,_,rfl,hrx,hro,fun j hj=>(HVX.out j hj).2,fun j hj=>(HV.out j hj).2⟩,K.1⟩);clear hro hrx HV Ho K HE;go_wp2_with fail;exact bodyPost_ret (v:=.tuple #[.slice Ax n cx,.slice Ao m co,.int .i64 0]) Zb27 rfl HP.out
   ·obtain ⟨hq1,rfl,rfl⟩:=hS.out.1 rfl;rw [HG0.out] at hq1;have HP:=jmT (show SolP w m n l ls (.returned (.tuple #[.slice none 0 0,.slice none 0 0,.int .i64 6])) _ from ⟨_,jbw.full1 hq1,rfl,K.1⟩);go_wp2_with fail;exact bodyPost_ret (v:=(.tuple #[.slice none 0 0,.slice none 0 0,.int .i64 6])) Zb27 rfl HP.out
end Go.Proofs.YtdlcglndhhndpaaGreat
