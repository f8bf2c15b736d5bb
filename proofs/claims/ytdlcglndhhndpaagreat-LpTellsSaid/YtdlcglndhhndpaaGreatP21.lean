/- Laws and walks; conditions stand in each theorem. -/
import Derived.Test.YtdlcglndhhndpaaGreatP18
import Derived.Test.YtdlcglndhhndpaaGreatP15
set_option linter.unusedSimpArgs false
set_option linter.unusedVariables false
set_option maxHeartbeats 2000000
set_option maxRecDepth 100000
namespace Go.Proofs.YtdlcglndhhndpaaGreat
open Go.RowKit
theorem jcg (A A':Option Addr) (n cap m cap':Nat) (l:List Fv) (ls:List Rv) (w:World) (hl:RdF w w.heap.size A n cap l) (hr:RdR w w.heap.size A' m cap' ls) (hn:n≤20) (hm:m≤40) :
 Calls Tryz.prog 26 #[.agg #[.slice A n cap,.slice A' m cap']] w fun e w'=>e=.returned (.bool (l.all Fv.ok&&ls.all (rowF n)))∧Below w.heap.size w w':=by
 have HC:=jmT (fun W (h:Below w.heap.size w W)=>jgD A n cap l W (hl.up jan h));have HL:=jmT hr;have hcap:=hl.caps;have hcap':=hr.caps;have hlen:=jmT hr.len;clear hl hr;generalize l.all Fv.ok=R at *;have h20:decide ((n:Int)>20)=false:=decide_eq_false ZO;have h40:decide ((m:Int)>40)=false:=decide_eq_false ZO;have g20:¬(n:Int)>20:=by omega
 have g40:¬(m:Int)>40:=by omega
 have K:=St.start w;have r:=K.raw;cases R
 ·rw [Bool.false_and];go_enter Tryz.func26,Tryz.ntmps26
  go_wp2_with (first|(first|(apply K.box;rfl;rfl;rfl;clear K r;intro W b0 K;have r:=K.rawS)|(apply K.alloc;rfl;rfl;exact ja9;clear K r;intro W b1 K;have r:=K.rawS)|(apply K.storeA;rfl;rfl;rfl;rfl;rfl;(exact ZUP);exact ja8;rfl;rfl;rfl;clear K r;intro W K;have r:=K.rawS))|(go_at_call 48;refine (HC.out _ K.1).mono ?_;rintro e W' ⟨rfl,hb⟩;replace K:=K.keep hb;clear hb r;have r:=K.rawS))
  go_ret;exact ⟨rfl,K.1⟩
 ·rw [Bool.true_and];go_enter Tryz.func26,Tryz.ntmps26
  go_wp2_with (first|(first|(apply K.box;rfl;rfl;rfl;clear K r;intro W b0 K;have r:=K.rawS)|(apply K.alloc;rfl;rfl;exact ja9;clear K r;intro W b1 K;have r:=K.rawS)|(apply K.storeA;rfl;rfl;rfl;rfl;rfl;(exact ZUP);exact ja8;rfl;rfl;rfl;clear K r;intro W K;have r:=K.rawS))|(go_at_call 48;refine (HC.out _ K.1).mono ?_;rintro e W' ⟨rfl,hb⟩;replace K:=K.keep hb;clear hb r;have r:=K.rawS))
  go_loopg [23] m (fun gk s23 wr=>∃k:Nat,k≤m∧gk=m-k∧s23=.int .i64 k∧Hid (∀j x,j<k→ls[j]?=some x→rowF n x=true)∧St w [(b0,#[.slice A n cap,.slice A' m cap'],38)] [] wr)
  case atStart=>exact ⟨0,Nat.zero_le _,rfl,rfl,jmT (fun j x h=>absurd h ZO),K⟩
  case round =>
   clear K r;obtain ⟨k,hk,rfl,rfl,HA,K⟩:=hrel;by_cases hlt:k<m
   ·obtain ⟨eb,eo,A0,n0,c0,A1,n1,c1,A2,n2,c2,x,hA,hbB,hx,⟨z0,z1,z2,z3,z4⟩,r0,r1,r2⟩:=HL.out.atR hlt;subst hA;have hki:(k:Int)<(m:Int):=by omega
    have hk0:(0:Int)≤(k:Int):=by omega
    have Hx:=jmT hx
    have hRF:rowF n x=((decide ((n0:Int)=n)&&x.b.ok)&&x.a.all Fv.ok):=by
     unfold rowF;rw [r0.len]
    have Hno:=jmT (fun (h:rowF n x=false)=>(show ls.all (rowF n)=false from by
     rw [List.all_eq_false];exact ⟨x,List.mem_of_getElem? Hx.out,by simp [h]⟩))
    have HW:=jmT (fun W (h:Below w.heap.size w W)=>(jdz x.b.s x.b.t A1 A2 n1 c1 n2 c2 x.b.l x.b.m W (r1.up (jab _) h) (r2.up (jab _) h):Calls Tryz.prog 71 _ W fun e w'=>e=.returned (.bool (!x.b.ok))∧Below W.heap.size W w'));have hok:jap x.b.s x.b.l x.b.t x.b.m=x.b.ok:=rfl;rw [hok] at HW;clear hok;have HR:=jmT (fun W (h:Below w.heap.size w W)=>jgD A0 n0 c0 x.a W (r0.up jan h));have y0:=(K.1.cell (p:=⟨eb,eo+k*5,none⟩) hbB).trans z0;have y1:=(K.1.cell (p:=⟨eb,eo+k*5+1,none⟩) hbB).trans z1;have y2:=(K.1.cell (p:=⟨eb,eo+k*5+2,none⟩) hbB).trans z2;have y3:=(K.1.cell (p:=⟨eb,eo+k*5+3,none⟩) hbB).trans z3;have y4:=(K.1.cell (p:=⟨eb,eo+k*5+4,none⟩) hbB).trans z4;have hc0:=r0.caps;have hc1:=r1.caps;have hc2:=r2.caps;clear hx z0 z1 z2 z3 z4 r0 r1 r2;have r:=K.rawS;by_cases hn0:(n0:Int)=(n:Int)
    ·have hd:((n0:Int) !=(n:Int))=false:=by simp [hn0]
     rw [decide_eq_true hn0,Bool.true_and] at hRF;clear hn0;cases hS:x.a.all Fv.ok
     ·rw [hS,Bool.and_false] at hRF;have HF:=jmT (Hno.out hRF);rw [hS] at HR;clear hRF hS Hno
      go_wp2_with (first|(first|(apply K.box;rfl;rfl;rfl;clear K r;intro W b0 K;have r:=K.rawS)|(apply K.alloc;rfl;rfl;exact ja9;clear K r;intro W b1 K;have r:=K.rawS)|(apply K.storeA;rfl;rfl;rfl;rfl;rfl;(exact ZUP);exact ja8;rfl;rfl;rfl;clear K r;intro W K;have r:=K.rawS))|(go_at_call 48;refine (HR.out _ K.1).mono ?_;rintro e W' ⟨rfl,hb⟩;replace K:=K.keep hb;clear hb r;have r:=K.rawS))
      go_ret;exact ⟨by rw [HF.out];rfl,K.1⟩
     ·rw [hS,Bool.and_true] at hRF;rw [hS] at HR;clear hS;cases hV:x.b.ok
      ·rw [hV] at hRF HW;have HF:=jmT (Hno.out hRF);clear hRF hV Hno
       go_wp2_with (first|(first|(apply K.box;rfl;rfl;rfl;clear K r;intro W b0 K;have r:=K.rawS)|(apply K.alloc;rfl;rfl;exact ja9;clear K r;intro W b1 K;have r:=K.rawS)|(apply K.storeA;rfl;rfl;rfl;rfl;rfl;(exact ZUP);exact ja8;rfl;rfl;rfl;clear K r;intro W K;have r:=K.rawS))|(go_at_call 48;refine (HR.out _ K.1).mono ?_;rintro e W' ⟨rfl,hb⟩;replace K:=K.keep hb;clear hb r;have r:=K.rawS)|(go_at_call 71;refine (HW.out _ K.1).mono ?_;rintro e W' ⟨rfl,hb⟩;replace K:=K.keep hb;clear hb r;have r:=K.rawS))
       go_ret;exact ⟨by rw [HF.out];rfl,K.1⟩
      ·rw [hV] at hRF HW
       have HY:=jmT (show ∀j y,j<k+1→ls[j]?=some y→rowF n y=true from fun j y hj hy=>by
        by_cases e:j=k
        ·subst e;rw [Hx.out] at hy;cases hy;exact hRF
        ·exact HA.out j y ZO hy)
       clear hRF hV Hno HA
       go_wp2_with (first|(first|(apply K.box;rfl;rfl;rfl;clear K r;intro W b0 K;have r:=K.rawS)|(apply K.alloc;rfl;rfl;exact ja9;clear K r;intro W b1 K;have r:=K.rawS)|(apply K.storeA;rfl;rfl;rfl;rfl;rfl;(exact ZUP);exact ja8;rfl;rfl;rfl;clear K r;intro W K;have r:=K.rawS))|(go_at_call 48;refine (HR.out _ K.1).mono ?_;rintro e W' ⟨rfl,hb⟩;replace K:=K.keep hb;clear hb r;have r:=K.rawS)|(go_at_call 71;refine (HW.out _ K.1).mono ?_;rintro e W' ⟨rfl,hb⟩;replace K:=K.keep hb;clear hb r;have r:=K.rawS))
       go_roundg (m-(k+1))
       case rel=>exact ⟨k+1,hlt,rfl,by go_num,HY,K.part (List.sublist_append_right [_] _)⟩
       case measure=>omega
    ·have hd:((n0:Int) !=(n:Int))=true:=by simp [hn0]
     rw [decide_eq_false hn0,Bool.false_and,Bool.false_and] at hRF;have HF:=jmT (Hno.out hRF);clear hn0 hRF Hno
     go_wp2_with (first|(apply K.box;rfl;rfl;rfl;clear K r;intro W b0 K;have r:=K.rawS)|(apply K.alloc;rfl;rfl;exact ja9;clear K r;intro W b1 K;have r:=K.rawS)|(apply K.storeA;rfl;rfl;rfl;rfl;rfl;(exact ZUP);exact ja8;rfl;rfl;rfl;clear K r;intro W K;have r:=K.rawS))
     go_ret;exact ⟨by rw [HF.out];rfl,K.1⟩
   ·have e:k=m:=by omega
    subst e
    have Hyes:=jmT (show ls.all (rowF n)=true by
     rw [List.all_eq_true];intro x hx;obtain ⟨j,hj,rfl⟩:=List.mem_iff_getElem.1 hx
     exact HA.out j _ (by rw [hlen.out] at hj;exact hj) (List.getElem?_eq_getElem hj))
    have hb:=K.1;clear K HA hlt;go_wp2_with fail;go_ret;exact ⟨by rw [Hyes.out];rfl,hb⟩
end Go.Proofs.YtdlcglndhhndpaaGreat
