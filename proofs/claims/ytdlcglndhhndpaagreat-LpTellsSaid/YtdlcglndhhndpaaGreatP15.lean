/- Laws and walks; conditions stand in each theorem. -/
import Derived.Test.YtdlcglndhhndpaaGreatP09
import Derived.Test.YtdlcglndhhndpaaGreatP11
set_option linter.unusedSimpArgs false
set_option linter.unusedVariables false
set_option maxHeartbeats 1000000
set_option maxRecDepth 100000
namespace Go.Proofs.YtdlcglndhhndpaaGreat
open Go.RowKit
theorem jdz (s t:Int) (A A':Option Addr) (n cap n' cap':Nat) (l m:List Int) (w:World) (hl:RdI w w.heap.size A n cap l) (hm:RdI w w.heap.size A' n' cap' m) :
 Calls Tryz.prog 71 #[.agg #[.int .i64 s,.slice A n cap,.int .i64 t,.slice A' n' cap']] w fun e w'=>e=.returned (.bool (!jap s l t m))∧Below w.heap.size w w':=by
 have K:=((St.start w).oldRd hl).oldRd hm;have r:=K.raw;have HR:=jmT (fun W h g=>ja3 s t A A' n cap n' cap' l m W h g);clear hl hm;generalize jap s l t m=R at *;go_enter Tryz.func71,Tryz.ntmps71
 go_wp2_with (first|(refine ZAL ?_;clear K r;intro W b K r)|(refine ZST ?_;clear K r;intro W K r))
 refine (HR.out _ ZRD ZRD).mono ?_;rintro e W' ⟨rfl,hb⟩;replace K:=K.keep hb;clear r;have r:=K.rawS;clear hb
 go_wp2
 go_ret;exact ⟨rfl,K.1⟩
def fnF (x:Fv):Bool:=x.ok&& !decide (x.s<0)
theorem jhU (s t:Int) (A A':Option Addr) (n cap n' cap':Nat) (l m:List Int) (w:World) (hl:RdI w w.heap.size A n cap l) (hm:RdI w w.heap.size A' n' cap' m) :
 Calls Tryz.prog 121 #[.agg #[.int .i64 s,.slice A n cap,.int .i64 t,.slice A' n' cap']] w fun e w'=>e=.returned (.bool (!fnF ⟨s,l,t,m⟩))∧Below w.heap.size w w':=by
 have K:=((St.start w).oldRd hl).oldRd hm;have r:=K.raw;have HR:=jmT (fun W h g=>jdz s t A A' n cap n' cap' l m W h g);have e0:fnF ⟨s,l,t,m⟩=(jap s l t m&& !decide (s<0)):=rfl;rw [e0];clear hl hm e0;generalize jap s l t m=R at *;cases R
 ·exact ZQ46
 ·rw [Bool.true_and];by_cases hs:s<0
  ·have hd:decide (s<0)=true:=decide_eq_true hs;rw [hd];exact ZQ46
  ·have hd:decide (s<0)=false:=decide_eq_false hs;rw [hd];exact ZQ46
theorem jkK (A:Option Addr) (n cap:Nat) (l:List Fv) (w:World) (hl:RdF w w.heap.size A n cap l) :
 Calls Tryz.prog 101 #[.slice A n cap,.func (.func 71) #[] #[]] w (IdxF w (l.all Fv.ok)):=by
 have hcaps:=hl.caps;have hlen:=hl.len;have eg:=enters_of Tryz.func71 Zb9 rfl
 have Hlen:=jmT hlen;clear hlen;have HL:=jmT (fun W (h:Below w.heap.size w W)=>hl.up jan h);go_enter Tryz.func101,Tryz.ntmps101
 go_wp2
 go_loopg [8] n (fun gk i wr=>∃k:Nat,k≤n∧gk=n-k∧i=.int .i64 k∧(∀j x,j<k→l[j]?=some x→x.ok=true)∧Below w.heap.size w wr)
 case atStart=>exact ⟨0,Nat.zero_le _,rfl,rfl,(fun j x h=>absurd h ZO),Below.refl _ _⟩
 case round =>
  obtain ⟨k,hk,rfl,rfl,hall,hb⟩:=hrel;have Hall:=jmT hall;clear hall;have HB:=jmT hb;by_cases hlt:k<n
  ·obtain ⟨b,off,A1,n1,c1,A2,n2,c2,x,rfl,hbB,hx,⟨d0,d1,d2,d3⟩,r1,r2⟩:=(HL.out wr hb).atF hlt;have hki:(k:Int)<(n:Int):=by omega
   have hk0:(0:Int)≤(k:Int):=by omega
   have Hx:=jmT hx;clear hx;have HW:=jmT (jdz x.s x.t A1 A2 n1 c1 n2 c2 x.l x.m wr r1 r2);have hcap1:=r1.caps;have hcap2:=r2.caps;have hok:jap x.s x.l x.t x.m=x.ok:=rfl;rw [hok] at HW;clear hok r1 r2 hb hl;cases hin:x.ok
   ·rw [hin] at HW
    have Hno:=jmT (show l.all Fv.ok=false by
     rw [List.all_eq_false];exact ⟨x,List.mem_of_getElem? Hx.out,by simp [hin]⟩)
    clear hin
    go_wp2_with (go_at_call 71;refine HW.out.mono ?_;rintro e w1 ⟨rfl,hb1⟩)
    go_ret;exact ⟨(k:Int),rfl,by omega,by omega,by rw [Hno.out];simp,HB.out.trans (hb1.mono HB.out.size)⟩
   ·rw [hin] at HW;have Hin:=jmT hin;clear hin
    go_wp2_with (go_at_call 71;refine HW.out.mono ?_;rintro e w1 ⟨rfl,hb1⟩)
    exact ZQ84
  ·have e:k=n:=by omega
   subst e
   have Hyes:=jmT (show l.all Fv.ok=true by
    exact ZQ122)
   clear hb hl
   go_wp2
   go_ret;exact ⟨-1,rfl,by omega,by omega,by rw [Hyes.out];rfl,HB.out⟩
theorem jgD (A:Option Addr) (n cap:Nat) (l:List Fv) (w:World) (hl:RdF w w.heap.size A n cap l) :
 Calls Tryz.prog 48 #[.slice A n cap,.func (.func 71) #[] #[]] w fun e w'=>e=.returned (.bool (!l.all Fv.ok))∧Below w.heap.size w w':=by
 have Hidx:=jmT (jkK A n cap l w hl);clear hl;generalize l.all Fv.ok=b at *;go_enter Tryz.func48,Tryz.ntmps48
 go_wp2_with (go_at_call 101;refine Hidx.out.mono ?_;rintro e w1 ⟨i,rfl,hi1,hi2,hi3,hb⟩)
 go_ret;exact ⟨rfl,hb⟩
theorem jkH (A:Option Addr) (n cap:Nat) (l:List Fv) (w:World) (hl:RdF w w.heap.size A n cap l) :
 Calls Tryz.prog 101 #[.slice A n cap,.func (.func 121) #[] #[]] w (IdxF w (l.all fnF)):=by
 have hcaps:=hl.caps;have hlen:=hl.len;have eg:=enters_of Tryz.func121 Zb9 rfl
 have Hlen:=jmT hlen;clear hlen;have HL:=jmT (fun W (h:Below w.heap.size w W)=>hl.up jan h);go_enter Tryz.func101,Tryz.ntmps101
 go_wp2
 go_loopg [8] n (fun gk i wr=>∃k:Nat,k≤n∧gk=n-k∧i=.int .i64 k∧(∀j x,j<k→l[j]?=some x→fnF x=true)∧Below w.heap.size w wr)
 case atStart=>exact ⟨0,Nat.zero_le _,rfl,rfl,(fun j x h=>absurd h ZO),Below.refl _ _⟩
 case round =>
  obtain ⟨k,hk,rfl,rfl,hall,hb⟩:=hrel;have Hall:=jmT hall;clear hall;have HB:=jmT hb;by_cases hlt:k<n
  ·obtain ⟨b,off,A1,n1,c1,A2,n2,c2,x,rfl,hbB,hx,⟨d0,d1,d2,d3⟩,r1,r2⟩:=(HL.out wr hb).atF hlt;have hki:(k:Int)<(n:Int):=by omega
   have hk0:(0:Int)≤(k:Int):=by omega
   have Hx:=jmT hx;clear hx;have HW:=jmT (jhU x.s x.t A1 A2 n1 c1 n2 c2 x.l x.m wr r1 r2);have hcap1:=r1.caps;have hcap2:=r2.caps;have hok:fnF ⟨x.s,x.l,x.t,x.m⟩=fnF x:=rfl;rw [hok] at HW;clear hok r1 r2 hb hl;cases hin:fnF x
   ·rw [hin] at HW
    have Hno:=jmT (show l.all fnF=false by
     rw [List.all_eq_false];exact ⟨x,List.mem_of_getElem? Hx.out,by simp [hin]⟩)
    clear hin
    go_wp2_with (go_at_call 121;refine HW.out.mono ?_;rintro e w1 ⟨rfl,hb1⟩)
    go_ret;exact ⟨(k:Int),rfl,by omega,by omega,by rw [Hno.out];simp,HB.out.trans (hb1.mono HB.out.size)⟩
   ·rw [hin] at HW;have Hin:=jmT hin;clear hin
    go_wp2_with (go_at_call 121;refine HW.out.mono ?_;rintro e w1 ⟨rfl,hb1⟩)
    exact ZQ84
  ·have e:k=n:=by omega
   subst e
   have Hyes:=jmT (show l.all fnF=true by
    exact ZQ122)
   clear hb hl
   go_wp2
   go_ret;exact ⟨-1,rfl,by omega,by omega,by rw [Hyes.out];rfl,HB.out⟩
theorem jkm (A:Option Addr) (n cap:Nat) (l:List Fv) (w:World) (hl:RdF w w.heap.size A n cap l) :
 Calls Tryz.prog 48 #[.slice A n cap,.func (.func 121) #[] #[]] w fun e w'=>e=.returned (.bool (!l.all fnF))∧Below w.heap.size w w':=by
 have Hidx:=jmT (jkH A n cap l w hl);clear hl;generalize l.all fnF=b at *;go_enter Tryz.func48,Tryz.ntmps48
 go_wp2_with (go_at_call 101;refine Hidx.out.mono ?_;rintro e w1 ⟨i,rfl,hi1,hi2,hi3,hb⟩)
 go_ret;exact ⟨rfl,hb⟩
theorem jgQ (A:Option Addr) (n cap k:Nat) (l:List Fv) (w:World) (hl:RdF w w.heap.size A n cap l) :
 Calls Tryz.prog 73 #[.slice A n cap,.int .i64 k] w fun e w'=>e=.returned (.bool (decide (n=k)&&l.all fnF))∧Below w.heap.size w w':=by
 have HC:=jmT (fun W (h:Below w.heap.size w W)=>jkm A n cap l W (hl.up jan h));have hcaps:=hl.caps;clear hl;generalize l.all fnF=R at *;have K:=St.start w;by_cases hk:n=k
 ·subst hk;rw [decide_eq_true rfl,Bool.true_and];go_enter Tryz.func73,Tryz.ntmps73
  go_wp2_with (go_at_call 48;refine (HC.out _ K.1).mono ?_;rintro e W' ⟨rfl,hb⟩)
  go_ret;exact ⟨rfl,hb⟩
 ·rw [decide_eq_false hk,Bool.false_and];have hk2:¬(n:Int)=(k:Int):=by omega
  have hk3:decide ((n:Int)=(k:Int))=false:=decide_eq_false hk2;have hk4:((n:Int)==(k:Int))=false:=by simp;omega
  go_enter Tryz.func73,Tryz.ntmps73
  go_wp2_with fail;go_ret;exact ⟨rfl,K.1⟩
end Go.Proofs.YtdlcglndhhndpaaGreat
