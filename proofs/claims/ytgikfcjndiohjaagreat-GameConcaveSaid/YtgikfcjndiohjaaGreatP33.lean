/- Laws and walks; conditions stand in each theorem. -/
import Derived.Test.YtgikfcjndiohjaaGreatP32
set_option linter.unusedSimpArgs false
set_option linter.unusedVariables false
set_option maxHeartbeats 2000000
set_option maxRecDepth 100000
namespace Go.Proofs.YtgikfcjndiohjaaGreat
open Go.RowKit
def bitI (g l:Nat):Int:=((g >>> l%2:Nat):Int)
theorem jb8 (g l:Nat):bitI g l=0∨bitI g l=1:=by
 unfold bitI
 omega
abbrev bitQ (g l:Nat):Rat:=((bitI g l:Int):Rat)
def gmL (n:Nat):List Fv:=ofF n fun _=>fvQ ((1:Int):Rat)
def jfK (n:Nat) (cs:List Int) (i:Nat):Rv:=⟨ofF n fun l=>fvQ (bitQ (i+1) l),fvQ ((gi cs (i+1):Int):Rat)⟩
def gmR (n m:Nat) (cs:List Int):List Rv:=ofF m (jfK n cs)
structure Gok (n:Nat) (cs:List Int):Prop where
 hn:n≤3
 len:cs.length=2 ^ n
 zero:gi cs 0=0
 bd:∀i,0≤gi cs i∧gi cs i≤1000000000000000
section
variable {n m:Nat} {cs:List Int}
theorem jmu {i j:Nat} (hi:i<m) (hj:j<n):rwA2 (gmR n m cs) i j=bitQ (i+1) j:=by
 unfold gmR
 rw [jpc (jaJ hi)]
 exact jcq (f:=fun l=>bitQ (i+1) l) j hj
theorem jjD {i:Nat} (hi:i<m):rwB2 (gmR n m cs) false i=((gi cs (i+1):Int):Rat):=by
 unfold gmR
 rw [jpd (jaJ hi)]
 exact jga _
theorem jhv {j:Nat} (hj:j<n):fvR (gmL n) j=1:=jcq (f:=fun _=>((1:Int):Rat)) j hj
theorem jhP:∀n,n<4→∀u,u<n→2 ^ u-1<2 ^ n-1∧∀l,l<n→bitI (2 ^ u-1+1) l=if l=u then 1 else 0:=by decide +kernel
theorem jmm:∀n,n<4→∀l,l<n→bitI (2 ^ n-1) l=1:=by decide +kernel
theorem jbA:∀n,n<4→2 ^ n-1≤8∧0<2 ^ n:=by decide +kernel
theorem Gok.gm (h:Gok n cs):Gm (2 ^ n-1) n (rwA2 (gmR n (2 ^ n-1) cs)) (rwB2 (gmR n (2 ^ n-1) cs) false) (fvR (gmL n)):=by
 have h4:n<4:=by have:=h.hn;omega
 refine ⟨⟨h.hn,fun i l hi hl=>?_,fun l hl=>?_,fun i hi=>?_⟩,(jbA n h4).1,fun i hi=>?_,fun u hu=>?_⟩
 ·rw [jmu hi hl]
  exact ⟨_,rfl,by have:=jb8 (i+1) l;omega⟩
 ·rw [jhv hl]
  exact IsI.one Zb4
 ·rw [jjD hi]
  exact ⟨_,rfl,by have:=h.bd (i+1);omega⟩
 ·rw [jjD hi]
  exact Rat.intCast_le_intCast.2 (h.bd (i+1)).1
 ·obtain ⟨h1,h2⟩:=jhP n h4 u hu
  refine ⟨_,h1,fun l hl=>?_⟩
  rw [jmu h1 hl]
  unfold bitQ
  rw [h2 l hl]
  split <;> rfl
def gsum (g:Nat) (x:Nat→Rat) (k:Nat):Rat:=smQ (fun l=>bitQ g l*x l) k
def Stab (n:Nat) (cs:List Int) (x:Nat→Rat):Prop:=(∀u,u<n→0≤x u)∧∀g,g<2 ^ n→gsum g x n≤((gi cs g:Int):Rat)
theorem jjG (x:Nat→Rat):gsum 0 x n=0:=jaL fun l _=>by
 have e:bitI 0 l=0:=by unfold bitI;simp
 rw [bitQ,e]
 grind
theorem jb2 (h:Gok n cs) (x:Nat→Rat):gsum (2 ^ n-1) x n=smQ x n:=jaj fun l hl=>by
 rw [bitQ,jmm n (by have:=h.hn;omega) l hl]
 grind
theorem Gok.sol (h:Gok n cs) {x:Nat→Rat}:Sol (2 ^ n-1) n (rwA2 (gmR n (2 ^ n-1) cs)) (rwB2 (gmR n (2 ^ n-1) cs) false) x↔Stab n cs x:=by
 have h4:n<4:=by have:=h.hn;omega
 have e:∀i,i<2 ^ n-1→smQ (fun j=>rwA2 (gmR n (2 ^ n-1) cs) i j*x j) n=gsum (i+1) x n:=fun i hi=>jaj fun j hj=>by rw [jmu hi hj]
 refine ⟨fun hx=>⟨hx.1,fun g hg=>?_⟩,fun hx=>⟨hx.1,fun i hi=>?_⟩⟩
 ·cases g with
  | zero =>
   rw [jjG,h.zero]
   exact Rat.le_refl
  | succ i =>
   have h1:=hx.2 i ZO
   rw [e i ZO,jjD ZO] at h1
   exact h1
 ·rw [e i hi,jjD hi]
  exact hx.2 (i+1) ZO
abbrev jb7 (n:Nat) (cs:List Int) (x y:Nat→Rat):Prop:=jaZ (2 ^ n-1) n (rwA2 (gmR n (2 ^ n-1) cs)) (rwB2 (gmR n (2 ^ n-1) cs) false) (fvR (gmL n)) (.best x y)
variable {x y z:Nat→Rat}
theorem jb7.stab (h:Gok n cs) (hE:jb7 n cs x y):Stab n cs x:=h.sol.1 hE.isB.1
theorem jb7.great (h:Gok n cs) (hE:jb7 n cs x y) (hz:Stab n cs z):smQ z n≤smQ x n:=by
 have hc:=hE.isB
 have h1:=weak (h.sol.2 hz) hc.2.1
 rw [hc.2.2] at h1
 have e:∀w:Nat→Rat,smQ (fun j=>fvR (gmL n) j*w j) n=smQ w n:=fun w=>jaj fun j hj=>by rw [jhv hj];grind
 rw [e,e] at h1
 exact h1
theorem jb7.kd (h:Gok n cs) (hE:jb7 n cs x y):Kd 96000000000000000 n x:=(h.gm.sm.kd hE:KdE _ _ (.best x y)).1
theorem Kd.gsum {V:Int} (h:Kd V n x) (hn:n≤8) (hV0:0≤V) (hV:8*V<pw 4) (g:Nat):∀k,k≤n→Pt 4 (gsum g x k):=by
 obtain ⟨K,h1,h2,h3⟩:=h
 have p4:(24:Int)<pw 4:=by decide
 have key:∀k,k≤n→IsI (Go.Proofs.YtgikfcjndiohjaaGreat.gsum g x k*((K:Int):Rat)) (k*V):=fun k hk=>by
  induction k with
  | zero =>
   unfold Go.Proofs.YtgikfcjndiohjaaGreat.gsum
   rw [smQ,Rat.zero_mul]
   exact IsI.zero ZO
  | succ k ih =>
   have e:Go.Proofs.YtgikfcjndiohjaaGreat.gsum g x (k+1)*((K:Int):Rat)=Go.Proofs.YtgikfcjndiohjaaGreat.gsum g x k*((K:Int):Rat)+bitQ g k*(x k*((K:Int):Rat)):=by
    unfold Go.Proofs.YtgikfcjndiohjaaGreat.gsum
    rw [smQ]
    grind
   rw [e]
   have hb:IsI (bitQ g k) 1:=⟨_,rfl,by have:=jb8 g k;omega⟩
   refine ((ih ZO).add (hb.mul (h3 k ZO))).mono ?_
   push_cast
   rw [Int.add_mul]
   omega
 intro k hk
 refine (key k hk).pt h1 ZO ?_
 have:(k:Int)*V≤8*V:=Int.mul_le_mul_of_nonneg_right ZO hV0
 omega
theorem Kd.gadd {V:Int} (h:Kd V n x) (hn:n≤8) (hV0:0≤V) (hV:8*V<pw 3) (g:Nat) (k:Nat) (hk:k<n):addK (Go.Proofs.YtgikfcjndiohjaaGreat.gsum g x k) (x k)=true:=by
 have h4:pw 3<pw 4:=by decide
 exact ((h.gsum hn hV0 ZO g k ZO).add (h.pt ZO k hk) Zb4).1
theorem jb7.le_all (h:Gok n cs) (hE:jb7 n cs x y):smQ x n≤((gi cs (2 ^ n-1):Int):Rat):=by
 have h1:=(hE.stab h).2 (2 ^ n-1) (by have:=(jbA n (by have:=h.hn;omega)).2;omega)
 rw [jb2 h] at h1
 exact h1
end
theorem jge (p:Int) (w:World) (hp: -9223372036854775808≤p∧p≤9223372036854775807) :
 Calls Tryz.prog 32 #[.int .i64 p] w (FrV w (p:Rat)):=by
 have K:=St.start w
 have r:=K.raw
 have h:=fun W=>jjh p 1 W hp Zb4
 rw [jbk Zb4,jbj Zb4,jdG] at h
 have HO:=jpk h
 clear h hp
 generalize ((p:Int):Rat)=z at *
 go_enter Tryz.func32,Tryz.ntmps32
 go_wp2_with (first|(refine ZAL ?_;clear K r;(first|((fail_if_success revert b0);intro W b0 K r)|intro W b K r))|(refine ZST ?_;clear K r;intro W K r))
 refine (HO.out _).mono ?_
 rintro e W' ⟨s7,A7,n7,c7,l7,t7,B7,m7,d7,k7,rfl,⟨hra,hrb⟩,ho,⟨hfa,hfb⟩,hb⟩
 have hf7:=jpk (hfa.mono K.1.size)
 have hg7:=jpk (hfb.mono K.1.size)
 replace K:=K.retF hb hra hrb hfa hfb
 clear r
 have r:=K.rawS
 clear hra hrb hfa hfb hb
 go_wp2_with (first|(refine ZAL ?_;clear K r;(first|((fail_if_success revert b0);intro W b0 K r)|intro W b K r))|(refine ZST ?_;clear K r;intro W K r))
 have HE:=jpk (⟨s7,A7,n7,c7,l7,t7,B7,m7,d7,k7,rfl,⟨ZRD,ZRD⟩,ho,⟨hf7.out,hg7.out⟩,K.1⟩:FrV w z (.returned (.agg #[.int .i64 s7,.slice A7 n7 c7,.int .i64 t7,.slice B7 m7 d7])) W)
 clear ho
 exact bodyPost_ret (v:=.agg #[.int .i64 s7,.slice A7 n7 c7,.int .i64 t7,.slice B7 m7 d7]) (by simp [results,Tryz.results32,go_sem,r]) rfl HE.out
theorem jds (s t:Int) (A A':Option Addr) (n cap n' cap':Nat) (l m:List Int) (w:World) (hl:RdI w w.heap.size A n cap l) (hm:RdI w w.heap.size A' n' cap' m) :
 Calls Tryz.prog 37 #[.agg #[.int .i64 s,.slice A n cap,.int .i64 t,.slice A' n' cap']] w fun e w'=>e=.returned (.bool (!jam s l t m))∧Below w.heap.size w w':=by
 have K:=((St.start w).oldRd hl).oldRd hm
 have r:=K.raw
 have HR:=jpk (fun W h g=>jaT s t A A' n cap n' cap' l m W h g)
 clear hl hm
 generalize jam s l t m=R at *
 go_enter Tryz.func37,Tryz.ntmps37
 go_wp2_with (first|(refine ZAL ?_;clear K r;(first|((fail_if_success revert b0);intro W b0 K r)|intro W b K r))|(refine ZST ?_;clear K r;intro W K r))
 refine (HR.out _ ZRD ZRD).mono ?_
 rintro e W' ⟨rfl,hb⟩
 replace K:=K.keep hb
 clear r
 have r:=K.rawS
 clear hb
 go_wp2
 go_ret
 exact ⟨rfl,K.1⟩
theorem jmw (A:Option Addr) (n cap:Nat) (l:List Fv) (w:World) (hl:RdF w w.heap.size A n cap l) :
 Calls Tryz.prog 76 #[.slice A n cap,.func (.func 37) #[] #[]] w (IdxF w (l.all Fv.ok)):=by
 have hcaps:=hl.caps
 have hlen:=hl.len
 have eg:=enters_of Tryz.func37 Zb9 rfl
 have Hlen:=jpk hlen;clear hlen
 have HL:=jpk (fun W (h:Below w.heap.size w W)=>hl.up jan h)
 go_enter Tryz.func76,Tryz.ntmps76
 go_wp2
 go_loopg [8] n (fun gk i wr=>∃k:Nat,k≤n∧gk=n-k∧i=.int .i64 k∧(∀j x,j<k→l[j]?=some x→x.ok=true)∧Below w.heap.size w wr)
 case atStart=>exact ⟨0,Nat.zero_le _,rfl,rfl,(fun j x h=>absurd h ZO),Below.refl _ _⟩
 case round =>
  obtain ⟨k,hk,rfl,rfl,hall,hb⟩:=hrel
  have Hall:=jpk hall;clear hall
  have HB:=jpk hb
  by_cases hlt:k<n
  ·obtain ⟨b,off,A1,n1,c1,A2,n2,c2,x,rfl,hbB,hx,⟨d0,d1,d2,d3⟩,r1,r2⟩:=(HL.out wr hb).atF hlt
   have hki:(k:Int)<(n:Int):=by omega
   have hk0:(0:Int)≤(k:Int):=by omega
   have Hx:=jpk hx;clear hx
   have HW:=jpk (jds x.s x.t A1 A2 n1 c1 n2 c2 x.l x.m wr r1 r2)
   have hcap1:=r1.caps
   have hcap2:=r2.caps
   have hok:jam x.s x.l x.t x.m=x.ok:=rfl
   rw [hok] at HW
   clear hok r1 r2 hb hl
   cases hin:x.ok
   ·rw [hin] at HW
    have Hno:=jpk (show l.all Fv.ok=false by
     exact jnw)
    clear hin
    go_wp2_with (go_at_call 37;refine HW.out.mono ?_;rintro e w1 ⟨rfl,hb1⟩)
    exact ZQ66
   ·rw [hin] at HW
    have Hin:=jpk hin
    clear hin
    go_wp2_with (go_at_call 37;refine HW.out.mono ?_;rintro e w1 ⟨rfl,hb1⟩)
    exact ZQ34
  ·have e:k=n:=by omega
   subst e
   have Hyes:=jpk (show l.all Fv.ok=true by
    exact ZQ46)
   exact ZQ76
theorem jkZ (A:Option Addr) (n cap:Nat) (l:List Fv) (w:World) (hl:RdF w w.heap.size A n cap l) :
 Calls Tryz.prog 36 #[.slice A n cap,.func (.func 37) #[] #[]] w fun e w'=>e=.returned (.bool (!l.all Fv.ok))∧Below w.heap.size w w':=by
 have Hidx:=jpk (jmw A n cap l w hl)
 clear hl
 generalize l.all Fv.ok=b at *
 go_enter Tryz.func36,Tryz.ntmps36
 go_wp2_with (go_at_call 76;refine Hidx.out.mono ?_;rintro e w1 ⟨i,rfl,hi1,hi2,hi3,hb⟩)
 go_ret
 exact ⟨rfl,hb⟩
def okM (c:Int):Bool:=decide (0≤c)&&decide (c≤1000000000000000)
theorem jmM (c:Int) (w:World):Calls Tryz.prog 42 #[.int .i64 c] w fun e w'=>e=.returned (.bool (!okM c))∧Below w.heap.size w w':=by
 by_cases h0:c<0
 ·have e:okM c=false:=by unfold okM;rw [decide_eq_false ZO,Bool.false_and]
  rw [e]
  have hd:decide (c<0)=true:=decide_eq_true h0
  exact jnx
 ·have hd:decide (c<0)=false:=decide_eq_false h0
  by_cases h1:c>1000000000000000
  ·have e:okM c=false:=by unfold okM;rw [decide_eq_false (p:=c≤1000000000000000) ZO,Bool.and_false]
   rw [e]
   have hd2:decide (c>1000000000000000)=true:=decide_eq_true h1
   have hd3:decide (1000000000000000<c)=true:=decide_eq_true h1
   exact jnx
  ·have e:okM c=true:=by unfold okM;rw [decide_eq_true ZO,decide_eq_true ZO];rfl
   rw [e]
   have hd2:decide (c>1000000000000000)=false:=decide_eq_false h1
   have hd3:decide (1000000000000000<c)=false:=decide_eq_false h1
   exact jnx
theorem jmx (A:Option Addr) (n cap:Nat) (l:List Int) (w:World) (hl:RdI w w.heap.size A n cap l) :
 Calls Tryz.prog 78 #[.slice A n cap,.func (.func 42) #[] #[]] w (IdxF w (l.all okM)):=by
 have hcaps:=hl.caps
 have hlen:=hl.len
 have eg:=enters_of Tryz.func42 Zb9 rfl
 have Hlen:=jpk hlen;clear hlen
 have HL:=jpk (fun W (h:Below w.heap.size w W)=>hl.up (jab _) h)
 go_enter Tryz.func78,Tryz.ntmps78
 go_wp2
 go_loopg [8] n (fun gk i wr=>∃k:Nat,k≤n∧gk=n-k∧i=.int .i64 k∧(∀j x,j<k→l[j]?=some x→okM x=true)∧Below w.heap.size w wr)
 case atStart=>exact ⟨0,Nat.zero_le _,rfl,rfl,(fun j x h=>absurd h ZO),Below.refl _ _⟩
 case round =>
  obtain ⟨k,hk,rfl,rfl,hall,hb⟩:=hrel
  have Hall:=jpk hall;clear hall
  have HB:=jpk hb
  by_cases hlt:k<n
  ·have hlk:k<l.length:=by have:=Hlen.out;omega
   have Hx:=jpk (show l[k]?=some (gi l k) by
    unfold gi
    rw [List.getD_eq_getElem?_getD,List.getElem?_eq_getElem hlk,Option.getD_some])
   obtain ⟨vb,vo,hA,hvb,hc⟩:=RdI.cellAt (HL.out wr hb) hlt
   subst hA
   have hki:(k:Int)<(n:Int):=by omega
   have hk0:(0:Int)≤(k:Int):=by omega
   have HW:=jpk (fun W=>jmM (gi l k) W)
   clear hb hl hlk hvb
   cases hin:okM (gi l k)
   ·rw [hin] at HW
    have Hno:=jpk (show l.all okM=false by
     rw [List.all_eq_false];exact ⟨_,List.mem_of_getElem? Hx.out,by simp [hin]⟩)
    clear hin
    go_wp2_with (go_at_call 42;refine (HW.out _).mono ?_;rintro e w1 ⟨rfl,hb1⟩)
    exact ZQ66
   ·rw [hin] at HW
    have Hin:=jpk hin
    clear hin
    go_wp2_with (go_at_call 42;refine (HW.out _).mono ?_;rintro e w1 ⟨rfl,hb1⟩)
    exact ZQ34
  ·have e:k=n:=by omega
   subst e
   have Hyes:=jpk (show l.all okM=true by
    exact ZQ46)
   exact ZQ76
theorem jk0 (A:Option Addr) (n cap:Nat) (l:List Int) (w:World) (hl:RdI w w.heap.size A n cap l) :
 Calls Tryz.prog 43 #[.slice A n cap,.func (.func 42) #[] #[]] w fun e w'=>e=.returned (.bool (!l.all okM))∧Below w.heap.size w w':=by
 have Hidx:=jpk (jmx A n cap l w hl)
 clear hl
 generalize l.all okM=b at *
 go_enter Tryz.func43,Tryz.ntmps43
 go_wp2_with (go_at_call 78;refine Hidx.out.mono ?_;rintro e w1 ⟨i,rfl,hi1,hi2,hi3,hb⟩)
 go_ret
 exact ⟨rfl,hb⟩
theorem jf2:∀g,g<32→∀l,l<5→bits .and .i64 (((g:Nat):Int) / 2 ^ l) 1=bitI g l:=by decide +kernel
theorem jdK (g l:Nat) (w:World) (hg:g<32) (hl:l<5):Calls Tryz.prog 25 #[.int .i64 g,.int .i64 l] w fun e w'=>e=.returned (.int .i64 (bitI g l))∧Below w.heap.size w w':=by
 have hk:=jf2 g hg l hl
 generalize bitI g l=B at *
 go_enter Tryz.func25,Tryz.ntmps25
 go_wp2
 go_ret
 exact ⟨by rw [←hk];rfl,Below.refl _ _⟩
theorem jnP (g l:Nat) (w:World) (hg:g<32) (hl:l<5):Calls Tryz.prog 38 #[.int .i64 g,.int .i64 l] w fun e w'=>e=.returned (.bool (decide (bitI g l=1)))∧Below w.heap.size w w':=by
 have hk:=jf2 g hg l hl
 generalize bitI g l=B at *
 go_enter Tryz.func38,Tryz.ntmps38
 go_wp2
 go_ret
 exact ⟨by rw [←hk];rfl,Below.refl _ _⟩
theorem jed (rd:Int) (C:Option Addr) (nc cc:Nat) (w:World):Calls Tryz.prog 7 #[.agg #[.int .i64 rd,.slice C nc cc]] w fun e w'=>e=.returned (.bool (decide (rd≤3)&&decide (nc≤10)))∧Below w.heap.size w w':=by
 have K:=St.start w
 have r:=K.raw
 by_cases h3:rd≤3
 ·have hd:decide (rd≤3)=true:=decide_eq_true h3
  by_cases h10:(nc:Int)≤10
  ·have hd2:decide ((nc:Int)≤10)=true:=decide_eq_true h10
   have hd3:decide (nc≤10)=true:=decide_eq_true ZO
   rw [hd,hd3]
   exact ZQ73
  ·have hd2:decide ((nc:Int)≤10)=false:=decide_eq_false h10
   have hd3:decide (nc≤10)=false:=decide_eq_false ZO
   rw [hd,hd3]
   exact ZQ73
 ·have hd:decide (rd≤3)=false:=decide_eq_false h3
  rw [hd,Bool.false_and]
  exact ZQ73
def jfJ (rd:Int) (cs:List Int):Bool:=(decide (0≤rd)&&decide ((cs.length:Int)=2 ^ rd.toNat))&&(decide (gi cs 0=0)&&cs.all okM)
theorem jcH (rd:Int) (C:Option Addr) (nc cc:Nat) (cs:List Int) (w:World) (hc:RdI w w.heap.size C nc cc cs) (h3:rd≤3) (h10:nc≤10) :
 Calls Tryz.prog 16 #[.agg #[.int .i64 rd,.slice C nc cc]] w fun e w'=>e=.returned (.bool (jfJ rd cs))∧Below w.heap.size w w':=by
 have hcap:=hc.caps
 have hlen:=hc.len
 have HL:=jpk hc
 have HC:=jpk (fun W (h:Below w.heap.size w W)=>jk0 C nc cc cs W (hc.up (jab _) h))
 obtain ⟨R,hR⟩:∃R,R=jfJ rd cs:=⟨_,rfl⟩
 rw [←hR]
 unfold jfJ at hR
 have K:=St.start w
 have r:=K.raw
 clear hc
 by_cases h0:rd<0
 ·have hd:decide (rd<0)=true:=decide_eq_true h0
  rw [decide_eq_false (p:=0≤rd) ZO,Bool.false_and,Bool.false_and] at hR
  subst hR
  clear hlen
  go_enter Tryz.func16,Tryz.ntmps16
  go_upto_region 2 with (first|(apply K.box;rfl;rfl;rfl;clear K r;intro W b0 K;have r:=K.rawS)|(go_at_call 43;refine (HC.out _ K.1).mono ?_;rintro e W' ⟨rfl,hb⟩;replace K:=K.keep hb;clear hb r;have r:=K.rawS))
  go_region
  all_goals
   replace K:=K.drew
   clear r
   have r:=K.rawS
   generalize World.drew _=W2 at K r ⊢
   exact ZQ8
 have hd:decide (rd<0)=false:=decide_eq_false h0
 have hcase:rd=0∨rd=1∨rd=2∨rd=3:=by omega
 rw [hlen] at hR
 clear h0 hd h3
 rcases hcase with rfl|rfl|rfl|rfl
 ·by_cases hn:(nc:Int)=1
  ·obtain rfl:nc=1:=by omega
   rw [show decide (((1:Nat):Int)=2 ^ (Int.toNat 0))=true from by decide,show decide ((0:Int)≤0)=true from by decide,Bool.and_true,Bool.true_and] at hR
   exact ZQ2
  ·have hd2:((nc:Int) !=1)=true:=by simp [hn]
   rw [show decide ((nc:Int)=2 ^ (Int.toNat 0))=false from decide_eq_false hn,Bool.and_false,Bool.false_and] at hR
   subst hR
   clear hlen
   go_enter Tryz.func16,Tryz.ntmps16
   go_upto_region 2 with (first|(apply K.box;rfl;rfl;rfl;clear K r;intro W b0 K;have r:=K.rawS)|(go_at_call 43;refine (HC.out _ K.1).mono ?_;rintro e W' ⟨rfl,hb⟩;replace K:=K.keep hb;clear hb r;have r:=K.rawS))
   go_region
   all_goals
    replace K:=K.drew
    clear r
    have r:=K.rawS
    generalize World.drew _=W2 at K r ⊢
    exact ZQ8
 ·by_cases hn:(nc:Int)=2
  ·obtain rfl:nc=2:=by omega
   rw [show decide (((2:Nat):Int)=2 ^ (Int.toNat 1))=true from by decide,show decide ((0:Int)≤1)=true from by decide,Bool.and_true,Bool.true_and] at hR
   exact ZQ2
  ·have hd2:((nc:Int) !=2)=true:=by simp [hn]
   rw [show decide ((nc:Int)=2 ^ (Int.toNat 1))=false from decide_eq_false hn,Bool.and_false,Bool.false_and] at hR
   subst hR
   clear hlen
   go_enter Tryz.func16,Tryz.ntmps16
   go_upto_region 2 with (first|(apply K.box;rfl;rfl;rfl;clear K r;intro W b0 K;have r:=K.rawS)|(go_at_call 43;refine (HC.out _ K.1).mono ?_;rintro e W' ⟨rfl,hb⟩;replace K:=K.keep hb;clear hb r;have r:=K.rawS))
   go_region
   all_goals
    replace K:=K.drew
    clear r
    have r:=K.rawS
    generalize World.drew _=W2 at K r ⊢
    exact ZQ8
 ·by_cases hn:(nc:Int)=4
  ·obtain rfl:nc=4:=by omega
   rw [show decide (((4:Nat):Int)=2 ^ (Int.toNat 2))=true from by decide,show decide ((0:Int)≤2)=true from by decide,Bool.and_true,Bool.true_and] at hR
   exact ZQ2
  ·have hd2:((nc:Int) !=4)=true:=by simp [hn]
   rw [show decide ((nc:Int)=2 ^ (Int.toNat 2))=false from decide_eq_false hn,Bool.and_false,Bool.false_and] at hR
   subst hR
   clear hlen
   go_enter Tryz.func16,Tryz.ntmps16
   go_upto_region 2 with (first|(apply K.box;rfl;rfl;rfl;clear K r;intro W b0 K;have r:=K.rawS)|(go_at_call 43;refine (HC.out _ K.1).mono ?_;rintro e W' ⟨rfl,hb⟩;replace K:=K.keep hb;clear hb r;have r:=K.rawS))
   go_region
   all_goals
    replace K:=K.drew
    clear r
    have r:=K.rawS
    generalize World.drew _=W2 at K r ⊢
    exact ZQ8
 ·by_cases hn:(nc:Int)=8
  ·obtain rfl:nc=8:=by omega
   rw [show decide (((8:Nat):Int)=2 ^ (Int.toNat 3))=true from by decide,show decide ((0:Int)≤3)=true from by decide,Bool.and_true,Bool.true_and] at hR
   exact ZQ2
  ·have hd2:((nc:Int) !=8)=true:=by simp [hn]
   rw [show decide ((nc:Int)=2 ^ (Int.toNat 3))=false from decide_eq_false hn,Bool.and_false,Bool.false_and] at hR
   subst hR
   clear hlen
   go_enter Tryz.func16,Tryz.ntmps16
   go_upto_region 2 with (first|(apply K.box;rfl;rfl;rfl;clear K r;intro W b0 K;have r:=K.rawS)|(go_at_call 43;refine (HC.out _ K.1).mono ?_;rintro e W' ⟨rfl,hb⟩;replace K:=K.keep hb;clear hb r;have r:=K.rawS))
   go_region
   all_goals
    replace K:=K.drew
    clear r
    have r:=K.rawS
    generalize World.drew _=W2 at K r ⊢
    exact ZQ8
def isum (g:Nat) (f:Nat→Int):Nat→Int
 | 0=>0
 | k+1=>isum g f k+bitI g k*f k
section
variable {n:Nat} {cs:List Int}
theorem jdJ (g:Nat) (f:Nat→Int):∀k,gsum g (fun u=>((f u:Int):Rat)) k=((isum g f k:Int):Rat)
 | 0=>rfl
 | k+1=>by
  have h:=jdJ g f k
  unfold gsum at h ⊢
  rw [smQ,h,isum,Rat.intCast_add,Rat.intCast_mul]
theorem jhf {f:Nat→Int} (h1:∀u,u<n→0≤f u) (h2:∀g,g<2 ^ n→isum g f n≤gi cs g):Stab n cs (fun u=>((f u:Int):Rat)):=⟨fun u hu=>Rat.intCast_le_intCast.2 (h1 u hu),fun g hg=>by
 rw [jdJ]
 exact Rat.intCast_le_intCast.2 (h2 g hg)⟩
theorem jb7.tight {f:Nat→Int} {x y:Nat→Rat} (h:Gok n cs) (hE:jb7 n cs x y) (h1:∀u,u<n→0≤f u) (h2:∀g,g<2 ^ n→isum g f n≤gi cs g) (h3:isum (2 ^ n-1) f n=gi cs (2 ^ n-1)):smQ x n=((gi cs (2 ^ n-1):Int):Rat):=by
 refine Rat.le_antisymm (hE.le_all h) ?_
 have e:=hE.great h (jhf h1 h2)
 rw [←jb2 h,jdJ,h3] at e
 exact e
end
def jcW (n:Nat) (cs:List Int):Prop:=∀s,s<2 ^ n→∀i,i<n→bitI s i=0→0≤gi cs (s ||| 1 <<< i)-gi cs s∧∀k,k<n→bitI s k=1→gi cs (s ||| 1 <<< i)-gi cs s≤gi cs ((s ^^^ 1 <<< k) ||| 1 <<< i)-gi cs (s ^^^ 1 <<< k)
def nxW (n g:Nat):Nat→Nat→Nat
 | 0,w=>w
 | t+1,w=>if bitI g w=1 then nxW n g t ((w+1)%n) else w
def mrg (n:Nat) (cs:List Int) (o:Nat→Nat):Nat→Nat × (Nat→Int)
 | 0=>(0,fun _=>0)
 | k+1=>((mrg n cs o k).1 ||| 1 <<< nxW n (mrg n cs o k).1 n (o k),fun u=>if u=nxW n (mrg n cs o k).1 n (o k) then gi cs ((mrg n cs o k).1 ||| 1 <<< nxW n (mrg n cs o k).1 n (o k))-gi cs (mrg n cs o k).1 else (mrg n cs o k).2 u)
def Fair (n:Nat) (cs:List Int) (g:Nat) (f:Nat→Int):Prop:=g=2 ^ n-1∧(∀u,u<n→0≤f u)∧(∀g,g<2 ^ n→isum g f n≤gi cs g)∧isum (2 ^ n-1) f n=gi cs (2 ^ n-1)
theorem mrg1 {cs:List Int} {o:Nat→Nat} (hz:gi cs 0=0) (hc:jcW 1 cs) (h0:o 0<1):Fair 1 cs (mrg 1 cs o 1).1 (mrg 1 cs o 1).2:=by
 have e0:o 0=0:=by omega
 have c1:0≤gi cs 1-gi cs 0:=(hc 0 Zb4 0 Zb4 Zb4).1
 have em:mrg 1 cs o 1=(1,fun u=>if u=0 then gi cs 1-gi cs 0 else 0):=by
  simp only [mrg,e0]
  rfl
 rw [em]
 refine ⟨rfl,fun u hu=>?_,fun g hg=>?_,?_⟩
 ·obtain rfl:u=0:=by omega
  exact c1
 ·have:g=0∨g=1:=by omega
  rcases this with rfl|rfl
  ·show 0+0*_≤gi cs 0
   omega
  ·show 0+1*(gi cs 1-gi cs 0)≤gi cs 1
   omega
 ·show 0+1*(gi cs 1-gi cs 0)=gi cs 1
  omega
theorem jmf {cs:List Int} (hz:gi cs 0=0) (hc:jcW 2 cs):Fair 2 cs 3 (fun u=>if u=1 then gi cs 3-gi cs 1 else if u=0 then gi cs 1-gi cs 0 else 0):=by
 have a0_0:0≤gi cs 1-gi cs 0:=(hc 0 Zb4 0 Zb4 Zb4).1
 have a0_1:0≤gi cs 2-gi cs 0:=(hc 0 Zb4 1 Zb4 Zb4).1
 have a1_1:0≤gi cs 3-gi cs 1:=(hc 1 Zb4 1 Zb4 Zb4).1
 have d1_1_0:gi cs 3-gi cs 1≤gi cs 2-gi cs 0:=(hc 1 Zb4 1 Zb4 Zb4).2 0 Zb4 Zb4
 have a2_0:0≤gi cs 3-gi cs 2:=(hc 2 Zb4 0 Zb4 Zb4).1
 have d2_0_1:gi cs 3-gi cs 2≤gi cs 1-gi cs 0:=(hc 2 Zb4 0 Zb4 Zb4).2 1 Zb4 Zb4
 refine ⟨rfl,fun u hu=>?_,fun g hg=>?_,?_⟩
 ·have hu2:u=0∨u=1:=by omega
  rcases hu2 with rfl|rfl
  ·show 0≤gi cs 1-gi cs 0
   omega
  ·show 0≤gi cs 3-gi cs 1
   omega
 ·have hg2:g=0∨g=1∨g=2∨g=3:=by omega
  rcases hg2 with rfl|rfl|rfl|rfl
  ·show ((0+0*(gi cs 1-gi cs 0))+0*(gi cs 3-gi cs 1))≤gi cs 0
   omega
  ·show ((0+1*(gi cs 1-gi cs 0))+0*(gi cs 3-gi cs 1))≤gi cs 1
   omega
  ·show ((0+0*(gi cs 1-gi cs 0))+1*(gi cs 3-gi cs 1))≤gi cs 2
   omega
  ·show ((0+1*(gi cs 1-gi cs 0))+1*(gi cs 3-gi cs 1))≤gi cs 3
   omega
 ·show ((0+1*(gi cs 1-gi cs 0))+1*(gi cs 3-gi cs 1))=gi cs 3
  omega
theorem jmg {cs:List Int} (hz:gi cs 0=0) (hc:jcW 2 cs):Fair 2 cs 3 (fun u=>if u=0 then gi cs 3-gi cs 2 else if u=1 then gi cs 2-gi cs 0 else 0):=by
 have a0_0:0≤gi cs 1-gi cs 0:=(hc 0 Zb4 0 Zb4 Zb4).1
 have a0_1:0≤gi cs 2-gi cs 0:=(hc 0 Zb4 1 Zb4 Zb4).1
 have a1_1:0≤gi cs 3-gi cs 1:=(hc 1 Zb4 1 Zb4 Zb4).1
 have d1_1_0:gi cs 3-gi cs 1≤gi cs 2-gi cs 0:=(hc 1 Zb4 1 Zb4 Zb4).2 0 Zb4 Zb4
 have a2_0:0≤gi cs 3-gi cs 2:=(hc 2 Zb4 0 Zb4 Zb4).1
 have d2_0_1:gi cs 3-gi cs 2≤gi cs 1-gi cs 0:=(hc 2 Zb4 0 Zb4 Zb4).2 1 Zb4 Zb4
 refine ⟨rfl,fun u hu=>?_,fun g hg=>?_,?_⟩
 ·have hu2:u=0∨u=1:=by omega
  rcases hu2 with rfl|rfl
  ·show 0≤gi cs 3-gi cs 2
   omega
  ·show 0≤gi cs 2-gi cs 0
   omega
 ·have hg2:g=0∨g=1∨g=2∨g=3:=by omega
  rcases hg2 with rfl|rfl|rfl|rfl
  ·show ((0+0*(gi cs 3-gi cs 2))+0*(gi cs 2-gi cs 0))≤gi cs 0
   omega
  ·show ((0+1*(gi cs 3-gi cs 2))+0*(gi cs 2-gi cs 0))≤gi cs 1
   omega
  ·show ((0+0*(gi cs 3-gi cs 2))+1*(gi cs 2-gi cs 0))≤gi cs 2
   omega
  ·show ((0+1*(gi cs 3-gi cs 2))+1*(gi cs 2-gi cs 0))≤gi cs 3
   omega
 ·show ((0+1*(gi cs 3-gi cs 2))+1*(gi cs 2-gi cs 0))=gi cs 3
  omega
theorem mrg2 {cs:List Int} {o:Nat→Nat} (hz:gi cs 0=0) (hc:jcW 2 cs) (h:∀k,k<2→o k<2):Fair 2 cs (mrg 2 cs o 2).1 (mrg 2 cs o 2).2:=by
 have h0:o 0=0∨o 0=1:=by have:=h 0 Zb4;omega
 have h1:o 1=0∨o 1=1:=by have:=h 1 Zb4;omega
 rcases h0 with e0|e0
 ·skip
  rcases h1 with e1|e1
  ·skip
   exact ZQ100
  ·skip
   exact ZQ100
 ·skip
  rcases h1 with e1|e1
  ·skip
   exact ZQ99
  ·skip
   exact ZQ99
theorem jjj {cs:List Int} (hz:gi cs 0=0) (hc:jcW 3 cs):Fair 3 cs 7 (fun u=>if u=2 then gi cs 7-gi cs 3 else if u=1 then gi cs 3-gi cs 1 else if u=0 then gi cs 1-gi cs 0 else 0):=by
 have a0_0:0≤gi cs 1-gi cs 0:=(hc 0 Zb4 0 Zb4 Zb4).1
 have a0_1:0≤gi cs 2-gi cs 0:=(hc 0 Zb4 1 Zb4 Zb4).1
 have a0_2:0≤gi cs 4-gi cs 0:=(hc 0 Zb4 2 Zb4 Zb4).1
 have a1_1:0≤gi cs 3-gi cs 1:=(hc 1 Zb4 1 Zb4 Zb4).1
 have d1_1_0:gi cs 3-gi cs 1≤gi cs 2-gi cs 0:=(hc 1 Zb4 1 Zb4 Zb4).2 0 Zb4 Zb4
 have a1_2:0≤gi cs 5-gi cs 1:=(hc 1 Zb4 2 Zb4 Zb4).1
 have d1_2_0:gi cs 5-gi cs 1≤gi cs 4-gi cs 0:=(hc 1 Zb4 2 Zb4 Zb4).2 0 Zb4 Zb4
 have a2_0:0≤gi cs 3-gi cs 2:=(hc 2 Zb4 0 Zb4 Zb4).1
 have d2_0_1:gi cs 3-gi cs 2≤gi cs 1-gi cs 0:=(hc 2 Zb4 0 Zb4 Zb4).2 1 Zb4 Zb4
 have a2_2:0≤gi cs 6-gi cs 2:=(hc 2 Zb4 2 Zb4 Zb4).1
 have d2_2_1:gi cs 6-gi cs 2≤gi cs 4-gi cs 0:=(hc 2 Zb4 2 Zb4 Zb4).2 1 Zb4 Zb4
 have a3_2:0≤gi cs 7-gi cs 3:=(hc 3 Zb4 2 Zb4 Zb4).1
 have d3_2_0:gi cs 7-gi cs 3≤gi cs 6-gi cs 2:=(hc 3 Zb4 2 Zb4 Zb4).2 0 Zb4 Zb4
 have d3_2_1:gi cs 7-gi cs 3≤gi cs 5-gi cs 1:=(hc 3 Zb4 2 Zb4 Zb4).2 1 Zb4 Zb4
 have a4_0:0≤gi cs 5-gi cs 4:=(hc 4 Zb4 0 Zb4 Zb4).1
 have d4_0_2:gi cs 5-gi cs 4≤gi cs 1-gi cs 0:=(hc 4 Zb4 0 Zb4 Zb4).2 2 Zb4 Zb4
 have a4_1:0≤gi cs 6-gi cs 4:=(hc 4 Zb4 1 Zb4 Zb4).1
 have d4_1_2:gi cs 6-gi cs 4≤gi cs 2-gi cs 0:=(hc 4 Zb4 1 Zb4 Zb4).2 2 Zb4 Zb4
 have a5_1:0≤gi cs 7-gi cs 5:=(hc 5 Zb4 1 Zb4 Zb4).1
 have d5_1_0:gi cs 7-gi cs 5≤gi cs 6-gi cs 4:=(hc 5 Zb4 1 Zb4 Zb4).2 0 Zb4 Zb4
 have d5_1_2:gi cs 7-gi cs 5≤gi cs 3-gi cs 1:=(hc 5 Zb4 1 Zb4 Zb4).2 2 Zb4 Zb4
 have a6_0:0≤gi cs 7-gi cs 6:=(hc 6 Zb4 0 Zb4 Zb4).1
 have d6_0_1:gi cs 7-gi cs 6≤gi cs 5-gi cs 4:=(hc 6 Zb4 0 Zb4 Zb4).2 1 Zb4 Zb4
 have d6_0_2:gi cs 7-gi cs 6≤gi cs 3-gi cs 2:=(hc 6 Zb4 0 Zb4 Zb4).2 2 Zb4 Zb4
 refine ⟨rfl,fun u hu=>?_,fun g hg=>?_,?_⟩
 ·have hu2:u=0∨u=1∨u=2:=by omega
  rcases hu2 with rfl|rfl|rfl
  ·show 0≤gi cs 1-gi cs 0
   omega
  ·show 0≤gi cs 3-gi cs 1
   omega
  ·show 0≤gi cs 7-gi cs 3
   omega
 ·have hg2:g=0∨g=1∨g=2∨g=3∨g=4∨g=5∨g=6∨g=7:=by omega
  rcases hg2 with rfl|rfl|rfl|rfl|rfl|rfl|rfl|rfl
  ·show (((0+0*(gi cs 1-gi cs 0))+0*(gi cs 3-gi cs 1))+0*(gi cs 7-gi cs 3))≤gi cs 0
   omega
  ·show (((0+1*(gi cs 1-gi cs 0))+0*(gi cs 3-gi cs 1))+0*(gi cs 7-gi cs 3))≤gi cs 1
   omega
  ·show (((0+0*(gi cs 1-gi cs 0))+1*(gi cs 3-gi cs 1))+0*(gi cs 7-gi cs 3))≤gi cs 2
   omega
  ·show (((0+1*(gi cs 1-gi cs 0))+1*(gi cs 3-gi cs 1))+0*(gi cs 7-gi cs 3))≤gi cs 3
   omega
  ·show (((0+0*(gi cs 1-gi cs 0))+0*(gi cs 3-gi cs 1))+1*(gi cs 7-gi cs 3))≤gi cs 4
   omega
  ·show (((0+1*(gi cs 1-gi cs 0))+0*(gi cs 3-gi cs 1))+1*(gi cs 7-gi cs 3))≤gi cs 5
   omega
  ·show (((0+0*(gi cs 1-gi cs 0))+1*(gi cs 3-gi cs 1))+1*(gi cs 7-gi cs 3))≤gi cs 6
   omega
  ·show (((0+1*(gi cs 1-gi cs 0))+1*(gi cs 3-gi cs 1))+1*(gi cs 7-gi cs 3))≤gi cs 7
   omega
 ·show (((0+1*(gi cs 1-gi cs 0))+1*(gi cs 3-gi cs 1))+1*(gi cs 7-gi cs 3))=gi cs 7
  omega
theorem jjk {cs:List Int} (hz:gi cs 0=0) (hc:jcW 3 cs):Fair 3 cs 7 (fun u=>if u=1 then gi cs 7-gi cs 5 else if u=2 then gi cs 5-gi cs 1 else if u=0 then gi cs 1-gi cs 0 else 0):=by
 have a0_0:0≤gi cs 1-gi cs 0:=(hc 0 Zb4 0 Zb4 Zb4).1
 have a0_1:0≤gi cs 2-gi cs 0:=(hc 0 Zb4 1 Zb4 Zb4).1
 have a0_2:0≤gi cs 4-gi cs 0:=(hc 0 Zb4 2 Zb4 Zb4).1
 have a1_1:0≤gi cs 3-gi cs 1:=(hc 1 Zb4 1 Zb4 Zb4).1
 have d1_1_0:gi cs 3-gi cs 1≤gi cs 2-gi cs 0:=(hc 1 Zb4 1 Zb4 Zb4).2 0 Zb4 Zb4
 have a1_2:0≤gi cs 5-gi cs 1:=(hc 1 Zb4 2 Zb4 Zb4).1
 have d1_2_0:gi cs 5-gi cs 1≤gi cs 4-gi cs 0:=(hc 1 Zb4 2 Zb4 Zb4).2 0 Zb4 Zb4
 have a2_0:0≤gi cs 3-gi cs 2:=(hc 2 Zb4 0 Zb4 Zb4).1
 have d2_0_1:gi cs 3-gi cs 2≤gi cs 1-gi cs 0:=(hc 2 Zb4 0 Zb4 Zb4).2 1 Zb4 Zb4
 have a2_2:0≤gi cs 6-gi cs 2:=(hc 2 Zb4 2 Zb4 Zb4).1
 have d2_2_1:gi cs 6-gi cs 2≤gi cs 4-gi cs 0:=(hc 2 Zb4 2 Zb4 Zb4).2 1 Zb4 Zb4
 have a3_2:0≤gi cs 7-gi cs 3:=(hc 3 Zb4 2 Zb4 Zb4).1
 have d3_2_0:gi cs 7-gi cs 3≤gi cs 6-gi cs 2:=(hc 3 Zb4 2 Zb4 Zb4).2 0 Zb4 Zb4
 have d3_2_1:gi cs 7-gi cs 3≤gi cs 5-gi cs 1:=(hc 3 Zb4 2 Zb4 Zb4).2 1 Zb4 Zb4
 have a4_0:0≤gi cs 5-gi cs 4:=(hc 4 Zb4 0 Zb4 Zb4).1
 have d4_0_2:gi cs 5-gi cs 4≤gi cs 1-gi cs 0:=(hc 4 Zb4 0 Zb4 Zb4).2 2 Zb4 Zb4
 have a4_1:0≤gi cs 6-gi cs 4:=(hc 4 Zb4 1 Zb4 Zb4).1
 have d4_1_2:gi cs 6-gi cs 4≤gi cs 2-gi cs 0:=(hc 4 Zb4 1 Zb4 Zb4).2 2 Zb4 Zb4
 have a5_1:0≤gi cs 7-gi cs 5:=(hc 5 Zb4 1 Zb4 Zb4).1
 have d5_1_0:gi cs 7-gi cs 5≤gi cs 6-gi cs 4:=(hc 5 Zb4 1 Zb4 Zb4).2 0 Zb4 Zb4
 have d5_1_2:gi cs 7-gi cs 5≤gi cs 3-gi cs 1:=(hc 5 Zb4 1 Zb4 Zb4).2 2 Zb4 Zb4
 have a6_0:0≤gi cs 7-gi cs 6:=(hc 6 Zb4 0 Zb4 Zb4).1
 have d6_0_1:gi cs 7-gi cs 6≤gi cs 5-gi cs 4:=(hc 6 Zb4 0 Zb4 Zb4).2 1 Zb4 Zb4
 have d6_0_2:gi cs 7-gi cs 6≤gi cs 3-gi cs 2:=(hc 6 Zb4 0 Zb4 Zb4).2 2 Zb4 Zb4
 refine ⟨rfl,fun u hu=>?_,fun g hg=>?_,?_⟩
 ·have hu2:u=0∨u=1∨u=2:=by omega
  rcases hu2 with rfl|rfl|rfl
  ·show 0≤gi cs 1-gi cs 0
   omega
  ·show 0≤gi cs 7-gi cs 5
   omega
  ·show 0≤gi cs 5-gi cs 1
   omega
 ·have hg2:g=0∨g=1∨g=2∨g=3∨g=4∨g=5∨g=6∨g=7:=by omega
  rcases hg2 with rfl|rfl|rfl|rfl|rfl|rfl|rfl|rfl
  ·show (((0+0*(gi cs 1-gi cs 0))+0*(gi cs 7-gi cs 5))+0*(gi cs 5-gi cs 1))≤gi cs 0
   omega
  ·show (((0+1*(gi cs 1-gi cs 0))+0*(gi cs 7-gi cs 5))+0*(gi cs 5-gi cs 1))≤gi cs 1
   omega
  ·show (((0+0*(gi cs 1-gi cs 0))+1*(gi cs 7-gi cs 5))+0*(gi cs 5-gi cs 1))≤gi cs 2
   omega
  ·show (((0+1*(gi cs 1-gi cs 0))+1*(gi cs 7-gi cs 5))+0*(gi cs 5-gi cs 1))≤gi cs 3
   omega
  ·show (((0+0*(gi cs 1-gi cs 0))+0*(gi cs 7-gi cs 5))+1*(gi cs 5-gi cs 1))≤gi cs 4
   omega
  ·show (((0+1*(gi cs 1-gi cs 0))+0*(gi cs 7-gi cs 5))+1*(gi cs 5-gi cs 1))≤gi cs 5
   omega
  ·show (((0+0*(gi cs 1-gi cs 0))+1*(gi cs 7-gi cs 5))+1*(gi cs 5-gi cs 1))≤gi cs 6
   omega
  ·show (((0+1*(gi cs 1-gi cs 0))+1*(gi cs 7-gi cs 5))+1*(gi cs 5-gi cs 1))≤gi cs 7
   omega
 ·show (((0+1*(gi cs 1-gi cs 0))+1*(gi cs 7-gi cs 5))+1*(gi cs 5-gi cs 1))=gi cs 7
  omega
theorem jjm {cs:List Int} (hz:gi cs 0=0) (hc:jcW 3 cs):Fair 3 cs 7 (fun u=>if u=2 then gi cs 7-gi cs 3 else if u=0 then gi cs 3-gi cs 2 else if u=1 then gi cs 2-gi cs 0 else 0):=by
 have a0_0:0≤gi cs 1-gi cs 0:=(hc 0 Zb4 0 Zb4 Zb4).1
 have a0_1:0≤gi cs 2-gi cs 0:=(hc 0 Zb4 1 Zb4 Zb4).1
 have a0_2:0≤gi cs 4-gi cs 0:=(hc 0 Zb4 2 Zb4 Zb4).1
 have a1_1:0≤gi cs 3-gi cs 1:=(hc 1 Zb4 1 Zb4 Zb4).1
 have d1_1_0:gi cs 3-gi cs 1≤gi cs 2-gi cs 0:=(hc 1 Zb4 1 Zb4 Zb4).2 0 Zb4 Zb4
 have a1_2:0≤gi cs 5-gi cs 1:=(hc 1 Zb4 2 Zb4 Zb4).1
 have d1_2_0:gi cs 5-gi cs 1≤gi cs 4-gi cs 0:=(hc 1 Zb4 2 Zb4 Zb4).2 0 Zb4 Zb4
 have a2_0:0≤gi cs 3-gi cs 2:=(hc 2 Zb4 0 Zb4 Zb4).1
 have d2_0_1:gi cs 3-gi cs 2≤gi cs 1-gi cs 0:=(hc 2 Zb4 0 Zb4 Zb4).2 1 Zb4 Zb4
 have a2_2:0≤gi cs 6-gi cs 2:=(hc 2 Zb4 2 Zb4 Zb4).1
 have d2_2_1:gi cs 6-gi cs 2≤gi cs 4-gi cs 0:=(hc 2 Zb4 2 Zb4 Zb4).2 1 Zb4 Zb4
 have a3_2:0≤gi cs 7-gi cs 3:=(hc 3 Zb4 2 Zb4 Zb4).1
 have d3_2_0:gi cs 7-gi cs 3≤gi cs 6-gi cs 2:=(hc 3 Zb4 2 Zb4 Zb4).2 0 Zb4 Zb4
 have d3_2_1:gi cs 7-gi cs 3≤gi cs 5-gi cs 1:=(hc 3 Zb4 2 Zb4 Zb4).2 1 Zb4 Zb4
 have a4_0:0≤gi cs 5-gi cs 4:=(hc 4 Zb4 0 Zb4 Zb4).1
 have d4_0_2:gi cs 5-gi cs 4≤gi cs 1-gi cs 0:=(hc 4 Zb4 0 Zb4 Zb4).2 2 Zb4 Zb4
 have a4_1:0≤gi cs 6-gi cs 4:=(hc 4 Zb4 1 Zb4 Zb4).1
 have d4_1_2:gi cs 6-gi cs 4≤gi cs 2-gi cs 0:=(hc 4 Zb4 1 Zb4 Zb4).2 2 Zb4 Zb4
 have a5_1:0≤gi cs 7-gi cs 5:=(hc 5 Zb4 1 Zb4 Zb4).1
 have d5_1_0:gi cs 7-gi cs 5≤gi cs 6-gi cs 4:=(hc 5 Zb4 1 Zb4 Zb4).2 0 Zb4 Zb4
 have d5_1_2:gi cs 7-gi cs 5≤gi cs 3-gi cs 1:=(hc 5 Zb4 1 Zb4 Zb4).2 2 Zb4 Zb4
 have a6_0:0≤gi cs 7-gi cs 6:=(hc 6 Zb4 0 Zb4 Zb4).1
 have d6_0_1:gi cs 7-gi cs 6≤gi cs 5-gi cs 4:=(hc 6 Zb4 0 Zb4 Zb4).2 1 Zb4 Zb4
 have d6_0_2:gi cs 7-gi cs 6≤gi cs 3-gi cs 2:=(hc 6 Zb4 0 Zb4 Zb4).2 2 Zb4 Zb4
 refine ⟨rfl,fun u hu=>?_,fun g hg=>?_,?_⟩
 ·have hu2:u=0∨u=1∨u=2:=by omega
  rcases hu2 with rfl|rfl|rfl
  ·show 0≤gi cs 3-gi cs 2
   omega
  ·show 0≤gi cs 2-gi cs 0
   omega
  ·show 0≤gi cs 7-gi cs 3
   omega
 ·have hg2:g=0∨g=1∨g=2∨g=3∨g=4∨g=5∨g=6∨g=7:=by omega
  rcases hg2 with rfl|rfl|rfl|rfl|rfl|rfl|rfl|rfl
  ·show (((0+0*(gi cs 3-gi cs 2))+0*(gi cs 2-gi cs 0))+0*(gi cs 7-gi cs 3))≤gi cs 0
   omega
  ·show (((0+1*(gi cs 3-gi cs 2))+0*(gi cs 2-gi cs 0))+0*(gi cs 7-gi cs 3))≤gi cs 1
   omega
  ·show (((0+0*(gi cs 3-gi cs 2))+1*(gi cs 2-gi cs 0))+0*(gi cs 7-gi cs 3))≤gi cs 2
   omega
  ·show (((0+1*(gi cs 3-gi cs 2))+1*(gi cs 2-gi cs 0))+0*(gi cs 7-gi cs 3))≤gi cs 3
   omega
  ·show (((0+0*(gi cs 3-gi cs 2))+0*(gi cs 2-gi cs 0))+1*(gi cs 7-gi cs 3))≤gi cs 4
   omega
  ·show (((0+1*(gi cs 3-gi cs 2))+0*(gi cs 2-gi cs 0))+1*(gi cs 7-gi cs 3))≤gi cs 5
   omega
  ·show (((0+0*(gi cs 3-gi cs 2))+1*(gi cs 2-gi cs 0))+1*(gi cs 7-gi cs 3))≤gi cs 6
   omega
  ·show (((0+1*(gi cs 3-gi cs 2))+1*(gi cs 2-gi cs 0))+1*(gi cs 7-gi cs 3))≤gi cs 7
   omega
 ·show (((0+1*(gi cs 3-gi cs 2))+1*(gi cs 2-gi cs 0))+1*(gi cs 7-gi cs 3))=gi cs 7
  omega
theorem jjn {cs:List Int} (hz:gi cs 0=0) (hc:jcW 3 cs):Fair 3 cs 7 (fun u=>if u=0 then gi cs 7-gi cs 6 else if u=2 then gi cs 6-gi cs 2 else if u=1 then gi cs 2-gi cs 0 else 0):=by
 have a0_0:0≤gi cs 1-gi cs 0:=(hc 0 Zb4 0 Zb4 Zb4).1
 have a0_1:0≤gi cs 2-gi cs 0:=(hc 0 Zb4 1 Zb4 Zb4).1
 have a0_2:0≤gi cs 4-gi cs 0:=(hc 0 Zb4 2 Zb4 Zb4).1
 have a1_1:0≤gi cs 3-gi cs 1:=(hc 1 Zb4 1 Zb4 Zb4).1
 have d1_1_0:gi cs 3-gi cs 1≤gi cs 2-gi cs 0:=(hc 1 Zb4 1 Zb4 Zb4).2 0 Zb4 Zb4
 have a1_2:0≤gi cs 5-gi cs 1:=(hc 1 Zb4 2 Zb4 Zb4).1
 have d1_2_0:gi cs 5-gi cs 1≤gi cs 4-gi cs 0:=(hc 1 Zb4 2 Zb4 Zb4).2 0 Zb4 Zb4
 have a2_0:0≤gi cs 3-gi cs 2:=(hc 2 Zb4 0 Zb4 Zb4).1
 have d2_0_1:gi cs 3-gi cs 2≤gi cs 1-gi cs 0:=(hc 2 Zb4 0 Zb4 Zb4).2 1 Zb4 Zb4
 have a2_2:0≤gi cs 6-gi cs 2:=(hc 2 Zb4 2 Zb4 Zb4).1
 have d2_2_1:gi cs 6-gi cs 2≤gi cs 4-gi cs 0:=(hc 2 Zb4 2 Zb4 Zb4).2 1 Zb4 Zb4
 have a3_2:0≤gi cs 7-gi cs 3:=(hc 3 Zb4 2 Zb4 Zb4).1
 have d3_2_0:gi cs 7-gi cs 3≤gi cs 6-gi cs 2:=(hc 3 Zb4 2 Zb4 Zb4).2 0 Zb4 Zb4
 have d3_2_1:gi cs 7-gi cs 3≤gi cs 5-gi cs 1:=(hc 3 Zb4 2 Zb4 Zb4).2 1 Zb4 Zb4
 have a4_0:0≤gi cs 5-gi cs 4:=(hc 4 Zb4 0 Zb4 Zb4).1
 have d4_0_2:gi cs 5-gi cs 4≤gi cs 1-gi cs 0:=(hc 4 Zb4 0 Zb4 Zb4).2 2 Zb4 Zb4
 have a4_1:0≤gi cs 6-gi cs 4:=(hc 4 Zb4 1 Zb4 Zb4).1
 have d4_1_2:gi cs 6-gi cs 4≤gi cs 2-gi cs 0:=(hc 4 Zb4 1 Zb4 Zb4).2 2 Zb4 Zb4
 have a5_1:0≤gi cs 7-gi cs 5:=(hc 5 Zb4 1 Zb4 Zb4).1
 have d5_1_0:gi cs 7-gi cs 5≤gi cs 6-gi cs 4:=(hc 5 Zb4 1 Zb4 Zb4).2 0 Zb4 Zb4
 have d5_1_2:gi cs 7-gi cs 5≤gi cs 3-gi cs 1:=(hc 5 Zb4 1 Zb4 Zb4).2 2 Zb4 Zb4
 have a6_0:0≤gi cs 7-gi cs 6:=(hc 6 Zb4 0 Zb4 Zb4).1
 have d6_0_1:gi cs 7-gi cs 6≤gi cs 5-gi cs 4:=(hc 6 Zb4 0 Zb4 Zb4).2 1 Zb4 Zb4
 have d6_0_2:gi cs 7-gi cs 6≤gi cs 3-gi cs 2:=(hc 6 Zb4 0 Zb4 Zb4).2 2 Zb4 Zb4
 refine ⟨rfl,fun u hu=>?_,fun g hg=>?_,?_⟩
 ·have hu2:u=0∨u=1∨u=2:=by omega
  rcases hu2 with rfl|rfl|rfl
  ·show 0≤gi cs 7-gi cs 6
   omega
  ·show 0≤gi cs 2-gi cs 0
   omega
  ·show 0≤gi cs 6-gi cs 2
   omega
 ·have hg2:g=0∨g=1∨g=2∨g=3∨g=4∨g=5∨g=6∨g=7:=by omega
  rcases hg2 with rfl|rfl|rfl|rfl|rfl|rfl|rfl|rfl
  ·show (((0+0*(gi cs 7-gi cs 6))+0*(gi cs 2-gi cs 0))+0*(gi cs 6-gi cs 2))≤gi cs 0
   omega
  ·show (((0+1*(gi cs 7-gi cs 6))+0*(gi cs 2-gi cs 0))+0*(gi cs 6-gi cs 2))≤gi cs 1
   omega
  ·show (((0+0*(gi cs 7-gi cs 6))+1*(gi cs 2-gi cs 0))+0*(gi cs 6-gi cs 2))≤gi cs 2
   omega
  ·show (((0+1*(gi cs 7-gi cs 6))+1*(gi cs 2-gi cs 0))+0*(gi cs 6-gi cs 2))≤gi cs 3
   omega
  ·show (((0+0*(gi cs 7-gi cs 6))+0*(gi cs 2-gi cs 0))+1*(gi cs 6-gi cs 2))≤gi cs 4
   omega
  ·show (((0+1*(gi cs 7-gi cs 6))+0*(gi cs 2-gi cs 0))+1*(gi cs 6-gi cs 2))≤gi cs 5
   omega
  ·show (((0+0*(gi cs 7-gi cs 6))+1*(gi cs 2-gi cs 0))+1*(gi cs 6-gi cs 2))≤gi cs 6
   omega
  ·show (((0+1*(gi cs 7-gi cs 6))+1*(gi cs 2-gi cs 0))+1*(gi cs 6-gi cs 2))≤gi cs 7
   omega
 ·show (((0+1*(gi cs 7-gi cs 6))+1*(gi cs 2-gi cs 0))+1*(gi cs 6-gi cs 2))=gi cs 7
  omega
theorem jjp {cs:List Int} (hz:gi cs 0=0) (hc:jcW 3 cs):Fair 3 cs 7 (fun u=>if u=1 then gi cs 7-gi cs 5 else if u=0 then gi cs 5-gi cs 4 else if u=2 then gi cs 4-gi cs 0 else 0):=by
 have a0_0:0≤gi cs 1-gi cs 0:=(hc 0 Zb4 0 Zb4 Zb4).1
 have a0_1:0≤gi cs 2-gi cs 0:=(hc 0 Zb4 1 Zb4 Zb4).1
 have a0_2:0≤gi cs 4-gi cs 0:=(hc 0 Zb4 2 Zb4 Zb4).1
 have a1_1:0≤gi cs 3-gi cs 1:=(hc 1 Zb4 1 Zb4 Zb4).1
 have d1_1_0:gi cs 3-gi cs 1≤gi cs 2-gi cs 0:=(hc 1 Zb4 1 Zb4 Zb4).2 0 Zb4 Zb4
 have a1_2:0≤gi cs 5-gi cs 1:=(hc 1 Zb4 2 Zb4 Zb4).1
 have d1_2_0:gi cs 5-gi cs 1≤gi cs 4-gi cs 0:=(hc 1 Zb4 2 Zb4 Zb4).2 0 Zb4 Zb4
 have a2_0:0≤gi cs 3-gi cs 2:=(hc 2 Zb4 0 Zb4 Zb4).1
 have d2_0_1:gi cs 3-gi cs 2≤gi cs 1-gi cs 0:=(hc 2 Zb4 0 Zb4 Zb4).2 1 Zb4 Zb4
 have a2_2:0≤gi cs 6-gi cs 2:=(hc 2 Zb4 2 Zb4 Zb4).1
 have d2_2_1:gi cs 6-gi cs 2≤gi cs 4-gi cs 0:=(hc 2 Zb4 2 Zb4 Zb4).2 1 Zb4 Zb4
 have a3_2:0≤gi cs 7-gi cs 3:=(hc 3 Zb4 2 Zb4 Zb4).1
 have d3_2_0:gi cs 7-gi cs 3≤gi cs 6-gi cs 2:=(hc 3 Zb4 2 Zb4 Zb4).2 0 Zb4 Zb4
 have d3_2_1:gi cs 7-gi cs 3≤gi cs 5-gi cs 1:=(hc 3 Zb4 2 Zb4 Zb4).2 1 Zb4 Zb4
 have a4_0:0≤gi cs 5-gi cs 4:=(hc 4 Zb4 0 Zb4 Zb4).1
 have d4_0_2:gi cs 5-gi cs 4≤gi cs 1-gi cs 0:=(hc 4 Zb4 0 Zb4 Zb4).2 2 Zb4 Zb4
 have a4_1:0≤gi cs 6-gi cs 4:=(hc 4 Zb4 1 Zb4 Zb4).1
 have d4_1_2:gi cs 6-gi cs 4≤gi cs 2-gi cs 0:=(hc 4 Zb4 1 Zb4 Zb4).2 2 Zb4 Zb4
 have a5_1:0≤gi cs 7-gi cs 5:=(hc 5 Zb4 1 Zb4 Zb4).1
 have d5_1_0:gi cs 7-gi cs 5≤gi cs 6-gi cs 4:=(hc 5 Zb4 1 Zb4 Zb4).2 0 Zb4 Zb4
 have d5_1_2:gi cs 7-gi cs 5≤gi cs 3-gi cs 1:=(hc 5 Zb4 1 Zb4 Zb4).2 2 Zb4 Zb4
 have a6_0:0≤gi cs 7-gi cs 6:=(hc 6 Zb4 0 Zb4 Zb4).1
 have d6_0_1:gi cs 7-gi cs 6≤gi cs 5-gi cs 4:=(hc 6 Zb4 0 Zb4 Zb4).2 1 Zb4 Zb4
 have d6_0_2:gi cs 7-gi cs 6≤gi cs 3-gi cs 2:=(hc 6 Zb4 0 Zb4 Zb4).2 2 Zb4 Zb4
 refine ⟨rfl,fun u hu=>?_,fun g hg=>?_,?_⟩
 ·have hu2:u=0∨u=1∨u=2:=by omega
  rcases hu2 with rfl|rfl|rfl
  ·show 0≤gi cs 5-gi cs 4
   omega
  ·show 0≤gi cs 7-gi cs 5
   omega
  ·show 0≤gi cs 4-gi cs 0
   omega
 ·have hg2:g=0∨g=1∨g=2∨g=3∨g=4∨g=5∨g=6∨g=7:=by omega
  rcases hg2 with rfl|rfl|rfl|rfl|rfl|rfl|rfl|rfl
  ·show (((0+0*(gi cs 5-gi cs 4))+0*(gi cs 7-gi cs 5))+0*(gi cs 4-gi cs 0))≤gi cs 0
   omega
  ·show (((0+1*(gi cs 5-gi cs 4))+0*(gi cs 7-gi cs 5))+0*(gi cs 4-gi cs 0))≤gi cs 1
   omega
  ·show (((0+0*(gi cs 5-gi cs 4))+1*(gi cs 7-gi cs 5))+0*(gi cs 4-gi cs 0))≤gi cs 2
   omega
  ·show (((0+1*(gi cs 5-gi cs 4))+1*(gi cs 7-gi cs 5))+0*(gi cs 4-gi cs 0))≤gi cs 3
   omega
  ·show (((0+0*(gi cs 5-gi cs 4))+0*(gi cs 7-gi cs 5))+1*(gi cs 4-gi cs 0))≤gi cs 4
   omega
  ·show (((0+1*(gi cs 5-gi cs 4))+0*(gi cs 7-gi cs 5))+1*(gi cs 4-gi cs 0))≤gi cs 5
   omega
  ·show (((0+0*(gi cs 5-gi cs 4))+1*(gi cs 7-gi cs 5))+1*(gi cs 4-gi cs 0))≤gi cs 6
   omega
  ·show (((0+1*(gi cs 5-gi cs 4))+1*(gi cs 7-gi cs 5))+1*(gi cs 4-gi cs 0))≤gi cs 7
   omega
 ·show (((0+1*(gi cs 5-gi cs 4))+1*(gi cs 7-gi cs 5))+1*(gi cs 4-gi cs 0))=gi cs 7
  omega
theorem jjq {cs:List Int} (hz:gi cs 0=0) (hc:jcW 3 cs):Fair 3 cs 7 (fun u=>if u=0 then gi cs 7-gi cs 6 else if u=1 then gi cs 6-gi cs 4 else if u=2 then gi cs 4-gi cs 0 else 0):=by
 have a0_0:0≤gi cs 1-gi cs 0:=(hc 0 Zb4 0 Zb4 Zb4).1
 have a0_1:0≤gi cs 2-gi cs 0:=(hc 0 Zb4 1 Zb4 Zb4).1
 have a0_2:0≤gi cs 4-gi cs 0:=(hc 0 Zb4 2 Zb4 Zb4).1
 have a1_1:0≤gi cs 3-gi cs 1:=(hc 1 Zb4 1 Zb4 Zb4).1
 have d1_1_0:gi cs 3-gi cs 1≤gi cs 2-gi cs 0:=(hc 1 Zb4 1 Zb4 Zb4).2 0 Zb4 Zb4
 have a1_2:0≤gi cs 5-gi cs 1:=(hc 1 Zb4 2 Zb4 Zb4).1
 have d1_2_0:gi cs 5-gi cs 1≤gi cs 4-gi cs 0:=(hc 1 Zb4 2 Zb4 Zb4).2 0 Zb4 Zb4
 have a2_0:0≤gi cs 3-gi cs 2:=(hc 2 Zb4 0 Zb4 Zb4).1
 have d2_0_1:gi cs 3-gi cs 2≤gi cs 1-gi cs 0:=(hc 2 Zb4 0 Zb4 Zb4).2 1 Zb4 Zb4
 have a2_2:0≤gi cs 6-gi cs 2:=(hc 2 Zb4 2 Zb4 Zb4).1
 have d2_2_1:gi cs 6-gi cs 2≤gi cs 4-gi cs 0:=(hc 2 Zb4 2 Zb4 Zb4).2 1 Zb4 Zb4
 have a3_2:0≤gi cs 7-gi cs 3:=(hc 3 Zb4 2 Zb4 Zb4).1
 have d3_2_0:gi cs 7-gi cs 3≤gi cs 6-gi cs 2:=(hc 3 Zb4 2 Zb4 Zb4).2 0 Zb4 Zb4
 have d3_2_1:gi cs 7-gi cs 3≤gi cs 5-gi cs 1:=(hc 3 Zb4 2 Zb4 Zb4).2 1 Zb4 Zb4
 have a4_0:0≤gi cs 5-gi cs 4:=(hc 4 Zb4 0 Zb4 Zb4).1
 have d4_0_2:gi cs 5-gi cs 4≤gi cs 1-gi cs 0:=(hc 4 Zb4 0 Zb4 Zb4).2 2 Zb4 Zb4
 have a4_1:0≤gi cs 6-gi cs 4:=(hc 4 Zb4 1 Zb4 Zb4).1
 have d4_1_2:gi cs 6-gi cs 4≤gi cs 2-gi cs 0:=(hc 4 Zb4 1 Zb4 Zb4).2 2 Zb4 Zb4
 have a5_1:0≤gi cs 7-gi cs 5:=(hc 5 Zb4 1 Zb4 Zb4).1
 have d5_1_0:gi cs 7-gi cs 5≤gi cs 6-gi cs 4:=(hc 5 Zb4 1 Zb4 Zb4).2 0 Zb4 Zb4
 have d5_1_2:gi cs 7-gi cs 5≤gi cs 3-gi cs 1:=(hc 5 Zb4 1 Zb4 Zb4).2 2 Zb4 Zb4
 have a6_0:0≤gi cs 7-gi cs 6:=(hc 6 Zb4 0 Zb4 Zb4).1
 have d6_0_1:gi cs 7-gi cs 6≤gi cs 5-gi cs 4:=(hc 6 Zb4 0 Zb4 Zb4).2 1 Zb4 Zb4
 have d6_0_2:gi cs 7-gi cs 6≤gi cs 3-gi cs 2:=(hc 6 Zb4 0 Zb4 Zb4).2 2 Zb4 Zb4
 refine ⟨rfl,fun u hu=>?_,fun g hg=>?_,?_⟩
 ·have hu2:u=0∨u=1∨u=2:=by omega
  rcases hu2 with rfl|rfl|rfl
  ·show 0≤gi cs 7-gi cs 6
   omega
  ·show 0≤gi cs 6-gi cs 4
   omega
  ·show 0≤gi cs 4-gi cs 0
   omega
 ·have hg2:g=0∨g=1∨g=2∨g=3∨g=4∨g=5∨g=6∨g=7:=by omega
  rcases hg2 with rfl|rfl|rfl|rfl|rfl|rfl|rfl|rfl
  ·show (((0+0*(gi cs 7-gi cs 6))+0*(gi cs 6-gi cs 4))+0*(gi cs 4-gi cs 0))≤gi cs 0
   omega
  ·show (((0+1*(gi cs 7-gi cs 6))+0*(gi cs 6-gi cs 4))+0*(gi cs 4-gi cs 0))≤gi cs 1
   omega
  ·show (((0+0*(gi cs 7-gi cs 6))+1*(gi cs 6-gi cs 4))+0*(gi cs 4-gi cs 0))≤gi cs 2
   omega
  ·show (((0+1*(gi cs 7-gi cs 6))+1*(gi cs 6-gi cs 4))+0*(gi cs 4-gi cs 0))≤gi cs 3
   omega
  ·show (((0+0*(gi cs 7-gi cs 6))+0*(gi cs 6-gi cs 4))+1*(gi cs 4-gi cs 0))≤gi cs 4
   omega
  ·show (((0+1*(gi cs 7-gi cs 6))+0*(gi cs 6-gi cs 4))+1*(gi cs 4-gi cs 0))≤gi cs 5
   omega
  ·show (((0+0*(gi cs 7-gi cs 6))+1*(gi cs 6-gi cs 4))+1*(gi cs 4-gi cs 0))≤gi cs 6
   omega
  ·show (((0+1*(gi cs 7-gi cs 6))+1*(gi cs 6-gi cs 4))+1*(gi cs 4-gi cs 0))≤gi cs 7
   omega
 ·show (((0+1*(gi cs 7-gi cs 6))+1*(gi cs 6-gi cs 4))+1*(gi cs 4-gi cs 0))=gi cs 7
  omega
theorem mrg3 {cs:List Int} {o:Nat→Nat} (hz:gi cs 0=0) (hc:jcW 3 cs) (h:∀k,k<3→o k<3):Fair 3 cs (mrg 3 cs o 3).1 (mrg 3 cs o 3).2:=by
 have h0:o 0=0∨o 0=1∨o 0=2:=by have:=h 0 Zb4;omega
 have h1:o 1=0∨o 1=1∨o 1=2:=by have:=h 1 Zb4;omega
 have h2:o 2=0∨o 2=1∨o 2=2:=by have:=h 2 Zb4;omega
 rcases h0 with e0|e0|e0
 ·skip
  rcases h1 with e1|e1|e1
  ·skip
   rcases h2 with e2|e2|e2
   ·skip
    exact ZQ30
   ·skip
    exact ZQ30
   ·skip
    exact ZQ30
  ·skip
   rcases h2 with e2|e2|e2
   ·skip
    exact ZQ30
   ·skip
    exact ZQ30
   ·skip
    exact ZQ30
  ·skip
   rcases h2 with e2|e2|e2
   ·skip
    exact ZQ49
   ·skip
    exact ZQ49
   ·skip
    exact ZQ49
 ·skip
  rcases h1 with e1|e1|e1
  ·skip
   rcases h2 with e2|e2|e2
   ·skip
    exact ZQ50
   ·skip
    exact ZQ50
   ·skip
    exact ZQ50
  ·skip
   rcases h2 with e2|e2|e2
   ·skip
    exact ZQ28
   ·skip
    exact ZQ28
   ·skip
    exact ZQ28
  ·skip
   rcases h2 with e2|e2|e2
   ·skip
    exact ZQ28
   ·skip
    exact ZQ28
   ·skip
    exact ZQ28
 ·skip
  rcases h1 with e1|e1|e1
  ·skip
   rcases h2 with e2|e2|e2
   ·skip
    exact ZQ29
   ·skip
    exact ZQ29
   ·skip
    exact ZQ29
  ·skip
   rcases h2 with e2|e2|e2
   ·skip
    exact ZQ48
   ·skip
    exact ZQ48
   ·skip
    exact ZQ48
  ·skip
   rcases h2 with e2|e2|e2
   ·skip
    exact ZQ29
   ·skip
    exact ZQ29
   ·skip
    exact ZQ29
theorem jmE {n:Nat} {cs:List Int} {o:Nat→Nat} (hn:n≤3) (h0:0<n) (hz:gi cs 0=0) (hc:jcW n cs) (h:∀k,k<n→o k<n):Fair n cs (mrg n cs o n).1 (mrg n cs o n).2:=by
 have hn2:n=1∨n=2∨n=3:=by omega
 rcases hn2 with rfl|rfl|rfl
 ·exact mrg1 hz hc (h 0 Zb4)
 ·exact mrg2 hz hc h
 ·exact mrg3 hz hc h
def exC:List Int:=[0,10,10,14,10,14,14,24]
theorem jfB:Gok 3 exC:=⟨by decide,rfl,rfl,fun i=>by
 match i with
 | 0 | 1 | 2 | 3 | 4 | 5 | 6 | 7=>exact ⟨by decide,by decide⟩
 | k+8=>exact ⟨Int.le_refl 0,show (0:Int)≤1000000000000000 by decide⟩⟩
theorem jje {x y:Nat→Rat} (hE:jb7 3 exC x y):(x 0=7∧x 1=7∧x 2=7)∧y 0=0∧y 1=0∧y 2=Rat.divInt 1 2∧y 3=0∧y 4=Rat.divInt 1 2∧y 5=Rat.divInt 1 2∧y 6=0:=by
 have st:=hE.stab jfB
 have cer:=hE.isB
 have gr:=hE.great jfB (z:=fun u=>(((fun _=>7:Nat→Int) u:Int):Rat)) (jhf (fun u hu=>by decide) (fun g hg=>by
  have:∀g,g<2 ^ 3→isum g (fun _=>7) 3≤gi exC g:=by decide +kernel
  exact this g hg))
 have hs:(2:Rat)*Rat.divInt 1 2=1:=by decide +kernel
 have bit:∀g,g<8→∀l,l<3→bitQ g l=((bitI g l:Int):Rat):=fun _ _ _ _=>rfl
 have A:∀i l,i<7→l<3→rwA2 (gmR 3 (2 ^ 3-1) exC) i l=bitQ (i+1) l:=fun i l hi hl=>jmu ZO hl
 have B:∀i,i<7→rwB2 (gmR 3 (2 ^ 3-1) exC) false i=((gi exC (i+1):Int):Rat):=fun i hi=>jjD ZO
 have e7:(2 ^ 3-1:Nat)=7:=rfl
 have s3:=st.2 3 Zb4
 have s5:=st.2 5 Zb4
 have s6:=st.2 6 Zb4
 have y0:=cer.2.1.1 0 Zb4
 have y1:=cer.2.1.1 1 Zb4
 have y3:=cer.2.1.1 3 Zb4
 have y6:=cer.2.1.1 6 Zb4
 have c0:=cer.2.1.2 0 Zb4
 have c1:=cer.2.1.2 1 Zb4
 have c2:=cer.2.1.2 2 Zb4
 have val:=cer.2.2
 unfold gsum at s3 s5 s6
 rw [jhv Zb4] at c0 c1 c2
 rw [e7] at c0 c1 c2 val
 simp only [smQ] at c0 c1 c2 val gr s3 s5 s6
 rw [←e7] at c0 c1 c2 val
 rw [A 0 0 Zb4 Zb4,A 1 0 Zb4 Zb4,A 2 0 Zb4 Zb4,A 3 0 Zb4 Zb4,A 4 0 Zb4 Zb4,A 5 0 Zb4 Zb4,A 6 0 Zb4 Zb4] at c0
 rw [A 0 1 Zb4 Zb4,A 1 1 Zb4 Zb4,A 2 1 Zb4 Zb4,A 3 1 Zb4 Zb4,A 4 1 Zb4 Zb4,A 5 1 Zb4 Zb4,A 6 1 Zb4 Zb4] at c1
 rw [A 0 2 Zb4 Zb4,A 1 2 Zb4 Zb4,A 2 2 Zb4 Zb4,A 3 2 Zb4 Zb4,A 4 2 Zb4 Zb4,A 5 2 Zb4 Zb4,A 6 2 Zb4 Zb4] at c2
 rw [B 0 Zb4,B 1 Zb4,B 2 Zb4,B 3 Zb4,B 4 Zb4,B 5 Zb4,B 6 Zb4,jhv Zb4,jhv Zb4,jhv Zb4] at val
 clear A B bit e7 st cer
 change (1:Rat)≤0+y 0*1+y 1*0+y 2*1+y 3*0+y 4*1+y 5*0+y 6*1 at c0
 change (1:Rat)≤0+y 0*0+y 1*1+y 2*1+y 3*0+y 4*0+y 5*1+y 6*1 at c1
 change (1:Rat)≤0+y 0*0+y 1*0+y 2*0+y 3*1+y 4*1+y 5*1+y 6*1 at c2
 change (0:Rat)+y 0*10+y 1*10+y 2*14+y 3*10+y 4*14+y 5*14+y 6*24=0+1*x 0+1*x 1+1*x 2 at val
 change (0:Rat)+7+7+7≤0+x 0+x 1+x 2 at gr
 change (0:Rat)+1*x 0+1*x 1+0*x 2≤14 at s3
 change (0:Rat)+1*x 0+0*x 1+1*x 2≤14 at s5
 change (0:Rat)+0*x 0+1*x 1+1*x 2≤14 at s6
 generalize Rat.divInt 1 2=h at hs ⊢
 generalize x 0=p,x 1=q,x 2=r,y 0=a,y 1=b,y 2=c,y 3=d,y 4=e,y 5=f,y 6=g at *
 have p7:p=7:=by grind
 have q7:q=7:=by grind
 have r7:r=7:=by grind
 subst p7 q7 r7
 have a0:a=0:=by grind
 have b0:b=0:=by grind
 have d0:d=0:=by grind
 have g0:g=0:=by grind
 subst a0 b0 d0 g0
 have ch:c=h:=by grind
 have eh:e=h:=by grind
 have fh:f=h:=by grind
 exact ⟨⟨rfl,rfl,rfl⟩,rfl,rfl,ch,rfl,eh,fh,rfl⟩
def exY:List Fv:=[fvQ ((0:Int):Rat),fvQ ((0:Int):Rat),fvQ (Rat.divInt 1 2),fvQ ((0:Int):Rat),fvQ (Rat.divInt 1 2),fvQ (Rat.divInt 1 2),fvQ ((0:Int):Rat)]
theorem jjf {x y:Nat→Rat} (hE:jb7 3 exC x y):(ofF 3 fun i=>fvQ (x i))=fvJ [7,7,7]∧(ofF 7 fun i=>fvQ (y i))=exY:=by
 obtain ⟨⟨h0,h1,h2⟩,g0,g1,g2,g3,g4,g5,g6⟩:=jje hE
 constructor
 ·show [fvQ (x 0),fvQ (x 1),fvQ (x 2)]=_
  rw [h0,h1,h2]
  rfl
 ·show [fvQ (y 0),fvQ (y 1),fvQ (y 2),fvQ (y 3),fvQ (y 4),fvQ (y 5),fvQ (y 6)]=_
  rw [g0,g1,g2,g3,g4,g5,g6]
  rfl
theorem exC_no:chkO 3 7 (gmL 3) (gmR 3 7 exC) (fvJ [8,6,7]) exY=false:=by decide +kernel
end Go.Proofs.YtgikfcjndiohjaaGreat
