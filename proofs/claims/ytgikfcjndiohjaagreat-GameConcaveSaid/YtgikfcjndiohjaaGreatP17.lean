/- Laws and walks; conditions stand in each theorem. -/
import Derived.Test.YtgikfcjndiohjaaGreatP08
import Derived.Test.YtgikfcjndiohjaaGreatP11
set_option linter.unusedSimpArgs false
set_option linter.unusedVariables false
set_option maxHeartbeats 1000000
set_option maxRecDepth 100000
namespace Go.Proofs.YtgikfcjndiohjaaGreat
open Go.RowKit
theorem jdU:(Tryz.prog.info? 4).map (·.size)=some 1:=by kernel_rfl
theorem jna {K:Int} (h:0<K):((K:Int):Rat)≠0:=fun e=>by
 have:((K:Int):Rat)=((0:Int):Rat):=e
 have:=Rat.intCast_inj.1 this
 omega
def hB:Nat→Int
 | 0=>pw 4-1
 | 1=>pw 9-1
 | 2=>pw 19-1
 | _=>pw 39
theorem jdx (s t:Int) (A A':Option Addr) (n cap n' cap':Nat) (l m:List Int) (w:World) (hl:RdI w w.heap.size A n cap l) (hm:RdI w w.heap.size A' n' cap' m) :
 Calls Tryz.prog 104 #[.agg #[.int .i64 s,.slice A n cap,.int .i64 t,.slice A' n' cap']] w fun e w'=>e=.returned (.bool (!jam s l t m))∧Below w.heap.size w w':=by
 have K:=((St.start w).oldRd hl).oldRd hm
 have r:=K.raw
 have HR:=jpk (fun W h g=>jaT s t A A' n cap n' cap' l m W h g)
 clear hl hm
 generalize jam s l t m=R at *
 go_enter Tryz.func104,Tryz.ntmps104
 go_wp2_with (first|(refine ZAL ?_;clear K r;intro W b K r)|(refine ZST ?_;clear K r;intro W K r))
 refine (HR.out _ ZRD ZRD).mono ?_
 rintro e W' ⟨rfl,hb⟩
 replace K:=K.keep hb
 clear r
 have r:=K.rawS
 clear hb
 go_wp2
 go_ret
 exact ⟨rfl,K.1⟩
def fnF (x:Fv):Bool:=x.ok&& !decide (x.s<0)
theorem jju (s t:Int) (A A':Option Addr) (n cap n' cap':Nat) (l m:List Int) (w:World) (hl:RdI w w.heap.size A n cap l) (hm:RdI w w.heap.size A' n' cap' m) :
 Calls Tryz.prog 122 #[.agg #[.int .i64 s,.slice A n cap,.int .i64 t,.slice A' n' cap']] w fun e w'=>e=.returned (.bool (!fnF ⟨s,l,t,m⟩))∧Below w.heap.size w w':=by
 have K:=((St.start w).oldRd hl).oldRd hm
 have r:=K.raw
 have HR:=jpk (fun W h g=>jdx s t A A' n cap n' cap' l m W h g)
 have e0:fnF ⟨s,l,t,m⟩=(jam s l t m&& !decide (s<0)):=rfl
 rw [e0]
 clear hl hm e0
 generalize jam s l t m=R at *
 cases R
 ·exact ZQ40
 ·rw [Bool.true_and]
  by_cases hs:s<0
  ·have hd:decide (s<0)=true:=decide_eq_true hs
   rw [hd]
   exact ZQ40
  ·have hd:decide (s<0)=false:=decide_eq_false hs
   rw [hd]
   exact ZQ40
theorem jmz (A:Option Addr) (n cap:Nat) (l:List Fv) (w:World) (hl:RdF w w.heap.size A n cap l) :
 Calls Tryz.prog 76 #[.slice A n cap,.func (.func 104) #[] #[]] w (IdxF w (l.all Fv.ok)):=by
 have hcaps:=hl.caps
 have hlen:=hl.len
 have eg:=enters_of Tryz.func104 Zb9 rfl
 have Hlen:=jpk hlen;clear hlen
 have HL:=jpk (fun W (h:Below w.heap.size w W)=>hl.up jan h)
 go_enter Tryz.func76,Tryz.ntmps76
 go_wp2
 go_loopg [8] n (fun gk i wr=>∃k:Nat,k≤n∧gk=n-k∧i=.int .i64 k∧(∀j x,j<k→l[j]?=some x→x.ok=true)∧Below w.heap.size w wr)
 case atStart=>exact ⟨0,Nat.zero_le _,rfl,rfl,(fun j x h=>absurd h ZO),Below.refl _ _⟩
 case round =>
  obtain ⟨k,hk,rfl,rfl,hall,hb⟩:=hrel
  have Hall:=jpk hall;clear hall
  have HB:=jpk hb
  by_cases hlt:k<n
  ·obtain ⟨b,off,A1,n1,c1,A2,n2,c2,x,rfl,hbB,hx,⟨d0,d1,d2,d3⟩,r1,r2⟩:=(HL.out wr hb).atF hlt
   have hki:(k:Int)<(n:Int):=by omega
   have hk0:(0:Int)≤(k:Int):=by omega
   have Hx:=jpk hx;clear hx
   have HW:=jpk (jdx x.s x.t A1 A2 n1 c1 n2 c2 x.l x.m wr r1 r2)
   have hcap1:=r1.caps
   have hcap2:=r2.caps
   have hok:jam x.s x.l x.t x.m=x.ok:=rfl
   rw [hok] at HW
   clear hok r1 r2 hb hl
   cases hin:x.ok
   ·rw [hin] at HW
    have Hno:=jpk (show l.all Fv.ok=false by
     exact jnw)
    clear hin
    go_wp2_with (go_at_call 104;refine HW.out.mono ?_;rintro e w1 ⟨rfl,hb1⟩)
    exact ZQ66
   ·rw [hin] at HW
    have Hin:=jpk hin
    clear hin
    go_wp2_with (go_at_call 104;refine HW.out.mono ?_;rintro e w1 ⟨rfl,hb1⟩)
    exact ZQ34
  ·have e:k=n:=by omega
   subst e
   have Hyes:=jpk (show l.all Fv.ok=true by
    exact ZQ46)
   exact ZQ76
theorem jgF (A:Option Addr) (n cap:Nat) (l:List Fv) (w:World) (hl:RdF w w.heap.size A n cap l) :
 Calls Tryz.prog 36 #[.slice A n cap,.func (.func 104) #[] #[]] w fun e w'=>e=.returned (.bool (!l.all Fv.ok))∧Below w.heap.size w w':=by
 have Hidx:=jpk (jmz A n cap l w hl)
 clear hl
 generalize l.all Fv.ok=b at *
 go_enter Tryz.func36,Tryz.ntmps36
 go_wp2_with (go_at_call 76;refine Hidx.out.mono ?_;rintro e w1 ⟨i,rfl,hi1,hi2,hi3,hb⟩)
 go_ret
 exact ⟨rfl,hb⟩
theorem jmy (A:Option Addr) (n cap:Nat) (l:List Fv) (w:World) (hl:RdF w w.heap.size A n cap l) :
 Calls Tryz.prog 76 #[.slice A n cap,.func (.func 122) #[] #[]] w (IdxF w (l.all fnF)):=by
 have hcaps:=hl.caps
 have hlen:=hl.len
 have eg:=enters_of Tryz.func122 Zb9 rfl
 have Hlen:=jpk hlen;clear hlen
 have HL:=jpk (fun W (h:Below w.heap.size w W)=>hl.up jan h)
 go_enter Tryz.func76,Tryz.ntmps76
 go_wp2
 go_loopg [8] n (fun gk i wr=>∃k:Nat,k≤n∧gk=n-k∧i=.int .i64 k∧(∀j x,j<k→l[j]?=some x→fnF x=true)∧Below w.heap.size w wr)
 case atStart=>exact ⟨0,Nat.zero_le _,rfl,rfl,(fun j x h=>absurd h ZO),Below.refl _ _⟩
 case round =>
  obtain ⟨k,hk,rfl,rfl,hall,hb⟩:=hrel
  have Hall:=jpk hall;clear hall
  have HB:=jpk hb
  by_cases hlt:k<n
  ·obtain ⟨b,off,A1,n1,c1,A2,n2,c2,x,rfl,hbB,hx,⟨d0,d1,d2,d3⟩,r1,r2⟩:=(HL.out wr hb).atF hlt
   have hki:(k:Int)<(n:Int):=by omega
   have hk0:(0:Int)≤(k:Int):=by omega
   have Hx:=jpk hx;clear hx
   have HW:=jpk (jju x.s x.t A1 A2 n1 c1 n2 c2 x.l x.m wr r1 r2)
   have hcap1:=r1.caps
   have hcap2:=r2.caps
   have hok:fnF ⟨x.s,x.l,x.t,x.m⟩=fnF x:=rfl
   rw [hok] at HW
   clear hok r1 r2 hb hl
   cases hin:fnF x
   ·rw [hin] at HW
    have Hno:=jpk (show l.all fnF=false by
     exact jnw)
    clear hin
    go_wp2_with (go_at_call 122;refine HW.out.mono ?_;rintro e w1 ⟨rfl,hb1⟩)
    exact ZQ66
   ·rw [hin] at HW
    have Hin:=jpk hin
    clear hin
    go_wp2_with (go_at_call 122;refine HW.out.mono ?_;rintro e w1 ⟨rfl,hb1⟩)
    exact ZQ34
  ·have e:k=n:=by omega
   subst e
   have Hyes:=jpk (show l.all fnF=true by
    exact ZQ46)
   exact ZQ76
theorem jk1 (A:Option Addr) (n cap:Nat) (l:List Fv) (w:World) (hl:RdF w w.heap.size A n cap l) :
 Calls Tryz.prog 36 #[.slice A n cap,.func (.func 122) #[] #[]] w fun e w'=>e=.returned (.bool (!l.all fnF))∧Below w.heap.size w w':=by
 have Hidx:=jpk (jmy A n cap l w hl)
 clear hl
 generalize l.all fnF=b at *
 go_enter Tryz.func36,Tryz.ntmps36
 go_wp2_with (go_at_call 76;refine Hidx.out.mono ?_;rintro e w1 ⟨i,rfl,hi1,hi2,hi3,hb⟩)
 go_ret
 exact ⟨rfl,hb⟩
theorem jgR (A:Option Addr) (n cap k:Nat) (l:List Fv) (w:World) (hl:RdF w w.heap.size A n cap l) :
 Calls Tryz.prog 79 #[.slice A n cap,.int .i64 k] w fun e w'=>e=.returned (.bool (decide (n=k)&&l.all fnF))∧Below w.heap.size w w':=by
 have HC:=jpk (fun W (h:Below w.heap.size w W)=>jk1 A n cap l W (hl.up jan h))
 have hcaps:=hl.caps
 clear hl
 generalize l.all fnF=R at *
 have K:=St.start w
 by_cases hk:n=k
 ·subst hk
  rw [decide_eq_true rfl,Bool.true_and]
  go_enter Tryz.func79,Tryz.ntmps79
  go_wp2_with (go_at_call 36;refine (HC.out _ K.1).mono ?_;rintro e W' ⟨rfl,hb⟩)
  go_ret
  exact ⟨rfl,hb⟩
 ·rw [decide_eq_false hk,Bool.false_and]
  have hk2:¬(n:Int)=(k:Int):=by omega
  have hk3:decide ((n:Int)=(k:Int))=false:=decide_eq_false hk2
  have hk4:((n:Int)==(k:Int))=false:=by simp;omega
  go_enter Tryz.func79,Tryz.ntmps79
  go_wp2_with fail
  go_ret
  exact ⟨rfl,K.1⟩
theorem jmQ:(Tryz.prog.info? 97).map (fun i=>(i.zero.map (·.cells),i.size,i.bytes))=some (some #[.slice none 0 0,.int .i64 0,.slice none 0 0,.int .i64 0,.slice none 0 0],5,88):=by kernel_rfl
open Go.ChangeShapes Go.WideShapes Go.ChangeAt Go.RowKit Go.Deep
def u8E:Int→List Value:=fun x=>[.int .u8 x]
theorem Rd.atB {w:World} {B:Nat} {A:Option Addr} {n cap:Nat} {l:List Int} (h:Rd 1 (flat u8E) w B A n cap l) {k:Nat} (hk:k<n) :
 ∃b off,A=some ⟨b,off,none⟩∧b<B∧w.cell? ⟨b,off+k,none⟩=some (.int .u8 (gi l k)):=by
 obtain ⟨b,off,rfl,hb,hc⟩:=h.2.2.2 ZO
 have hl:=h.1
 obtain ⟨cs,rfl,hl2,hj⟩:=hc k ZO
 refine ⟨b,off,rfl,hb,?_⟩
 have e:gi l k=l[k]'ZO:=by
  unfold gi
  rw [List.getD_eq_getElem?_getD,List.getElem?_eq_getElem ZO,Option.getD_some]
 rw [e]
 simpa [u8E] using hj 0 _ rfl
theorem jjB {l:List Int} (h:∀y∈l,0≤y∧y≤255) (k:Nat):0≤gi l k∧gi l k≤255:=by
 unfold gi
 rw [List.getD_eq_getElem?_getD]
 cases e:l[k]? with
 | none=>exact ⟨Int.le_refl 0,show (0:Int)≤255 by decide⟩
 | some y=>exact h y (List.mem_of_getElem? e)
section
variable {H:Type} {enc:TypeId × Value→H} {w:World}
theorem op_u8s:jdk enc Tryz.prog w 47 1 (slE 1 (flat u8E)) (fun l=>∀y∈l,(Lit.int .u8 y).wf=true) :=
 jcd (jcv Tryz.underlying5) Tryz.underlying47 Zb9 ZO Zb21
variable {r:Reach} {b0:Nat} {v:Value} {d:DataW H} {p:List MemPlace}
theorem jnB (hv:Value.okWide Tryz.prog w r b0 47 v) (hd:DataW.Trod enc Tryz.prog w 0 (fun _=>true) true 47 v d p) (hw:∀n∈d.weights Tryz.prog 47,n≤reachBytes) :
 ∃A n cap l,v=.slice A n cap∧Rd 1 (flat u8E) w w.heap.size A n cap l∧∀y∈l,0≤y∧y≤255:=by
 obtain ⟨A,n,cap,l,rfl,hr,h⟩:=jct op_u8s Tryz.underlying47 hv hd hw
 exact ⟨A,n,cap,l,rfl,hr,fun y hy=>bounds_u8 (h y hy)⟩
end
end Go.Proofs.YtgikfcjndiohjaaGreat
