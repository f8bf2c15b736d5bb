/- Laws and walks; conditions stand in each theorem. -/
import Derived.Test.YtgikfcjndiohjaaGreatP04
set_option linter.unusedSimpArgs false
set_option linter.unusedVariables false
set_option maxHeartbeats 2000000
set_option maxRecDepth 100000
namespace Go.Proofs.YtgikfcjndiohjaaGreat
open Go.RowKit
def dgt (l:List Int) (i:Nat):Int:=if i<l.length then gi l i else 0
theorem dgt_in {l:List Int} {i:Nat} (h:i<l.length):dgt l i=gi l i:=if_pos h
theorem jeZ {l:List Int} {i:Nat} (h:¬i<l.length):dgt l i=0:=if_neg h
theorem jbx (A:Option Addr) (n cap:Nat) (l:List Int) (i:Nat) (w:World) (hl:RdI w w.heap.size A n cap l) :
 Calls Tryz.prog 136 #[.slice A n cap,.int .i64 i] w fun e w'=>e=.returned (.int .i64 (dgt l i))∧w=w':=by
 have hln:=hl.len
 by_cases h:i<n
 ·obtain ⟨b,off,x,rfl,hb,hx,c0⟩:=hl.atI h
  have Hx:=jpk (show dgt l i=x by rw [dgt_in ZO,jaS hx])
  have hki:(i:Int)<(n:Int):=by omega
  have hk0:(0:Int)≤(i:Int):=by omega
  clear hx hln
  go_enter Tryz.func136,Tryz.ntmps136
  go_wp2
  go_ret
  exact ⟨by rw [Hx.out];rfl,rfl⟩
 ·have Hx:=jpk (show dgt l i=0 from jeZ ZO)
  have hd:decide (i<n)=false:=decide_eq_false h
  clear h hln
  go_enter Tryz.func136,Tryz.ntmps136
  go_wp2
  go_ret
  exact ⟨by rw [Hx.out];rfl,rfl⟩
theorem jc7 (A:Option Addr) (n cap:Nat) (l:List Int) (w:World) (hl:RdI w w.heap.size A n cap l) (hn:n≤100000) :
 Calls Tryz.prog 132 #[.slice A n cap] w (DigR w (jbK l)):=by
 obtain ⟨i0,hi0,hz0,hz1,hz2⟩:=jaN jbf
 have hln:=hl.len
 have hcap:=hl.caps
 have ho0:Own 1 iEnc (w.alloc (.cells #[] 3)) w.heap.size 3 (.slice (some ⟨w.heap.size,0,none⟩) 0 0) []:=Own.lit jap (Nat.le_refl _) [] _ rfl rfl ZO
 have hb0:=(Below.refl w.heap.size w).alloc (Nat.le_refl _) (.cells #[] 3)
 have Hlen:=jpk (show (jbK l).length≤100000 from by
  unfold jbK
  rw [List.length_reverse]
  have:(List.dropWhile (fun x=>x==0) l.reverse).length≤l.reverse.length:=(List.dropWhile_suffix _).length_le
  rw [List.length_reverse] at this
  omega)
 go_enter Tryz.func132,Tryz.ntmps132
 go_wp2
 go_loopg [3] n (fun gk a wr=>∃k:Nat,k≤n∧k=gk∧a=.int .i64 k∧(∀j,k≤j→j<n→gi l j=0)∧w=wr)
 case atStart=>exact ⟨n,Nat.le_refl _,rfl,rfl,(fun j h1 h2=>absurd h2 ZO),rfl⟩
 case round =>
  obtain ⟨k,hk,rfl,rfl,hz,rfl⟩:=hrel
  have Hz:=jpk hz
  clear hz
  rcases Nat.eq_zero_or_pos k with hk0|hk0
  ·subst hk0
   have hd:decide ((0:Int)<((0:Nat):Int))=false:=by simp
   have Hfin:=jpk (show jbK l=l.take 0 from by
    rw [jdB (k:=0) (fun j h1 h2=>Hz.out j h1 ZO) ZO];rfl)
   have hc0:(0:Int)≤(cap:Int):=by omega
   go_wp2_with (at_builtin
                refine jbN _ jap rfl _ _ 22 rfl w.heap.size 3 i0 _ 8 Tryz.underlying22 hi0 hz0 hz1 hz2 rfl (.slice (some ⟨w.heap.size,0,none⟩) 0 0) [] rfl ho0 _ _ (0) cap (l.take (0)) rfl ((hl.up (jab _) hb0).take ZO) (by simp only [maxLen,List.length_nil];omega) (by simp only [List.length_nil];omega) Zb0 ?_
                intro v' w' ho' hg' hx'
                have hb':=hb0.grown hg' Zb0 (fun k hk=>by
                 have h1:w.heap.size=k:=by simpa [Value.ownBlock] using hk
                 omega)
                rw [List.nil_append,←Hfin.out] at ho')
   go_ret
   exact jdv Hlen.out ⟨⟨_,rfl,ho'⟩,hb'⟩
  ·obtain ⟨m,rfl⟩:∃m,k=m+1:=⟨k-1,by omega⟩
   obtain ⟨b,off,x,rfl,hb,hx,c0⟩:=hl.atI (k:=m) ZO
   have Hx:=jpk (jaS hx)
   have h1:(m:Int)<(n:Int):=by omega
   have h2:(0:Int)≤(m:Int):=by omega
   have h3:(0:Int)<(m:Int)+1:=by omega
   have h4:((m:Int)+1)≤(cap:Int):=by omega
   clear hx
   by_cases hx0:x=0
   ·exact ZQ62
   ·have hd:(x==0)=false:=by simp [hx0]
    have Hfin:=jpk (show jbK l=l.take (m+1) from by
     exact ZQ110)
    clear hx0
    go_wp2_with (at_builtin
                 refine jbN _ jap rfl _ _ 22 rfl w.heap.size 3 i0 _ 8 Tryz.underlying22 hi0 hz0 hz1 hz2 rfl (.slice (some ⟨w.heap.size,0,none⟩) 0 0) [] rfl ho0 _ _ (m+1) cap (l.take (m+1)) rfl ((hl.up (jab _) hb0).take ZO) (by simp only [maxLen,List.length_nil];omega) (by simp only [List.length_nil];omega) Zb0 ?_
                 intro v' w' ho' hg' hx'
                 have hb':=hb0.grown hg' Zb0 (fun k hk=>by
                  have h1:w.heap.size=k:=by simpa [Value.ownBlock] using hk
                  omega)
                 rw [List.nil_append,←Hfin.out] at ho')
    go_ret
    exact jdv Hlen.out ⟨⟨_,rfl,ho'⟩,hb'⟩
theorem jmY {s x:Int} (hx:0<x) (hs:s=1∨s= -1):Std s (digs x.toNat) (s*x):=by
 unfold Std sgI
 rcases hs with rfl|rfl
 ·rw [Int.one_mul,if_neg ZO,if_neg ZO]
  exact ⟨rfl,by congr 1;omega⟩
 ·rw [show (-1:Int)*x= -x by omega,if_pos ZO]
  exact ⟨rfl,by congr 1;omega⟩
theorem ja5 (s:Int) (A:Option Addr) (n cap:Nat) (l:List Int) (z:Int) (w:World) (hl:RdI w w.heap.size A n cap l) (hn:n≤100000) (hd:DgOk l) (hs:s=1∨s= -1∨val l=0) (hz:s*val l=z) :
 Calls Tryz.prog 103 #[.int .i64 s,.slice A n cap] w (BigR w z):=by
 have K:=(St.start w).oldRd hl
 have r:=K.raw
 have HT:=jpk (fun W h=>jc7 A n cap l W h hn)
 rw [jbC hd] at HT
 have h0:=jas hd
 have HE:=jpk (show (digs (val l).toNat).length=0→z=0 from fun h=>by
  have:=jcD.1 (List.eq_nil_of_length_eq_zero h)
  have:val l=0:=by omega
  rw [this] at hz;omega)
 have HN:=jpk (show (digs (val l).toNat).length≠0→Std s (digs (val l).toNat) z from fun h=>by
  have h1:val l≠0:=fun e=>h (by rw [e];simp [jax])
  rw [←hz]
  exact jmY ZO (by rcases hs with h|h|h;exact Or.inl h;exact Or.inr h;exact absurd h h1))
 generalize digs (val l).toNat=d at *
 clear h0 hz hs hd hn
 go_enter Tryz.func103,Tryz.ntmps103
 go_wp2_with (first|(refine ZAL ?_;clear K r;intro W b K r)|(refine ZST ?_;clear K r;intro W K r))
 refine (HT.out _ ZRD).mono ?_
 rintro e W' ⟨A1,n1,c1,rfl,hr,hf,hb⟩
 have hlen:=hr.len
 have hf1:=jpk (hf.mono K.1.size)
 replace K:=K.ret hb hr hf
 clear r
 have r:=K.rawS
 clear hr hf hb
 rcases Nat.eq_zero_or_pos n1 with hn1|hn1
 ·have hd2:((n1:Int)==0)=true:=by simp [hn1]
  have HZ:=jpk (HE.out ZO)
  clear hlen
  go_wp2_with (first|(refine ZAL ?_;clear K r;intro W b K r)|(refine ZST ?_;clear K r;intro W K r))
  exact bodyPost_ret (v:=.agg #[.int .i64 0,.slice none 0 0]) (by simp [results,Tryz.results103,go_sem,r]) rfl ⟨0,none,0,0,[],rfl,Rd.nil,by rw [HZ.out];exact Std.zero,FrA.none,K.1⟩
 ·have hd2:((n1:Int)==0)=false:=by simp;omega
  have HZ:=jpk (HN.out ZO)
  clear hlen hn1
  go_wp2_with (first|(refine ZAL ?_;clear K r;intro W b K r)|(refine ZST ?_;clear K r;intro W K r))
  exact bodyPost_ret (v:=.agg #[.int .i64 s,.slice A1 n1 c1]) (by simp [results,Tryz.results103,go_sem,r]) rfl ⟨s,A1,n1,c1,d,rfl,ZRD,HZ.out,hf1.out,K.1⟩
theorem jaG (s:Int) (A:Option Addr) (n cap:Nat) (l:List Int) (w:World) (hl:RdI w w.heap.size A n cap l) :
 Calls Tryz.prog 83 #[.agg #[.int .i64 s,.slice A n cap]] w fun e w'=>e=.returned (.bool (jae s l))∧Below w.heap.size w w':=by
 have hln:=hl.len
 have hcap:=hl.caps
 have hb0:=(Below.refl w.heap.size w).alloc (Nat.le_refl _) (.cells #[.int .i64 s,.slice A n cap] 27)
 have c0:(w.alloc (.cells #[.int .i64 s,.slice A n cap] 27)).cell? ⟨w.heap.size,0,none⟩=some (.int .i64 s):=jaY rfl rfl
 have c1:(w.alloc (.cells #[.int .i64 s,.slice A n cap] 27)).cell? ⟨w.heap.size,1,none⟩=some (.slice A n cap):=jaY rfl rfl
 have hl0:=hl.up (jab _) hb0
 have HF:=jpk (show (∃i,i<n∧(gi l i<0∨1048576≤gi l i))→jae s l=false from fun ⟨i,hi,h⟩=>by
  cases hr:jae s l
  ·rfl
  ·have:=(jah hr).1.1.at hln i hi
   omega)
 have HT:=jpk (show (∀i,i<n→0≤gi l i∧gi l i<1048576)→jae s l=(if n=0 then decide (s=0) else ((decide (s=1)||decide (s= -1))&&(decide (n≤60)&&decide (gi l (n-1)≠0)))) from fun h=>by
  exact ZQ78)
 generalize jae s l=RB at *
 go_enter Tryz.func83,Tryz.ntmps83
 go_wp2_with fail
 generalize w.alloc (.cells #[.int .i64 s,.slice A n cap] 27)=w0 at *
 obtain ⟨g,hg⟩:∃g,g=w.heap.size:=⟨_,rfl⟩
 have HB0:=jpk hb0
 rw [←hg] at c0 c1 ⊢
 clear hg hb0
 go_loopg [3] n (fun gk i wr=>∃k:Nat,k≤n∧gk=n-k∧i=.int .i64 k∧(∀j,j<k→0≤gi l j∧gi l j<1048576)∧w0=wr)
 case atStart=>exact ⟨0,Nat.zero_le _,rfl,rfl,(fun j hj=>absurd hj ZO),rfl⟩
 case round =>
  obtain ⟨k,hk,rfl,rfl,hall,rfl⟩:=hrel
  have Hall:=jpk hall
  clear hall
  by_cases hlt:k<n
  ·obtain ⟨b,off,x,rfl,hb,hx,d0⟩:=hl0.atI hlt
   have Hx:=jpk (jaS hx)
   have hki:(k:Int)<(n:Int):=by omega
   have hk0:(0:Int)≤(k:Int):=by omega
   clear hx
   by_cases h1:x<0
   ·exact ZQ98
   ·have hd:decide (x<0)=false:=by simpa using h1
    by_cases h2:1048576≤x
    ·have hd2:decide (1048576≤x)=true:=by simpa using h2
     exact ZQ121
    ·have hd2:decide (1048576≤x)=false:=by simpa using h2
     have Hn:=jpk (show ∀j,j<k+1→0≤gi l j∧gi l j<1048576 from fun j hj=>by
      by_cases e:j=k
      ·subst e;rw [Hx.out];omega
      ·exact Hall.out j ZO)
     clear h1 h2
     exact ZQ84
  ·have ee:k=n:=by omega
   subst ee
   have hRB:=HT.out Hall.out
   have hd0:decide (k<k)=false:=by simp
   by_cases hk0:k=0
   ·rw [if_pos hk0] at hRB
    have hd:((k:Int)==0)=true:=by simp [hk0]
    have hd60:decide (60<k)=false:=by simp [hk0]
    have hd61:decide ((60:Int)<(k:Int))=false:=by simp [hk0]
    have hd62:k≤60:=by omega
    have hs3:decide (s< -1)=true∨(decide (s< -1)=false∧decide (1<s)=true)∨(decide (s< -1)=false∧decide (1<s)=false∧(s==0)=false)∨(s==0)=true∧decide (s< -1)=false∧decide (1<s)=false:=by
     by_cases h1:s< -1
     ·exact Or.inl (decide_eq_true h1)
     ·by_cases h2:1<s
      ·exact Or.inr (Or.inl ⟨decide_eq_false h1,decide_eq_true h2⟩)
      ·by_cases h3:s=0
       ·exact Or.inr (Or.inr (Or.inr ⟨by simp [h3],decide_eq_false h1,decide_eq_false h2⟩))
       ·exact Or.inr (Or.inr (Or.inl ⟨decide_eq_false h1,decide_eq_false h2,by simp [h3]⟩))
    have hRB0:(s==0)=RB:=by rw [hRB];by_cases h:s=0 <;> simp [h]
    have hneg:decide (s< -1)=true→(s==0)=false:=fun h=>by have:=of_decide_eq_true h;simp;omega
    have hpos:decide (1<s)=true→(s==0)=false:=fun h=>by have:=of_decide_eq_true h;simp;omega
    have HR:=jpk hRB0
    clear hRB hRB0 hk0
    rcases hs3 with h1|⟨h1,h2⟩|⟨h1,h2,h3⟩|⟨h3,h1,h2⟩
    ·have h3:=hneg h1
     exact ZQ88
    ·have h3:=hpos h2
     exact ZQ88
    ·exact ZQ88
    ·exact ZQ88
   ·rw [if_neg hk0] at hRB
    have hd:((k:Int)==0)=false:=by simp [hk0]
    obtain ⟨m,rfl⟩:∃m,k=m+1:=⟨k-1,by omega⟩
    obtain ⟨b,off,x,rfl,hb,hx,d0⟩:=hl0.atI (k:=m) ZO
    rw [Nat.add_sub_cancel,jaS hx] at hRB
    have hm0:(0:Int)≤(m:Int):=by omega
    have hm1:(m:Int)<(m:Int)+1:=by omega
    have hwm:IntKind.i64.wrap ((m:Int)+1-1)=(m:Int):=IntWalk.i64_in _ ZO |>.trans ZO
    clear hx hk0
    have hsc:decide (s< -1)=true∧RB=false∨(decide (s< -1)=false∧decide (1<s)=true∧RB=false)∨(decide (s< -1)=false∧decide (1<s)=false∧decide ((60:Int)<(m:Int)+1)=true∧RB=false) ∨
     (decide (s< -1)=false∧decide (1<s)=false∧decide ((60:Int)<(m:Int)+1)=false∧(s==0)=true∧RB=false)∨(decide (s< -1)=false∧decide (1<s)=false∧decide ((60:Int)<(m:Int)+1)=false∧(s==0)=false∧RB=(x !=0)):=by
     by_cases h1:s< -1
     ·exact Or.inl ⟨decide_eq_true h1,by rw [hRB,decide_eq_false (show ¬s=1 by omega),decide_eq_false (show ¬s= -1 by omega)];rfl⟩
     ·by_cases h2:1<s
      ·exact Or.inr (Or.inl ⟨decide_eq_false h1,decide_eq_true h2,by rw [hRB,decide_eq_false (show ¬s=1 by omega),decide_eq_false (show ¬s= -1 by omega)];rfl⟩)
      ·by_cases h6:60<m+1
       ·exact Or.inr (Or.inr (Or.inl ⟨decide_eq_false h1,decide_eq_false h2,decide_eq_true ZO,by rw [hRB,decide_eq_false (show ¬m+1≤60 by omega),Bool.false_and,Bool.and_false]⟩))
       ·by_cases h3:s=0
        ·exact Or.inr (Or.inr (Or.inr (Or.inl ⟨decide_eq_false h1,decide_eq_false h2,decide_eq_false ZO,by simp [h3],by rw [hRB,decide_eq_false (show ¬s=1 by omega),decide_eq_false (show ¬s= -1 by omega)];rfl⟩)))
        ·refine Or.inr (Or.inr (Or.inr (Or.inr ⟨decide_eq_false h1,decide_eq_false h2,decide_eq_false ZO,by simp [h3],?_⟩)))
         rw [hRB,decide_eq_true (show m+1≤60 by omega),Bool.true_and]
         have:s=1∨s= -1:=by omega
         rcases this with rfl|rfl <;> by_cases hx0:x=0 <;> simp [hx0]
    clear hRB
    rcases hsc with ⟨h1,h⟩|⟨h1,h2,h⟩|⟨h1,h2,h3,h⟩|⟨h1,h2,h3,h4,h⟩|⟨h1,h2,h3,h4,h⟩
    all_goals
     have HR:=jpk h
     clear h
     exact ZQ74
theorem jca {l:List Int} {N:Nat} (h:l.length≤N):vF (dgt l) N=val l:=by
 rw [ja0 rfl]
 exact jeg N h
theorem jdC {l:List Int} (h:DgOk l) (N:Nat):Dg (dgt l) N:=fun i hi=>by
 unfold dgt
 split
 ·rename_i h1
  exact h.at rfl i h1
 ·omega
theorem jk3 {a b:List Int} (ha:DgOk a) (hb:DgOk b) {N m:Nat} (hN:a.length≤N∧b.length≤N) (hm:m<N) (he:∀j,m+1≤j→j<N→dgt a j=dgt b j) (hne:dgt a m≠dgt b m):decide (val a<val b)=decide (dgt a m<dgt b m):=by
 rw [←jca hN.1,←jca hN.2]
 rcases Int.lt_or_gt_of_ne hne with h|h
 ·rw [decide_eq_true h,decide_eq_true (jef N hm (jdC ha N) (jdC hb N) h (fun j h1 h2=>he j h1 h2))]
 ·have h1:=jef N hm (jdC hb N) (jdC ha N) h (fun j h1 h2=>(he j h1 h2).symm)
  rw [decide_eq_false ZO,decide_eq_false ZO]
theorem jk4 {a b:List Int} {N:Nat} (hN:a.length≤N∧b.length≤N) (he:∀j,j<N→dgt a j=dgt b j):decide (val a<val b)=false:=by
 rw [←jca hN.1,←jca hN.2,jaR N he]
 exact decide_eq_false ZO
theorem jdZ (A A2:Option Addr) (n cap n2 cap2:Nat) (a b:List Int) (w:World) (ha:RdI w w.heap.size A n cap a) (hb:RdI w w.heap.size A2 n2 cap2 b) (da:DgOk a) (db:DgOk b) :
 Calls Tryz.prog 120 #[.slice A n cap,.slice A2 n2 cap2] w fun e w'=>e=.returned (.bool (decide (val a<val b)))∧w=w':=by
 have hla:=ha.len
 have hlb:=hb.len
 have hca:=ha.caps
 have hcb:=hb.caps
 obtain ⟨N,hN⟩:∃N:Nat,(max (n:Int) (n2:Int))=(N:Int)∧n≤N∧n2≤N∧N≤140737488351232:=by
  by_cases h:n≤n2
  ·exact ⟨n2,by omega,h,Nat.le_refl _,by omega⟩
  ·exact ⟨n,by omega,Nat.le_refl _,by omega,by omega⟩
 obtain ⟨hmax,hN1,hN2,hN3⟩:=hN
 have hNN:a.length≤N∧b.length≤N:=by omega
 have HL:=jpk (fun m (hm:m<N) he hne=>jk3 da db hNN hm he hne)
 have HS:=jpk (jk4 hNN)
 have HDa:=jpk (fun i=>jbx A n cap a i w ha)
 have HDb:=jpk (fun i=>jbx A2 n2 cap2 b i w hb)
 generalize decide (val a<val b)=R at *
 have hwn:IntKind.i64.wrap ((N:Int)-1)=(N:Int)-1:=IntWalk.i64_in _ ZO
 clear hla hlb hNN da db hN1 hN2 ha hb hca hcb
 go_enter Tryz.func120,Tryz.ntmps120
 go_wp2
 go_loopg [5] N (fun gk i wr=>∃k:Nat,k≤N∧k=gk∧i=.int .i64 ((k:Int)-1)∧(∀j,k≤j→j<N→dgt a j=dgt b j)∧w=wr)
 case atStart=>exact ⟨N,Nat.le_refl _,rfl,by simp [hmax,hwn],(fun j h1 h2=>absurd h2 ZO),rfl⟩
 case round =>
  obtain ⟨k,hk,rfl,rfl,he,rfl⟩:=hrel
  have He:=jpk he
  clear he
  rcases Nat.eq_zero_or_pos k with hk0|hk0
  ·subst hk0
   have Hf:=jpk (HS.out fun j hj=>He.out j ZO hj)
   exact jkF
  ·obtain ⟨m,rfl⟩:∃m,k=m+1:=⟨k-1,by omega⟩
   have h2:(0:Int)≤(m:Int):=by omega
   have hcm:((m+1:Nat):Int)-1=(m:Int):=by omega
   by_cases hxy:dgt a m=dgt b m
   ·have hdd:(dgt a m !=dgt b m)=false:=by simp [hxy]
    have Hn:=jpk (show ∀j,m≤j→j<N→dgt a j=dgt b j from fun j h1 h2=>by
     by_cases e:j=m
     ·subst e;exact hxy
     ·exact He.out j ZO h2)
    clear hxy
    go_wp2_with fail
    refine (HDa.out m).mono ?_
    rintro e _ ⟨rfl,rfl⟩
    go_wp2_with fail
    refine (HDb.out m).mono ?_
    rintro e _ ⟨rfl,rfl⟩
    go_wp2
    go_roundg m
    case rel=>exact ⟨m,by omega,rfl,by go_num,Hn.out,rfl⟩
    case measure=>omega
   ·have hdd:(dgt a m !=dgt b m)=true:=by simp [hxy]
    have Hf:=jpk (HL.out m ZO (fun j h1 h2=>He.out j h1 h2) hxy)
    clear hxy
    go_wp2_with fail
    refine (HDa.out m).mono ?_
    rintro e _ ⟨rfl,rfl⟩
    go_wp2_with fail
    refine (HDb.out m).mono ?_
    rintro e _ ⟨rfl,rfl⟩
    go_wp2_with fail
    refine (HDa.out m).mono ?_
    rintro e _ ⟨rfl,rfl⟩
    go_wp2_with fail
    refine (HDb.out m).mono ?_
    rintro e _ ⟨rfl,rfl⟩
    exact jkF
theorem jcF (A:Option Addr) (n cap:Nat) (f:Nat→Int) (w:World) (hl:RdI w w.heap.size A n cap (ofF n f)) (hn:n≤100000) (hf:Dg f n) :
 Calls Tryz.prog 132 #[.slice A n cap] w (DigR w (digs (vF f n).toNat)):=by
 have h:=jc7 A n cap (ofF n f) w hl hn
 rw [jbC hf.ok,jgs] at h
 exact h
theorem AddI.more {a b o:Nat→Int} {k:Nat} {c:Int} (h:AddI a b o k c) (ha:0≤a k∧a k<1048576) (hb:0≤b k∧b k<1048576):AddI a b (fun j=>if j<k then o j else (a k+b k+c)%1048576) (k+1) ((a k+b k+c) / 1048576):=by
 have h1:=(h.congr (o':=fun j=>if j<k then o j else (a k+b k+c)%1048576) (fun j hj=>if_pos hj)).step ha hb (by
  show (if k<k then o k else _)=_
  rw [if_neg (Nat.lt_irrefl k)]
  congr 1;omega)
 rw [show c+a k+b k=a k+b k+c by omega] at h1
 exact h1
theorem jfA (A A2:Option Addr) (n cap n2 cap2:Nat) (a b:List Int) (w:World) (ha:RdI w w.heap.size A n cap a) (hb:RdI w w.heap.size A2 n2 cap2 b) (da:DgOk a) (db:DgOk b) (hn:n≤1000) (hn2:n2≤1000) :
 Calls Tryz.prog 119 #[.slice A n cap,.slice A2 n2 cap2] w (DigR w (digs (val a+val b).toNat)):=by
 obtain ⟨i0,hi0,hz0,hz1,hz2⟩:=jaN jbf
 have hla:=ha.len
 have hlb:=hb.len
 have hca:=ha.caps
 have hcb:=hb.caps
 obtain ⟨N,hN1,hN2,hN3⟩:∃N:Nat,n≤N∧n2≤N∧(N=n∨N=n2):=by
  by_cases h:n≤n2
  ·exact ⟨n2,h,Nat.le_refl _,Or.inr rfl⟩
  ·exact ⟨n,Nat.le_refl _,by omega,Or.inl rfl⟩
 have hDa:=jdC da (N+1)
 have hDb:=jdC db (N+1)
 have Hz:=jpk (show ∀k,N≤k→dgt a k=0∧dgt b k=0 from fun k hk=>⟨jeZ ZO,jeZ ZO⟩)
 have HV:=jpk (show ∀k,N≤k→vF (dgt a) k+vF (dgt b) k=val a+val b from fun k hk=>by rw [jca ZO,jca ZO])
 have HDa:=jpk (fun W (h:Below w.heap.size w W) i=>jbx A n cap a i W (ha.up (jab _) h))
 have HDb:=jpk (fun W (h:Below w.heap.size w W) i=>jbx A2 n2 cap2 b i W (hb.up (jab _) h))
 have hN4:N≤1000:=by omega
 obtain ⟨R,hR⟩:∃R,R=digs (val a+val b).toNat:=⟨_,rfl⟩
 rw [←hR]
 have HR:=jpk hR
 clear hla hlb da db hca hcb ha hb hR
 go_enter Tryz.func119,Tryz.ntmps119
 go_wp2
 go_loopg [5,6,7] (N+1) (fun gk v cv kv wr=>∃(k:Nat) (c:Int) (o:Nat→Int),k≤N+1∧gk=N+1-k∧kv=.int .i64 k∧cv=.int .i64 c∧AddI (dgt a) (dgt b) o k c∧(k=N+1→c=0)∧Own 1 iEnc wr w.heap.size 3 v (ofF k o)∧Below w.heap.size w wr)
 case atStart=>exact ⟨0,0,fun _=>0,by omega,rfl,rfl,rfl,AddI.zero,fun h=>by omega,Own.nil,Below.refl _ _⟩
 case round =>
  obtain ⟨k,c,o,hk,rfl,rfl,rfl,hI,hc,ho,hbw⟩:=hrel
  have HI:=jpk hI
  have hcb:=hI.2.2
  have hsz:=hbw.size
  have hkl:(ofF k o).length=k:=jag
  clear hI
  by_cases hgo:k<N∨0<c
  ·have hkN:k<N+1:=by
    rcases hgo with h|h
    ·omega
    ·refine Classical.byContradiction fun h2=>?_
     have:=hc ZO
     omega
   have e1:=hDa k hkN
   have e2:=hDb k hkN
   have HM:=jpk (HI.out.more e1 e2)
   have Hc':=jpk (show k+1=N+1→(dgt a k+dgt b k+c) / 1048576=0 from fun h=>by
    obtain ⟨z1,z2⟩:=Hz.out k ZO
    rw [z1,z2]
    omega)
   have hcond:decide (k<n)=true∨(decide (k<n)=false∧decide (k<n2)=true)∨(decide (k<n)=false∧decide (k<n2)=false∧decide (0<c)=true):=by
    by_cases h1:k<n
    ·exact Or.inl (decide_eq_true h1)
    ·by_cases h2:k<n2
     ·exact Or.inr (Or.inl ⟨decide_eq_false h1,decide_eq_true h2⟩)
     ·refine Or.inr (Or.inr ⟨decide_eq_false h1,decide_eq_false h2,decide_eq_true ?_⟩)
      rcases hgo with h|h
      ·omega
      ·exact h
   have g1:=jbx
   have D1:=HDa.out wr hbw k
   have D2:=HDb.out wr hbw k
   obtain ⟨x,hx⟩:∃x,x=dgt a k:=⟨_,rfl⟩
   obtain ⟨y,hy⟩:∃y,y=dgt b k:=⟨_,rfl⟩
   rw [←hx] at e1 D1 HM Hc'
   rw [←hy] at e2 D2 HM Hc'
   have hw1:IntKind.i64.wrap (x+y)=x+y:=IntWalk.i64_in _ ZO
   have hw2:IntKind.i64.wrap (x+y+c)=x+y+c:=IntWalk.i64_in _ ZO
   have hm:(x+y+c).tmod 1048576=(x+y+c)%1048576:=Int.tmod_eq_emod_of_nonneg ZO
   have hq:(x+y+c).tdiv 1048576=(x+y+c) / 1048576:=Int.tdiv_eq_ediv_of_nonneg ZO
   have hw3:IntKind.i64.wrap ((x+y+c)%1048576)=(x+y+c)%1048576:=IntWalk.i64_in _ ZO
   have hw4:IntKind.i64.wrap ((x+y+c) / 1048576)=(x+y+c) / 1048576:=IntWalk.i64_in _ ZO
   have hwk:IntKind.i64.wrap ((k:Int)+1)=(k:Int)+1:=IntWalk.i64_in _ ZO
   have D1':=jpk D1;have D2':=jpk D2
   clear g1 hgo e1 e2 hc hx hy D1 D2
   rcases hcond with q1|⟨q1,q2⟩|⟨q1,q2,q3⟩
   all_goals
    go_wp2_with fail
    refine D1'.out.mono ?_
    rintro e _ ⟨rfl,rfl⟩
    go_wp2_with fail
    refine D2'.out.mono ?_
    rintro e _ ⟨rfl,rfl⟩
    go_wp2_with (at_builtin
                 refine jbd jap rfl _ _ 22 rfl w.heap.size 3 i0 _ 8 Tryz.underlying22 hi0 hz0 hz1 hz2 rfl _ (ofF k o) rfl ho ((x+y+c)%1048576) _ rfl wr.heap.size rfl rfl (by rw [hkl];omega) ZO hsz ?_
                 intro v4 w4 ho4 hk4 hn4 hB4
                 have hb4:=hB4 _ _ (Nat.le_refl _) hbw
                 rw [jfk] at ho4)
    go_roundg (N+1-(k+1))
    case rel=>exact ⟨k+1,_,_,by omega,rfl,by go_num,rfl,HM.out,Hc'.out,ho4,hb4⟩
    case measure=>omega
  ·have hc0:c=0:=by omega
   subst hc0
   have hkn:¬k<N:=fun h=>hgo (Or.inl h)
   have q1:decide (k<n)=false:=decide_eq_false ZO
   have q2:decide (k<n2)=false:=decide_eq_false ZO
   obtain ⟨i1,i2,-⟩:=HI.out
   have hv:vF o k=val a+val b:=by
    rw [Int.mul_zero,Int.add_zero] at i1
    rw [i1]
    exact HV.out k ZO
   obtain ⟨A3,c3,rfl,hr⟩:=ho.rd jap (by rw [hkl];omega)
   rw [hkl] at hr ⊢
   have HT:=jpk (jcF A3 k c3 o wr hr ZO i2)
   rw [hv,←HR.out] at HT
   clear hgo hkn i1 i2 hv hr ho hc hkl
   exact ZQ77
theorem SubI.more {a b o:Nat→Int} {k:Nat} {c:Int} (h:SubI a b o k c) (ha:0≤a k∧a k<1048576) (hb:0≤b k∧b k<1048576) :
 (a k-b k-c<0→SubI a b (fun j=>if j<k then o j else a k-b k-c+1048576) (k+1) 1)∧(¬a k-b k-c<0→SubI a b (fun j=>if j<k then o j else a k-b k-c) (k+1) 0):=by
 have hc:=h.2.2
 have h1:=fun (v:Int) (hv:v=(a k-c-b k)%1048576)=>(h.congr (o':=fun j=>if j<k then o j else v) (fun j hj=>if_pos hj)).step ha hb (by
  show (if k<k then o k else _)=_
  rw [if_neg (Nat.lt_irrefl k)]
  exact hv)
 refine ⟨fun hl=>?_,fun hl=>?_⟩
 ·have h2:=h1 (a k-b k-c+1048576) ZO
  rw [show -((a k-c-b k) / 1048576)=1 by omega] at h2
  exact h2
 ·have h2:=h1 (a k-b k-c) ZO
  rw [show -((a k-c-b k) / 1048576)=0 by omega] at h2
  exact h2
theorem jcE (A A2:Option Addr) (n cap n2 cap2:Nat) (a b:List Int) (w:World) (ha:RdI w w.heap.size A n cap a) (hb:RdI w w.heap.size A2 n2 cap2 b) (da:DgOk a) (db:DgOk b) (hn:n≤1000) (hn2:n2≤n) (hle:val b≤val a) :
 Calls Tryz.prog 121 #[.slice A n cap,.slice A2 n2 cap2] w (DigR w (digs (val a-val b).toNat)):=by
 obtain ⟨i0,hi0,hz0,hz1,hz2⟩:=jaN jbf
 have hla:=ha.len
 have hlb:=hb.len
 have hca:=ha.caps
 have hcb:=hb.caps
 have hDa:=da.at hla
 have hDb:=jdC db n
 have Hfin:=jpk (fun o c (h:SubI (gi a) (dgt b) o n c)=>(show vF o n=val a-val b from by
  have h1:=h.fin (by rw [←ja0 hla,jca ZO];exact hle)
  rw [h1,←ja0 hla,jca ZO]))
 have HDb:=jpk (fun W (h:Below w.heap.size w W) i=>jbx A2 n2 cap2 b i W (hb.up (jab _) h))
 have HA:=jpk ha
 obtain ⟨R,hR⟩:∃R,R=digs (val a-val b).toNat:=⟨_,rfl⟩
 rw [←hR]
 have HR:=jpk hR
 clear hlb da db hca hcb hb hR hle
 go_enter Tryz.func121,Tryz.ntmps121
 go_wp2
 go_loopg [5,6,7] n (fun gk v cv kv wr=>∃(k:Nat) (c:Int) (o:Nat→Int),k≤n∧gk=n-k∧kv=.int .i64 k∧cv=.int .i64 c∧SubI (gi a) (dgt b) o k c∧Own 1 iEnc wr w.heap.size 3 v (ofF k o)∧Below w.heap.size w wr)
 case atStart=>exact ⟨0,0,fun _=>0,by omega,rfl,rfl,rfl,SubI.zero,Own.nil,Below.refl _ _⟩
 case round =>
  obtain ⟨k,c,o,hk,rfl,rfl,rfl,hI,ho,hbw⟩:=hrel
  have HI:=jpk hI
  have hcb:=hI.2.2
  have hsz:=hbw.size
  have hkl:(ofF k o).length=k:=jag
  clear hI
  by_cases hgo:k<n
  ·have e1:=hDa k hgo
   have e2:=hDb k hgo
   obtain ⟨b0,off,x,rfl,hb0,hx,d0⟩:=HA.out.atI hgo
   have hx0:=jaS hx
   have d1:=(hbw.cell (p:=⟨b0,off+k,none⟩) hb0).trans d0
   obtain ⟨HM1,HM2⟩:=HI.out.more e1 e2
   have Hq:=jpk (fun q=>(HDb.out (wr.drewN q) (jaH hbw q) k).mono fun e w'' ⟨h1,h2⟩=>(⟨h1,q,h2.symm⟩:e=Ending.returned (.int .i64 (dgt b k))∧∃s,w''=wr.drewN s))
   obtain ⟨y,hy⟩:∃y,y=dgt b k:=⟨_,rfl⟩
   rw [←hy] at e2 Hq HM1 HM2
   rw [hx0] at e1 HM1 HM2
   have hki:(k:Int)<(n:Int):=by omega
   have hk0:(0:Int)≤(k:Int):=by omega
   have hw1:IntKind.i64.wrap (x-y)=x-y:=IntWalk.i64_in _ ZO
   have hw2:IntKind.i64.wrap (x-y-c)=x-y-c:=IntWalk.i64_in _ ZO
   have hw3:IntKind.i64.wrap (x-y-c+1048576)=x-y-c+1048576:=IntWalk.i64_in _ ZO
   have hwk:IntKind.i64.wrap ((k:Int)+1)=(k:Int)+1:=IntWalk.i64_in _ ZO
   have HBW:=jpk (fun q=>(⟨jaH hbw q,ho.drewN q,hbw.size⟩:Below w.heap.size w (wr.drewN q)∧Own 1 iEnc (wr.drewN q) w.heap.size 3 _ (ofF k o)∧w.heap.size≤(wr.drewN q).heap.size))
   by_cases hlt:x-y-c<0
   ·have hd:decide (x-y-c<0)=true:=decide_eq_true hlt
    have HM:=jpk (HM1 hlt)
    clear hx hx0 hy HM1 HM2 hlt d0 e1 e2 hcb ho hbw hsz
    go_wp2_with fail
    go_quiet ((go_at_call 136;exact Hq.out _))
    obtain ⟨hbq,hoq,hsq⟩:=HBW.out nq
    go_wp2_with (at_builtin
                 refine jbd jap rfl _ _ 22 rfl w.heap.size 3 i0 _ 8 Tryz.underlying22 hi0 hz0 hz1 hz2 rfl _ (ofF k o) rfl hoq (x-y-c+1048576) _ rfl wr.heap.size rfl rfl (by rw [hkl];omega) ZO hsq ?_
                 intro v4 w4 ho4 hk4 hn4 hB4
                 have hb4:=hB4 _ _ (Nat.le_refl _) hbq
                 rw [jfk] at ho4)
    exact ZQ131
   ·have hd:decide (x-y-c<0)=false:=decide_eq_false hlt
    have HM:=jpk (HM2 hlt)
    clear hx hx0 hy HM1 HM2 hlt d0 e1 e2 hcb ho hbw hsz
    go_wp2_with fail
    go_quiet ((go_at_call 136;exact Hq.out _))
    obtain ⟨hbq,hoq,hsq⟩:=HBW.out nq
    go_wp2_with (at_builtin
                 refine jbd jap rfl _ _ 22 rfl w.heap.size 3 i0 _ 8 Tryz.underlying22 hi0 hz0 hz1 hz2 rfl _ (ofF k o) rfl hoq (x-y-c) _ rfl wr.heap.size rfl rfl (by rw [hkl];omega) ZO hsq ?_
                 intro v4 w4 ho4 hk4 hn4 hB4
                 have hb4:=hB4 _ _ (Nat.le_refl _) hbq
                 rw [jfk] at ho4)
    exact ZQ131
  ·have ee:k=n:=by omega
   subst ee
   have q1:decide (k<k)=false:=by simp
   have hv:=Hfin.out o c HI.out
   have i2:=HI.out.2.1
   obtain ⟨A3,c3,rfl,hr⟩:=ho.rd jap (by rw [hkl];omega)
   rw [hkl] at hr ⊢
   have HT:=jpk (jcF A3 k c3 o wr hr ZO i2)
   rw [hv,←HR.out] at HT
   clear hgo i2 hv hr ho hkl
   exact ZQ77
theorem jev (A A2:Option Addr) (n cap n2 cap2:Nat) (a b:List Int) (w:World) (ha:RdI w w.heap.size A n cap a) (hb:RdI w w.heap.size A2 n2 cap2 b) (da:DgOk a) (db:DgOk b) (hn:n≤1000) (hn2:n2≤1000) :
 Calls Tryz.prog 118 #[.slice A n cap,.slice A2 n2 cap2] w (DigR w (digs (val a*val b).toNat)):=by
 obtain ⟨i0,hi0,hz0,hz1,hz2⟩:=jaN jbf
 have hla:=ha.len
 have hlb:=hb.len
 have Hval:=jpk (ja0 hla)
 have HvB:=jpk (fun k (hk:n2≤k)=>jca (l:=b) (N:=k) ZO)
 have Hda:=jpk (da.at hla)
 have Hdb:=jpk (fun N=>jdC db N)
 have Hz:=jpk (fun k (hk:n2≤k)=>(show dgt b k=0 from jeZ ZO))
 have HDb:=jpk (fun W (h:Below w.heap.size w W) i=>jbx A2 n2 cap2 b i W (hb.up (jab _) h))
 have hw1:IntKind.i64.wrap ((n:Int)+(n2:Int))=((n+n2:Nat):Int):=by rw [IntWalk.i64_in _ ZO];omega
 obtain ⟨B,hB⟩:∃B,B=val b:=⟨_,rfl⟩
 obtain ⟨R,hR⟩:∃R,R=digs (val a*val b).toNat:=⟨_,rfl⟩
 rw [←hR]
 rw [←hB] at HvB hR
 have HR:=jpk hR
 clear hla hlb da db hR hB hb
 go_enter Tryz.func118,Tryz.ntmps118
 go_wp2_with (at_make;refine jbS _ jap 0 rfl _ _ 22 rfl w.heap.size 3 i0 (.int .i64 0) Tryz.underlying22 hi0 hz0 hz1 rfl _ _ _ _ (n+n2) rfl rfl Zb5 Zb5 (by rw [hz2];omega) Zb2 (Nat.le_refl _) ?_
              intro w2 ho2 hg2
              have hb2:Below w.heap.size w w2:=(Below.refl _ _).grown hg2 (Nat.le_refl _) (by intro k hk;cases hk))
 clear hg2
 go_loopg [6] n (fun gk i wr=>∃(j:Nat) (o:Nat→Int),j≤n∧gk=n-j∧i=.int .i64 j∧vF o (n+n2)=vF (gi a) j*B∧Dg o (n+n2)∧(∀q,j+n2≤q→o q=0)∧Own 1 iEnc wr w.heap.size 3 (.slice (some ⟨w.heap.size,0,none⟩) (n+n2) (n+n2)) (ofF (n+n2) o)∧Below w.heap.size w wr)
 case atStart=>exact ⟨0,fun _=>0,Nat.zero_le _,rfl,rfl,by rw [jgq,vF,Int.zero_mul],(fun i _=>⟨Int.le_refl 0,(by decide:(0:Int)<1048576)⟩),(fun q _=>rfl),by rw [←jcs];exact ho2,hb2⟩
 case round =>
  clear ho2 hb2
  obtain ⟨j,o,hj,rfl,rfl,hvo,hdo,hzo,ho,hbel⟩:=hrel
  have Hvo:=jpk hvo;have Hdo:=jpk hdo;have Hzo:=jpk hzo
  clear hvo hdo hzo
  by_cases hlt:j<n
  ·obtain ⟨b1,o1,x,rfl,hb1,hx,c0⟩:=ha.atI hlt
   have Hx:=jpk (jaS hx)
   have hxd:=Hda.out j hlt
   rw [Hx.out] at hxd
   have hji:(j:Int)<(n:Int):=by omega
   have hj0:(0:Int)≤(j:Int):=by omega
   have hwj:IntKind.i64.wrap ((j:Int)+1)=(j:Int)+1:=IntWalk.i64_in _ ZO
   clear hx
   go_wp2
   go_loopg [7,8] (n2+1) (fun gk cvl i wr=>∃(k:Nat) (cv:Int) (p:Nat→Int),k≤n2+1∧gk=n2+1-k∧i=.int .i64 k∧cvl=.int .i64 cv∧MulI x (dgt b) o p (n+n2) j n2 k cv∧(k=n2+1→cv=0)∧Own 1 iEnc wr w.heap.size 3 (.slice (some ⟨w.heap.size,0,none⟩) (n+n2) (n+n2)) (ofF (n+n2) p)∧Below w.heap.size w wr)
   case atStart=>exact ⟨0,0,o,Nat.zero_le _,rfl,rfl,rfl,MulI.zero Hdo.out,(fun h=>by omega),ho,hbel⟩
   case round =>
    clear ho hbel
    obtain ⟨k,cv,p,hk,rfl,rfl,rfl,hI,hcz,ho,hbel⟩:=hrel
    have HI:=jpk hI
    obtain ⟨hc0,hc1⟩:=hI.2.2.1
    clear hI
    by_cases hgo:k<n2∨0<cv
    ·have hkN:k≤n2:=by
      rcases hgo with h|h
      ·omega
      ·refine Classical.byContradiction fun h2=>?_
       have:=hcz ZO
       omega
     have hyd:=Hdb.out (k+1) k ZO
     obtain ⟨p1,hp1⟩:∃p1,p1=j+k:=⟨_,rfl⟩
     have hp1l:p1<n+n2:=by omega
     obtain ⟨z0,z1⟩:=ho.cellI (i:=p1) hp1l
     have hpd:=HI.out.2.1 (j+k) ZO
     have hpz:=HI.out.2.2.2 (j+k) (Nat.le_refl _)
     have Hq:=jpk (fun W (h:Below w.heap.size w W) q=>(HDb.out (W.drewN q) (jaH h q) k).mono fun e w'' ⟨h1,h2⟩=>(⟨h1,q,h2.symm⟩:e=Ending.returned (.int .i64 (dgt b k))∧∃s,w''=W.drewN s))
     have hN:=HI.out.step hxd hyd ZO
     have hcz':k+1=n2+1→(p (j+k)+x*dgt b k+cv) / 1048576=0:=fun h=>by
      rw [Hz.out k ZO,hpz,Hzo.out (j+k) ZO]
      omega
     obtain ⟨y,hy⟩:∃y,y=dgt b k:=⟨_,rfl⟩
     rw [←hy] at hyd Hq hN hcz'
     rw [←hp1] at hpd hN hcz'
     obtain ⟨u,hu⟩:∃u,u=p p1:=⟨_,rfl⟩
     rw [←hu] at z0 hpd hN hcz'
     have HN:=jpk hN;have Hcz:=jpk hcz'
     have hcond:decide (k<n2)=true∨(decide (k<n2)=false∧decide (0<cv)=true):=by
      by_cases h1:k<n2
      ·exact Or.inl (decide_eq_true h1)
      ·exact Or.inr ⟨decide_eq_false h1,decide_eq_true (by rcases hgo with h|h;exact absurd h h1;exact h)⟩
     have hxy:=jeC hxd hyd
     have hj1:(j:Int)+(k:Int)=(p1:Int):=by omega
     have hwjk:IntKind.i64.wrap ((j:Int)+(k:Int))=(p1:Int):=by rw [IntWalk.i64_in _ ZO];omega
     have hp0:(0:Int)≤(p1:Int):=by omega
     have hp2:(p1:Int)<(n:Int)+(n2:Int):=by omega
     have hp3:(p1:Int)<((n+n2:Nat):Int):=by omega
     have hw2:IntKind.i64.wrap (x*y)=x*y:=IntWalk.i64_in _ ZO
     have hw3:IntKind.i64.wrap (u+x*y)=u+x*y:=IntWalk.i64_in _ ZO
     have hw4:IntKind.i64.wrap (u+x*y+cv)=u+x*y+cv:=IntWalk.i64_in _ ZO
     have hm:(u+x*y+cv).tmod 1048576=(u+x*y+cv)%1048576:=Int.tmod_eq_emod_of_nonneg ZO
     have hqq:(u+x*y+cv).tdiv 1048576=(u+x*y+cv) / 1048576:=Int.tdiv_eq_ediv_of_nonneg ZO
     have hw5:IntKind.i64.wrap ((u+x*y+cv)%1048576)=(u+x*y+cv)%1048576:=IntWalk.i64_in _ ZO
     have hw6:IntKind.i64.wrap ((u+x*y+cv) / 1048576)=(u+x*y+cv) / 1048576:=IntWalk.i64_in _ ZO
     have hwk:IntKind.i64.wrap ((k:Int)+1)=(k:Int)+1:=IntWalk.i64_in _ ZO
     have c0':=(hbel.cell (p:=⟨b1,o1+j,none⟩) hb1).trans c0
     have HBW:=jpk (fun q=>(⟨(jaH hbel q).setCell (p:=⟨w.heap.size,p1,none⟩) (Nat.le_refl _) (.int .i64 ((u+x*y+cv)%1048576)),(ho.drewN q).setI (i:=p1) hp1l ((u+x*y+cv)%1048576)⟩:Below w.heap.size w ((wr.drewN q).setCell ⟨w.heap.size,p1,none⟩ (.int .i64 ((u+x*y+cv)%1048576)))∧Own 1 iEnc ((wr.drewN q).setCell ⟨w.heap.size,p1,none⟩ (.int .i64 ((u+x*y+cv)%1048576))) w.heap.size 3 _ _))
     have HQ:=jpk (Hq.out wr hbel)
     clear hN hcz' hgo hyd hpd hpz hxd hcz hxy hu hy hp1 ho hbel Hq
     rcases hcond with q1|⟨q1,q2⟩
     all_goals
      go_wp2_with fail
      go_quiet ((go_at_call 136;exact HQ.out _))
      obtain ⟨hbq,hoq⟩:=HBW.out nq
      go_wp2
      go_roundg (n2+1-(k+1))
      case rel=>exact ⟨k+1,_,_,by omega,rfl,by go_num,rfl,HN.out,Hcz.out,hoq,hbq⟩
      case measure=>omega
    ·have hc00:cv=0:=by omega
     subst hc00
     have hkn:¬k<n2:=fun h=>hgo (Or.inl h)
     have q1:decide (k<n2)=false:=decide_eq_false hkn
     obtain ⟨i1,i2,-,i4⟩:=HI.out
     rw [Int.mul_zero,Int.add_zero,HvB.out k ZO,Hvo.out,jg8] at i1
     have H1:=jpk (show vF p (n+n2)=vF (gi a) (j+1)*B from by rw [i1,vF,Hx.out])
     have H2:=jpk i2
     have H3:=jpk (show ∀q,j+1+n2≤q→p q=0 from fun q hq=>by rw [i4 q ZO];exact Hzo.out q ZO)
     clear i1 i2 i4 hgo hkn hcz
     go_wp2
     go_roundg (n-(j+1))
     case rel=>exact ⟨j+1,p,by omega,rfl,by go_num,H1.out,H2.out,H3.out,ho,hbel⟩
     case measure=>omega
  ·have ee:j=n:=by omega
   subst ee
   have q1:decide (j<j)=false:=by simp
   have hv:vF o (j+n2)=val a*B:=by rw [Hvo.out,Hval.out]
   obtain ⟨A3,c3,hv3,hr⟩:=ho.rd jap Zb3
   rw [jag] at hv3 hr
   injection hv3 with h1 h2 h3
   subst h1
   have HT:=jpk (jcF _ (j+n2) _ o wr hr ZO Hdo.out)
   rw [hv,←HR.out] at HT
   have hsz:=hbel.size
   subst h3
   clear hlt hv hr ho
   go_wp2_with fail
   refine HT.out.mono ?_
   rintro e w' ⟨A5,n5,c5,rfl,hr5,hf5,hb5⟩
   have HE:=jpk (⟨A5,n5,c5,rfl,hr5,hf5.mono hsz,hbel.trans (hb5.mono hsz)⟩:DigR w R (.returned (.slice A5 n5 c5)) w')
   clear hr5 hf5 hb5
   go_wp2
   go_ret
   exact HE.out
def SumP (w0:World) (mb:Nat) (R:List Value) (T:TypeId) (b:Bool) (L:List Blk) (D:List Hl) (S:Bool) (e:Ending) (W':World):Prop :=
 ∃(o b':Bool) (L':List Blk),e=.returned (.bool o)∧Hid (Upd mb (Value.bool b::R).toArray T (Value.bool b'::R).toArray L L')∧Hid ((o&& !b')=(!b&&S))∧St w0 L' D W'
theorem Upd.same {b:Nat} {cs:Array Value} {t:TypeId} {L:List Blk} (h:(b,cs,t)∈L):∃L',Upd b cs t cs L L'∧L'=L:=by
 induction L with
 | nil=>cases h
 | cons x L ih =>
  rcases List.mem_cons.1 h with e|h
  ·subst e;exact ⟨_,.head L,rfl⟩
  ·obtain ⟨L',h1,h2⟩:=ih h
   exact ⟨_,.tail x h1,by rw [h2]⟩
theorem St.nodup {w W:World} {L:List Blk} {D:List Hl} (K:St w L D W):(L.map (·.1)).Nodup:=by
 rw [List.nodup_iff_pairwise_ne,List.pairwise_map]
 exact K.2.2.1
end Go.Proofs.YtgikfcjndiohjaaGreat
