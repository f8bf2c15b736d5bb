/- Laws and walks; conditions stand in each theorem. -/
import Derived.Test.YtgikfcjndiohjaaGreatP02
set_option linter.unusedVariables false
set_option maxHeartbeats 4000000
set_option maxRecDepth 100000
namespace Go.Proofs.YtgikfcjndiohjaaGreat
open Go.RowKit
def FrA (B:Nat) (A:Option Addr):Prop:=∀a,A=some a→B≤a.block
theorem FrA.none {B:Nat}:FrA B Option.none:=fun a h=>by cases h
theorem FrA.at {B b o:Nat} {s:Option Nat} (h:B≤b):FrA B (some ⟨b,o,s⟩):=fun a e=>by injection e with e;subst e;exact h
theorem FrA.mono {B C:Nat} {A:Option Addr} (h:FrA B A) (hc:C≤B):FrA C A:=fun a e=>Nat.le_trans hc (h a e)
theorem Own.fr {w:World} {base:Nat} {e:TypeId} {A:Option Addr} {n cap:Nat} {v:Value} {l:List Int} (h:Own 1 iEnc w base e v l) (hv:v=.slice A n cap):FrA base A:=by
 subst hv
 rcases h.2 with ⟨h0,-⟩|⟨g,c,cur,h0,hg,-⟩
 ·injection h0 with h0;subst h0;exact FrA.none
 ·injection h0 with h0;subst h0;exact FrA.at hg
theorem Own.take {w:World} {base:Nat} {e:TypeId} {A:Option Addr} {n cap:Nat} {l:List Int} (h:Own 1 iEnc w base e (.slice A n cap) l) {k:Nat} (hk:k≤n):Own 1 iEnc w base e (.slice A k cap) (l.take k):=by
 have hfl:∀l:List Int,l.flatMap iEnc=l.map (fun x=>Value.int .i64 x):=fun l=>by
  induction l with
  | nil=>rfl
  | cons x l ih=>rw [List.flatMap_cons,ih];rfl
 obtain ⟨h1,h2⟩:=h
 rcases h2 with ⟨h2,h3⟩|⟨g,c,cur,h2,h3,h4,h5,h6,h7,h8⟩
 ·injection h2 with a1 a2 a3
  subst a1 a2 a3
  have:l=[]:=List.eq_nil_of_length_eq_zero h3
  subst this
  have hk0:k=0:=by omega
  subst hk0
  exact Own.nil
 ·injection h2 with a1 a2 a3
  subst a1 a2 a3
  have hlen:(l.take k).length=k:=by rw [List.length_take];omega
  unfold Own
  rw [hlen]
  refine ⟨by rw [hfl,List.length_map,hlen,Nat.mul_one],.inr ⟨g,cap,cur,rfl,h3,h4,by omega,h6,h7,?_⟩⟩
  rw [hfl,List.map_take,←hfl,←h8,List.take_take,Nat.min_eq_left ZO,Nat.mul_one]
theorem dlen {l:List Int} (h:l.length≤100000):l.length≤140737488351232:=by omega
theorem jdW (A:Option Addr) (n cap:Nat) (l:List Int) (w:World) (hl:RdI w w.heap.size A n cap l) (hn2:n≤100000) :
 Calls Tryz.prog 114 #[.slice A n cap] w fun e w'=>(∃v,e=.returned v∧Own 1 iEnc w' w.heap.size 3 v l)∧Below w.heap.size w w':=by
 obtain ⟨i0,hi0,hz0,hz1,hz2⟩:=jaN jbf
 have hlen:=hl.len
 have ho0:Own 1 iEnc (w.alloc (.cells #[] 3)) w.heap.size 3 (.slice (some ⟨w.heap.size,0,none⟩) 0 0) ([]:List Int):=Own.lit jap (Nat.le_refl _) [] #[] rfl rfl ZO
 have hb0:=(Below.refl w.heap.size w).alloc (Nat.le_refl _) (.cells #[] 3)
 cases A with
 | none =>
  have hn0:n=0:=by
   rcases Nat.eq_zero_or_pos n with h|h
   ·exact h
   ·obtain ⟨b,off,h,_⟩:=hl.2.2.2 h;cases h
  have hl0:l=[]:=List.eq_nil_of_length_eq_zero ZO
  subst hl0 hn0
  have hnil:=fun w=>run_eql_slice_nil (P:=Tryz.prog) w 22 3 none 0 cap Tryz.underlying22
  clear ho0 hb0 hl hlen
  go_enter Tryz.func114,Tryz.ntmps114
  go_wp2
  go_ret
  exact ⟨⟨_,rfl,Own.nil⟩,Below.refl _ _⟩
 | some a =>
  have hnil:=fun w=>run_eql_slice_nil (P:=Tryz.prog) w 22 3 (some a) n cap Tryz.underlying22
  clear hlen
  go_enter Tryz.func114,Tryz.ntmps114
  go_wp2_with (at_builtin
               refine jbN _ jap rfl _ _ 22 rfl w.heap.size 3 i0 _ 8 Tryz.underlying22 hi0 hz0 hz1 hz2 rfl _ [] rfl ho0 _ _ n cap l rfl (hl.up (jab _) hb0) (by simp only [maxLen,List.length_nil];omega) (by simp only [List.length_nil];omega) Zb0 ?_
               intro v4 w4 ho4 hg4 hx4
               have hb4:Below w.heap.size w w4:=Own.grow ho0 (Nat.le_refl _) hb0 Zb0 hg4)
  go_ret
  rw [List.nil_append] at ho4
  exact ⟨⟨_,rfl,ho4⟩,hb4⟩
theorem jcR (base g n cap:Nat) (f:Nat→Int) (w:World) (ho:Own 1 iEnc w base 3 (.slice (some ⟨g,0,none⟩) n cap) (ofF n f)) (hn:n≤100000) (hf:Dg f n) :
 Calls Tryz.prog 128 #[.slice (some ⟨g,0,none⟩) n cap] w fun e w'=>(∃v,e=.returned v∧Own 1 iEnc w' base 3 v (digs (vF f n).toNat))∧w=w':=by
 obtain ⟨A2,cc2,hv,hr2⟩:=ho.rd jap Zb3
 rw [jag] at hv hr2
 injection hv with h1 h2 h3
 subst h1 h3
 refine (jdP _ n _ (ofF n f) w hr2).mono ?_
 rintro e w' ⟨⟨k,hk,rfl,htr⟩,rfl⟩
 refine ⟨⟨_,rfl,?_⟩,rfl⟩
 have h1:=ho.take hk
 rw [←htr,jbC hf.ok,jgs] at h1
 exact h1
theorem jkG (A A2:Option Addr) (n cap n2 cap2:Nat) (a b:List Int) (w:World) (ha:RdI w w.heap.size A n cap a) (hb:RdI w w.heap.size A2 n2 cap2 b) (da:DgOk a) (db:DgOk b) (hn:n≤10000) (hle:n2≤n) :
 Calls Tryz.prog 97 #[.slice A n cap,.slice A2 n2 cap2] w fun e w'=>(∃v,e=.returned v∧Own 1 iEnc w' w.heap.size 3 v (digs (val a+val b).toNat))∧Below w.heap.size w w':=by
 obtain ⟨i0,hi0,hz0,hz1,hz2⟩:=jaN jbf
 have hla:=ha.len
 have hlb:=hb.len
 have hd:decide ((n:Int)<(n2:Int))=false:=by simp;omega
 have Hval:=jpk (show val a+val b=vF (gi a) n+vF (padF n2 (gi b)) n from by rw [ja0 hla,ja0 hlb,jeg n hle])
 have Hda:=jpk (da.at hla)
 have Hdb:=jpk (show ∀i,0≤padF n2 (gi b) i∧padF n2 (gi b) i<1048576 from fun i=>by
  unfold padF
  split
  ·rename_i h;exact db.at hlb i h
  ·omega)
 have hpad:∀i,padF n2 (gi b) i=if i<n2 then gi b i else 0:=fun _=>rfl
 have Hpad:=jpk hpad
 have hw1:IntKind.i64.wrap ((n:Int)+1)=((n+1:Nat):Int):=by rw [IntWalk.i64_in _ ZO];omega
 clear hpad hla hlb da db
 generalize padF n2 (gi b)=bf at *
 go_enter Tryz.func97,Tryz.ntmps97
 go_wp2_with (at_make;refine jbS _ jap 0 rfl _ _ 22 rfl w.heap.size 3 i0 (.int .i64 0) Tryz.underlying22 hi0 hz0 hz1 rfl _ _ _ _ (n+1) rfl rfl Zb5 Zb5 (by rw [hz2];omega) Zb2 (Nat.le_refl _) ?_
              intro w2 ho2 hg2
              have hb2:Below w.heap.size w w2:=(Below.refl _ _).grown hg2 (Nat.le_refl _) (by intro k hk;cases hk))
 clear hg2
 go_loopg [6,22] n (fun gk c i wr=>∃(k:Nat) (cv:Int) (o:Nat→Int),k≤n∧gk=n-k∧i=.int .i64 k∧c=.int .i64 cv∧AddI (gi a) bf o k cv∧Own 1 iEnc wr w.heap.size 3 (.slice (some ⟨w.heap.size,0,none⟩) (n+1) (n+1)) (ofF (n+1) o)∧Below w.heap.size w wr)
 case atStart=>exact ⟨0,0,fun _=>0,Nat.zero_le _,rfl,rfl,rfl,AddI.zero,by rw [←jcs];exact ho2,hb2⟩
 case round =>
  exact ZQ9
theorem jhL (A A2:Option Addr) (n cap n2 cap2:Nat) (a b:List Int) (w:World) (ha:RdI w w.heap.size A n cap a) (hb:RdI w w.heap.size A2 n2 cap2 b) (da:DgOk a) (db:DgOk b) (hn:n≤10000) (hlt0:n2<n) :
 Calls Tryz.prog 97 #[.slice A2 n2 cap2,.slice A n cap] w fun e w'=>(∃v,e=.returned v∧Own 1 iEnc w' w.heap.size 3 v (digs (val a+val b).toNat))∧Below w.heap.size w w':=by
 obtain ⟨i0,hi0,hz0,hz1,hz2⟩:=jaN jbf
 have hla:=ha.len
 have hlb:=hb.len
 have hd:decide ((n2:Int)<(n:Int))=true:=by simp;omega
 have hle:n2≤n:=by omega
 have Hval:=jpk (show val a+val b=vF (gi a) n+vF (padF n2 (gi b)) n from by rw [ja0 hla,ja0 hlb,jeg n hle])
 have Hda:=jpk (da.at hla)
 have Hdb:=jpk (show ∀i,0≤padF n2 (gi b) i∧padF n2 (gi b) i<1048576 from fun i=>by
  unfold padF
  split
  ·rename_i h;exact db.at hlb i h
  ·omega)
 have hpad:∀i,padF n2 (gi b) i=if i<n2 then gi b i else 0:=fun _=>rfl
 have Hpad:=jpk hpad
 have hw1:IntKind.i64.wrap ((n:Int)+1)=((n+1:Nat):Int):=by rw [IntWalk.i64_in _ ZO];omega
 clear hpad hla hlb da db
 generalize padF n2 (gi b)=bf at *
 go_enter Tryz.func97,Tryz.ntmps97
 go_wp2_with (at_make;refine jbS _ jap 0 rfl _ _ 22 rfl w.heap.size 3 i0 (.int .i64 0) Tryz.underlying22 hi0 hz0 hz1 rfl _ _ _ _ (n+1) rfl rfl Zb5 Zb5 (by rw [hz2];omega) Zb2 (Nat.le_refl _) ?_
              intro w2 ho2 hg2
              have hb2:Below w.heap.size w w2:=(Below.refl _ _).grown hg2 (Nat.le_refl _) (by intro k hk;cases hk))
 clear hg2
 go_loopg [6,22] n (fun gk c i wr=>∃(k:Nat) (cv:Int) (o:Nat→Int),k≤n∧gk=n-k∧i=.int .i64 k∧c=.int .i64 cv∧AddI (gi a) bf o k cv∧Own 1 iEnc wr w.heap.size 3 (.slice (some ⟨w.heap.size,0,none⟩) (n+1) (n+1)) (ofF (n+1) o)∧Below w.heap.size w wr)
 case atStart=>exact ⟨0,0,fun _=>0,Nat.zero_le _,rfl,rfl,rfl,AddI.zero,by rw [←jcs];exact ho2,hb2⟩
 case round =>
  exact ZQ9
theorem jkM (A A2:Option Addr) (n cap n2 cap2:Nat) (a b:List Int) (w:World) (ha:RdI w w.heap.size A n cap a) (hb:RdI w w.heap.size A2 n2 cap2 b) (da:DgOk a) (db:DgOk b) (hn:n≤10000) (hn2:n2≤10000) :
 Calls Tryz.prog 97 #[.slice A n cap,.slice A2 n2 cap2] w fun e w'=>(∃v,e=.returned v∧Own 1 iEnc w' w.heap.size 3 v (digs (val a+val b).toNat))∧Below w.heap.size w w':=by
 by_cases h:n2≤n
 ·exact jkG A A2 n cap n2 cap2 a b w ha hb da db hn h
 ·rw [Int.add_comm]
  exact jhL A2 A n2 cap2 n cap b a w hb ha db da hn2 ZO
theorem jkS (A A2:Option Addr) (n cap n2 cap2:Nat) (a b:List Int) (w:World) (ha:RdI w w.heap.size A n cap a) (hb:RdI w w.heap.size A2 n2 cap2 b) (da:DgOk a) (db:DgOk b) (hn:n≤10000) (hn2:n2≤n) (hle:val b≤val a) :
 Calls Tryz.prog 98 #[.slice A n cap,.slice A2 n2 cap2] w fun e w'=>(∃v,e=.returned v∧Own 1 iEnc w' w.heap.size 3 v (digs (val a-val b).toNat))∧Below w.heap.size w w':=by
 have hla:=ha.len
 have hlb:=hb.len
 have Hval:=jpk (show vF (gi a) n-vF (padF n2 (gi b)) n=val a-val b from by rw [ja0 hla,ja0 hlb,jeg n hn2])
 have Hle:=jpk (show vF (padF n2 (gi b)) n≤vF (gi a) n from by rw [jeg n hn2,←ja0 hla,←ja0 hlb];exact hle)
 have Hda:=jpk (da.at hla)
 have Hdb:=jpk (show ∀i,0≤padF n2 (gi b) i∧padF n2 (gi b) i<1048576 from fun i=>by
  unfold padF
  split
  ·rename_i h;exact db.at hlb i h
  ·omega)
 have hpad:∀i,padF n2 (gi b) i=if i<n2 then gi b i else 0:=fun _=>rfl
 have Hpad:=jpk hpad
 have Hla:=jpk (jjU hla)
 have hlen:=hla
 clear hpad hla hlb da db hle
 generalize padF n2 (gi b)=bf at *
 go_enter Tryz.func98,Tryz.ntmps98
 go_wp2_with fail
 refine (jdW A n cap a w ha ZO).mono ?_
 rintro e w1 ⟨⟨v,rfl,ho⟩,hb1⟩
 obtain ⟨A3,c3,hv,-⟩:=ho.rd jap (by rw [hlen];omega)
 rw [hlen] at hv
 subst hv
 rw [←Hla.out] at ho
 have hcap3:n≤c3∧c3≤9223372036854775807:=by
  obtain ⟨A4,c4,h4,r4⟩:=ho.rd jap Zb3
  rw [jag] at h4 r4
  injection h4 with e1 e2 e3
  subst e3
  exact ⟨r4.caps.1,r4.caps.2.1⟩
 rcases Nat.eq_zero_or_pos n with hn0|hn0
 ·subst hn0
  have hn20:n2=0:=by omega
  subst hn20
  have hz:digs (val a-val b).toNat=[]:=by rw [←Hval.out];exact jax
  obtain ⟨A4,c4,h4,r4⟩:=ho.rd jap Zb3
  rw [jag] at h4 r4
  injection h4 with e1 e2 e3
  subst e1 e3
  have Ho:=jpk ho
  have Hz:=jpk hz
  clear hz ho hlen
  go_wp2
  refine wp_loop_rounds 1 ?_
  rw [rounds_succ]
  go_wp2_with fail
  refine (jdP _ 0 _ _ w1 r4).mono ?_
  rintro e w2 ⟨⟨k,hk,rfl,htr⟩,rfl⟩
  have hk0:k=0:=by omega
  subst hk0
  go_wp2
  go_ret
  exact ⟨⟨_,rfl,by rw [Hz.out];exact Ho.out⟩,hb1⟩
 obtain ⟨g,c,hg,hg1,hg2,-⟩:=ho.form Zb3
 have hg3':w.heap.size≤g:=hg1
 injection hg with e1 e2 e3
 subst e1
 clear e2 e3
 go_wp2
 go_loopg [6,13] n (fun gk bo i wr=>∃(k:Nat) (cv:Int) (o:Nat→Int),k≤n∧gk=n-k∧i=.int .i64 k∧bo=.int .i64 cv∧SubI (gi a) bf o k cv∧(∀j,k≤j→o j=gi a j)∧Own 1 iEnc wr w.heap.size 3 (.slice (some ⟨g,0,none⟩) n c3) (ofF n o)∧Below w.heap.size w wr)
 case atStart=>exact ⟨0,0,gi a,Nat.zero_le _,rfl,rfl,rfl,SubI.zero,(fun j _=>rfl),ho,hb1⟩
 case round =>
  clear ho hb1
  obtain ⟨k,cv,o,hk,rfl,rfl,rfl,hI,hoa,ho,hbel⟩:=hrel
  have HI:=jpk hI;have Hoa:=jpk hoa
  obtain ⟨hc0,hc1⟩:=hI.2.2
  clear hI hoa
  by_cases hlt:k<n
  ·obtain ⟨z0,z1⟩:=ho.cellI hlt
   have hok:=Hoa.out k (Nat.le_refl _)
   have hxd:=Hda.out k hlt
   obtain ⟨x,hx⟩:∃x,gi a k=x:=⟨_,rfl⟩
   rw [hok,hx] at z0
   rw [hx] at hxd
   have Hx:=jpk hx
   have hki:(k:Int)<(n:Int):=by omega
   have hk0:(0:Int)≤(k:Int):=by omega
   have hwc:IntKind.i64.wrap (x-cv)=x-cv:=IntWalk.i64_in _ ZO
   clear hx hok
   by_cases hk2:k<n2
   ·obtain ⟨b2,o2,y,rfl,hb2,hy,d0⟩:=hb.atI hk2
    have Hy:=jpk (show bf k=y from by rw [Hpad.out,if_pos hk2];exact jaS hy)
    have hyd:=Hdb.out k
    rw [Hy.out] at hyd
    have d0':=(hbel.cell (p:=⟨b2,o2+k,none⟩) hb2).trans d0
    have hwc2:IntKind.i64.wrap (x-cv-y)=x-cv-y:=IntWalk.i64_in _ ZO
    have hmask:=jbL (x-cv-y)
    have hbit:bits .and .i64 ((x-cv-y) / 1048576) 1= -((x-cv-y) / 1048576):=by rw [jhQ];omega
    have hN:=(HI.out.congr (o':=fun j=>if j=k then (x-cv-y)%1048576 else o j) (fun j hj=>if_neg ZO)).step (by rw [Hx.out];exact hxd) (by rw [Hy.out];exact hyd) (by rw [if_pos rfl,Hx.out,Hy.out])
    rw [Hx.out,Hy.out] at hN
    have HN:=jpk hN
    have HO:=jpk (show ∀j,k+1≤j→(if j=k then (x-cv-y)%1048576 else o j)=gi a j from fun j hj=>by rw [if_neg ZO];exact Hoa.out j ZO)
    have ho3:=ho.setI hlt ((x-cv-y)%1048576)
    have hb3:=hbel.setCell (p:=⟨g,k,none⟩) hg3' (.int .i64 ((x-cv-y)%1048576))
    clear hN hy d0 ho hbel
    exact ZQ119
   ·have hdk:decide (k<n2)=false:=by simp;omega
    have Hy:=jpk (show bf k=0 from by rw [Hpad.out,if_neg hk2])
    have hmask:=jbL (x-cv)
    have hbit:bits .and .i64 ((x-cv) / 1048576) 1= -((x-cv) / 1048576):=by rw [jhQ];omega
    have hN:=(HI.out.congr (o':=fun j=>if j=k then (x-cv)%1048576 else o j) (fun j hj=>if_neg ZO)).step (by rw [Hx.out];exact hxd) (by rw [Hy.out];omega) (by rw [if_pos rfl,Hx.out,Hy.out,Int.sub_zero])
    rw [Hx.out,Hy.out,Int.sub_zero] at hN
    have HN:=jpk hN
    have HO:=jpk (show ∀j,k+1≤j→(if j=k then (x-cv)%1048576 else o j)=gi a j from fun j hj=>by rw [if_neg ZO];exact Hoa.out j ZO)
    have ho3:=ho.setI hlt ((x-cv)%1048576)
    have hb3:=hbel.setCell (p:=⟨g,k,none⟩) hg3' (.int .i64 ((x-cv)%1048576))
    clear hN ho hbel hk2
    exact ZQ119
  ·have ee:k=n:=by omega
   subst ee
   have Hd:=jpk HI.out.2.1
   have Hv:=jpk (HI.out.fin Hle.out)
   go_wp2_with fail
   refine (jcR w.heap.size g k c3 o wr ho ZO Hd.out).mono ?_
   rintro e _ ⟨⟨v,rfl,hv⟩,rfl⟩
   rw [Hv.out,Hval.out] at hv
   go_wp2
   go_ret
   exact ⟨⟨_,rfl,hv⟩,hbel⟩
def ckE (right:Bool) (n:Nat):Int:=if right=false then 1 else if 60<n then 6 else 0
theorem jf4 (right:Bool) (s:Int) (A:Option Addr) (n cap:Nat) (w:World) :
 Calls Tryz.prog 92 #[.bool right,.agg #[.int .i64 s,.slice A n cap]] w fun e w'=>e=.returned (.tuple #[if right=true∧n≤60 then .agg #[.int .i64 s,.slice A n cap] else .agg #[.int .i64 0,.slice none 0 0],.int .i64 (ckE right n)])∧Below w.heap.size w w':=by
 have HB:=jpk (fun o=>(Below.refl w.heap.size w).alloc (Nat.le_refl _) o)
 have HB2:=jpk (fun o o2=>((Below.refl w.heap.size w).alloc (Nat.le_refl _) o).alloc Zb0 o2)
 cases right
 ·have e1:ckE false n=1:=by unfold ckE;rw [if_pos rfl]
  rw [e1,if_neg Zb0]
  clear e1
  go_enter Tryz.func92,Tryz.ntmps92
  go_wp2
  exact bodyPost_ret (v:=.tuple #[.agg #[.int .i64 0,.slice none 0 0],.int .i64 1]) (by simp [results,Tryz.results92,go_sem]) rfl ⟨rfl,HB2.out _ _⟩
 ·by_cases hn:n≤60
  ·have e1:ckE true n=0:=by unfold ckE;rw [if_neg Zb0,if_neg ZO]
   have hd:decide ((60:Int)<(n:Int))=false:=by simp;omega
   rw [e1,if_pos ⟨rfl,hn⟩]
   clear e1 hn
   go_enter Tryz.func92,Tryz.ntmps92
   go_wp2
   exact bodyPost_ret (v:=.tuple #[.agg #[.int .i64 s,.slice A n cap],.int .i64 0]) (by simp [results,Tryz.results92,go_sem]) rfl ⟨rfl,HB2.out _ _⟩
  ·have e1:ckE true n=6:=by unfold ckE;rw [if_neg Zb0,if_pos ZO]
   have hd:decide ((60:Int)<(n:Int))=true:=by simp;omega
   rw [e1,if_neg (by intro h;exact hn h.2)]
   clear e1 hn
   go_enter Tryz.func92,Tryz.ntmps92
   go_wp2
   exact bodyPost_ret (v:=.tuple #[.agg #[.int .i64 0,.slice none 0 0],.int .i64 6]) (by simp [results,Tryz.results92,go_sem]) rfl ⟨rfl,HB2.out _ _⟩
def orI:List Int→Int
 | []=>0
 | x::l=>if x=0 then orI l else x
theorem jg2:∀(l:List Int) (k:Nat),k≤l.length→(∀j,j<k→gi l j=0)→orI l=orI (l.drop k)
 | l,0,_,_=>by simp
 | [],k+1,h,_=>by simp at h
 | x::l,k+1,h,hz=>by
  have h0:x=0:=by have:=hz 0 ZO;simpa [gi] using this
  rw [orI,if_pos h0,List.drop_succ_cons]
  exact jg2 l k (by simpa using h) (fun j hj=>by have:=hz (j+1) ZO;simpa [gi] using this)
theorem or_any (A:Option Addr) (n cap:Nat) (l:List Int) (w:World) (hl:RdI w w.heap.size A n cap l) :
 Calls Tryz.prog 127 #[.slice A n cap] w fun e w'=>e=.returned (.int .i64 (orI l))∧w=w':=by
 have hln:=hl.len
 have hcap:=hl.caps
 have Hsk:=jpk (fun k (hk:k≤n) hz=>jg2 l k ZO hz)
 have Hdr:=jpk (fun k x (hk:k<n) (hx:gi l k=x)=>(show l.drop k=x::l.drop (k+1) from by
  rw [List.drop_eq_getElem_cons ZO]
  congr 1
  rw [←hx]
  exact (jaS (List.getElem?_eq_getElem ZO)).symm))
 have Hend:=jpk (show orI (l.drop n)=0 from by rw [List.drop_eq_nil_of_le ZO];rfl)
 generalize hO:orI l=O at *
 have HO:=jpk hO
 clear hO hln
 go_enter Tryz.func127,Tryz.ntmps127
 go_wp2
 go_loopg [8] n (fun gk i wr=>∃k:Nat,k≤n∧gk=n-k∧i=.int .i64 k∧(∀j,j<k→gi l j=0)∧w=wr)
 case atStart=>exact ⟨0,Nat.zero_le _,rfl,rfl,(fun j hj=>absurd hj ZO),rfl⟩
 case round =>
  obtain ⟨k,hk,rfl,rfl,hz,rfl⟩:=hrel
  have Hz:=jpk hz
  clear hz
  by_cases hlt:k<n
  ·obtain ⟨b,off,x,rfl,hb,hx,c0⟩:=hl.atI hlt
   have Hx:=jpk (jaS hx)
   have hki:(k:Int)<(n:Int):=by omega
   have hk0:(0:Int)≤(k:Int):=by omega
   clear hx
   by_cases h0:x=0
   ·have hd:(x !=0)=false:=by simp [h0]
    have Hn:=jpk (show ∀j,j<k+1→gi l j=0 from fun j hj=>by
     by_cases e:j=k
     ·subst e;rw [Hx.out];exact h0
     ·exact Hz.out j ZO)
    clear h0
    exact ZQ84
   ·have hd:(x !=0)=true:=by simp [h0]
    have Hf:=jpk (show O=x from by
     have h1:=Hsk.out k hk Hz.out
     rw [Hdr.out k x hlt Hx.out] at h1
     rw [h1,orI,if_neg h0])
    clear h0
    exact jkF
  ·have ee:k=n:=by omega
   subst ee
   have Hf:=jpk (show O=0 from by
    have h1:=Hsk.out k hk Hz.out
    rw [Hend.out] at h1
    exact h1)
   exact jkF
def cmpB (s:Int) (a:List Int) (t:Int) (b:List Int):Int:=if jae s a=true∧jae t b=true then cmpI (bval s a) (bval t b) else 0
theorem jes {s t:Int} {a b:List Int} (ha:jae s a=true) (hb:jae t b=true) (h:s≠t):cmpI (bval s a) (bval t b)=cmpI s t:=by
 obtain ⟨a1,a2,a3⟩:=jah ha
 obtain ⟨b1,b2,b3⟩:=jah hb
 unfold bval
 have pa:a≠[]→0<val a:=fun h=>a1.pos h
 have pb:b≠[]→0<val b:=fun h=>b1.pos h
 rcases a3 with ⟨rfl,rfl⟩|⟨h1,rfl|rfl⟩ <;> rcases b3 with ⟨rfl,rfl⟩|⟨h2,rfl|rfl⟩
 ·exact absurd rfl h
 ·have:=pb h2;rw [ja9 (by simp;omega),ja9 ZO]
 ·have:=pb h2;rw [jbm (by simp;omega),jbm ZO]
 ·have:=pa h1;rw [jbm (by simp;omega),jbm ZO]
 ·exact absurd rfl h
 ·have:=pa h1;have:=pb h2;rw [jbm ZO,jbm ZO]
 ·have:=pa h1;rw [ja9 (by simp;omega),ja9 ZO]
 ·have:=pa h1;have:=pb h2;rw [ja9 ZO,ja9 ZO]
 ·exact absurd rfl h
theorem jdX {s:Int} {a b:List Int} (ha:jae s a=true) (hb:jae s b=true):cmpI (bval s a) (bval s b)=s*cmpI (val a) (val b):=by
 obtain ⟨a1,a2,a3⟩:=jah ha
 unfold bval cmpI
 rcases a3 with ⟨rfl,rfl⟩|⟨h1,rfl|rfl⟩
 ·simp
 ·simp
 ·by_cases h1:val a<val b
  ·rw [if_neg ZO,if_pos ZO,if_pos h1];rfl
  ·by_cases h2:val b<val a
   ·rw [if_pos ZO,if_neg h1,if_pos h2];rfl
   ·rw [if_neg ZO,if_neg ZO,if_neg h1,if_neg h2];rfl
theorem jfv (s t:Int) (A A2:Option Addr) (n cap n2 cap2:Nat) (a b:List Int) (w:World) (ha:RdI w w.heap.size A n cap a) (hb:RdI w w.heap.size A2 n2 cap2 b) :
 Calls Tryz.prog 56 #[.agg #[.int .i64 s,.slice A n cap],.agg #[.int .i64 t,.slice A2 n2 cap2]] w fun e w'=>e=.returned (.int .i64 (cmpB s a t b))∧Below w.heap.size w w':=by
 have hb1:=(Below.refl w.heap.size w).alloc (Nat.le_refl _) (.cells #[.int .i64 s,.slice A n cap] 27)
 have hb2:=hb1.alloc hb1.size (.cells #[.int .i64 t,.slice A2 n2 cap2] 27)
 have HR1:=jpk (fun w' h=>jaE s A n cap a w' h)
 have HR2:=jpk (fun w' h=>jaE t A2 n2 cap2 b w' h)
 have c0:((w.alloc (.cells #[.int .i64 s,.slice A n cap] 27)).alloc (.cells #[.int .i64 t,.slice A2 n2 cap2] 27)).cell? ⟨w.heap.size,0,none⟩=some (.int .i64 s):=by simp
 have c1:((w.alloc (.cells #[.int .i64 s,.slice A n cap] 27)).alloc (.cells #[.int .i64 t,.slice A2 n2 cap2] 27)).cell? ⟨w.heap.size,1,none⟩=some (.slice A n cap):=by simp
 have c2:((w.alloc (.cells #[.int .i64 s,.slice A n cap] 27)).alloc (.cells #[.int .i64 t,.slice A2 n2 cap2] 27)).cell? ⟨w.heap.size+1,0,none⟩=some (.int .i64 t):=by simp
 have c3:((w.alloc (.cells #[.int .i64 s,.slice A n cap] 27)).alloc (.cells #[.int .i64 t,.slice A2 n2 cap2] 27)).cell? ⟨w.heap.size+1,1,none⟩=some (.slice A2 n2 cap2):=by simp
 have hz:w.heap.size+1<((w.alloc (.cells #[.int .i64 s,.slice A n cap] 27)).alloc (.cells #[.int .i64 t,.slice A2 n2 cap2] 27)).heap.size:=by simp
 obtain ⟨w0,hw0⟩:∃w0,w0=(w.alloc (.cells #[.int .i64 s,.slice A n cap] 27)).alloc (.cells #[.int .i64 t,.slice A2 n2 cap2] 27):=⟨_,rfl⟩
 rw [←hw0] at hb2 c0 c1 c2 c3 hz
 obtain ⟨g,hg⟩:∃g,g=w.heap.size:=⟨_,rfl⟩
 rw [←hg] at c0 c1 c2 c3 hz
 have HW:=jpk hw0;have HG:=jpk hg
 have hg0:g<w0.heap.size:=by omega
 have hno:jae s a=false∨(jae s a=true∧jae t b=false)→cmpB s a t b=0:=fun h=>by
  unfold cmpB
  rcases h with h|⟨h1,h2⟩
  ·rw [h,if_neg Zb0]
  ·rw [h1,h2,if_neg Zb0]
 clear hw0 hg hb1
 cases h1:jae s a
 ·rw [hno (Or.inl h1)]
  rw [h1] at HR1
  clear hno h1
  go_enter Tryz.func56,Tryz.ntmps56
  go_wp2_with fail
  rw [←HW.out,←HG.out]
  refine (HR1.out _ (ha.up (jab _) hb2)).mono ?_
  rintro e w1 ⟨rfl,hb3⟩
  go_wp2
  go_ret
  exact ⟨rfl,hb2.trans (hb3.mono hb2.size)⟩
 cases h2:jae t b
 ·rw [hno (Or.inr ⟨h1,h2⟩)]
  rw [h1] at HR1
  rw [h2] at HR2
  clear hno h1 h2
  go_enter Tryz.func56,Tryz.ntmps56
  go_wp2_with fail
  rw [←HW.out,←HG.out]
  refine (HR1.out _ (ha.up (jab _) hb2)).mono ?_
  rintro e w1 ⟨rfl,hb3⟩
  have hb03:=hb2.trans (hb3.mono hb2.size)
  have d2:=(hb3.cell (p:=⟨g+1,0,none⟩) hz).trans c2
  have d3:=(hb3.cell (p:=⟨g+1,1,none⟩) hz).trans c3
  go_wp2_with fail
  refine (HR2.out _ (hb.up (jab _) hb03)).mono ?_
  rintro e w2 ⟨rfl,hb4⟩
  go_wp2
  go_ret
  exact ⟨rfl,hb03.trans (hb4.mono hb03.size)⟩
 obtain ⟨a1,a2,-⟩:=jah h1
 obtain ⟨b1,b2,-⟩:=jah h2
 have hC:cmpB s a t b=cmpI (bval s a) (bval t b):=if_pos ⟨h1,h2⟩
 have hst:(s≠t∧(s !=t)=true∧cmpB s a t b=cmpI s t)∨(s=t∧cmpB s a t b=s*cmpI (val a) (val b)):=by
  by_cases e:s=t
  ·subst e;exact Or.inr ⟨rfl,by rw [hC,jdX h1 h2]⟩
  ·exact Or.inl ⟨e,by simp [e],by rw [hC,jes h1 h2 e]⟩
 have hsb: -1≤s∧s≤1:=by
  rcases (jah h1).2.2 with ⟨-,h⟩|⟨-,h|h⟩ <;> omega
 rw [h1] at HR1
 rw [h2] at HR2
 clear hno h1 h2 hC
 rcases hst with ⟨-,hd,he⟩|⟨rfl,he⟩
 ·rw [he]
  clear he
  go_enter Tryz.func56,Tryz.ntmps56
  go_wp2_with fail
  rw [←HW.out,←HG.out]
  refine (HR1.out _ (ha.up (jab _) hb2)).mono ?_
  rintro e w1 ⟨rfl,hb3⟩
  have hb03:=hb2.trans (hb3.mono hb2.size)
  have d2:=(hb3.cell (p:=⟨g+1,0,none⟩) hz).trans c2
  have d3:=(hb3.cell (p:=⟨g+1,1,none⟩) hz).trans c3
  go_wp2_with fail
  refine (HR2.out _ (hb.up (jab _) hb03)).mono ?_
  rintro e w2 ⟨rfl,hb4⟩
  have hb04:=hb03.trans (hb4.mono hb03.size)
  have hb34:=hb3.trans (hb4.mono hb3.size)
  have f0:=(hb34.cell (p:=⟨g,0,none⟩) hg0).trans c0
  have f2:=(hb34.cell (p:=⟨g+1,0,none⟩) hz).trans c2
  go_wp2_with fail
  refine (jff s t _).mono ?_
  rintro e _ ⟨rfl,rfl⟩
  go_wp2
  go_ret
  exact ⟨rfl,hb04⟩
 ·rw [he]
  have hd:(s !=s)=false:=by simp
  have HC:=jpk (fun w' h1 h2=>jfu A A2 n cap n2 cap2 a b w' h1 h2 a1 b1)
  have hcb: -1≤cmpI (val a) (val b)∧cmpI (val a) (val b)≤1:=by
   unfold cmpI
   split
   ·omega
   ·split <;> omega
  obtain ⟨C,hCC⟩:∃C,C=cmpI (val a) (val b):=⟨_,rfl⟩
  rw [←hCC] at HC hcb ⊢
  have hwm:IntKind.i64.wrap (s*C)=s*C:=by
   have h1:s= -1∨s=0∨s=1:=by omega
   rcases h1 with rfl|rfl|rfl <;> exact IntWalk.i64_in _ ZO
  clear he hCC
  go_enter Tryz.func56,Tryz.ntmps56
  go_wp2_with fail
  rw [←HW.out,←HG.out]
  refine (HR1.out _ (ha.up (jab _) hb2)).mono ?_
  rintro e w1 ⟨rfl,hb3⟩
  have hb03:=hb2.trans (hb3.mono hb2.size)
  have d2:=(hb3.cell (p:=⟨g+1,0,none⟩) hz).trans c2
  have d3:=(hb3.cell (p:=⟨g+1,1,none⟩) hz).trans c3
  go_wp2_with fail
  refine (HR2.out _ (hb.up (jab _) hb03)).mono ?_
  rintro e w2 ⟨rfl,hb4⟩
  have hb04:=hb03.trans (hb4.mono hb03.size)
  have hb34:=hb3.trans (hb4.mono hb3.size)
  have f0:=(hb34.cell (p:=⟨g,0,none⟩) hg0).trans c0
  have f1:=(hb34.cell (p:=⟨g,1,none⟩) hg0).trans c1
  have f2:=(hb34.cell (p:=⟨g+1,0,none⟩) hz).trans c2
  have f3:=(hb34.cell (p:=⟨g+1,1,none⟩) hz).trans c3
  have HCq:=jpk (fun q=>(HC.out (w2.drewN q) ((ha.up (jab _) hb04).drewN (jab _) q) ((hb.up (jab _) hb04).drewN (jab _) q)).mono fun e w'' ⟨h1,r,h2⟩=>(⟨h1,q+r,by rw [h2,World.drewN_drewN]⟩:e=Ending.returned (.int .i64 C)∧∃m,w''=w2.drewN m))
  clear hb3 hb4 hb03 hb34 c0 c1 c2 c3 d2 d3
  go_wp2_with fail
  go_quiet ((go_at_call 100;exact HCq.out _))
  go_wp2
  go_ret
  exact ⟨rfl,jaH hb04 _⟩
theorem jgq:∀n,vF (fun _=>0) n=0
 | 0=>rfl
 | n+1=>by rw [vF,jgq n];omega
theorem jg8 {p x B S:Int}:S*B+p*(x*B)=(S+p*x)*B:=by rw [Int.add_mul,Int.mul_assoc]
theorem jeQ (A A2:Option Addr) (n cap n2 cap2:Nat) (a b:List Int) (w:World) (ha:RdI w w.heap.size A n cap a) (hb:RdI w w.heap.size A2 n2 cap2 b) (da:DgOk a) (db:DgOk b) (hn:n≤10000) (hn2:n2≤10000) :
 Calls Tryz.prog 94 #[.slice A n cap,.slice A2 n2 cap2] w fun e w'=>(∃v,e=.returned v∧Own 1 iEnc w' w.heap.size 3 v (digs (val a*val b).toNat))∧Below w.heap.size w w':=by
 obtain ⟨i0,hi0,hz0,hz1,hz2⟩:=jaN jbf
 have hla:=ha.len
 have hlb:=hb.len
 have Hval:=jpk (show vF (gi a) n*vF (gi b) n2=val a*val b from by rw [ja0 hla,ja0 hlb])
 have Hda:=jpk (da.at hla)
 have Hdb:=jpk (db.at hlb)
 have hw1:IntKind.i64.wrap ((n:Int)+(n2:Int))=((n+n2:Nat):Int):=by rw [IntWalk.i64_in _ ZO];omega
 clear hla hlb da db
 go_enter Tryz.func94,Tryz.ntmps94
 go_wp2_with (at_make;refine jbS _ jap 0 rfl _ _ 22 rfl w.heap.size 3 i0 (.int .i64 0) Tryz.underlying22 hi0 hz0 hz1 rfl _ _ _ _ (n+n2) rfl rfl Zb5 Zb5 (by rw [hz2];omega) Zb2 (Nat.le_refl _) ?_
              intro w2 ho2 hg2
              have hb2:Below w.heap.size w w2:=(Below.refl _ _).grown hg2 (Nat.le_refl _) (by intro k hk;cases hk))
 clear hg2
 go_loopg [20] n (fun gk i wr=>∃(j:Nat) (o:Nat→Int),j≤n∧gk=n-j∧i=.int .i64 j∧vF o (n+n2)=vF (gi a) j*vF (gi b) n2∧Dg o (n+n2)∧(∀q,j+n2≤q→o q=0)∧Own 1 iEnc wr w.heap.size 3 (.slice (some ⟨w.heap.size,0,none⟩) (n+n2) (n+n2)) (ofF (n+n2) o)∧Below w.heap.size w wr)
 case atStart=>exact ⟨0,fun _=>0,Nat.zero_le _,rfl,rfl,by rw [jgq,vF,Int.zero_mul],(fun i _=>⟨Int.le_refl 0,(by decide:(0:Int)<1048576)⟩),(fun q _=>rfl),by rw [←jcs];exact ho2,hb2⟩
 case round =>
  clear ho2 hb2
  obtain ⟨j,o,hj,rfl,rfl,hvo,hdo,hzo,ho,hbel⟩:=hrel
  have Hvo:=jpk hvo;have Hdo:=jpk hdo;have Hzo:=jpk hzo
  clear hvo hdo hzo
  by_cases hlt:j<n
  ·obtain ⟨b1,o1,x,rfl,hb1,hx,c0⟩:=ha.atI hlt
   have Hx:=jpk (jaS hx)
   have hxd:=Hda.out j hlt
   rw [Hx.out] at hxd
   have c0':=(hbel.cell (p:=⟨b1,o1+j,none⟩) hb1).trans c0
   have hji:(j:Int)<(n:Int):=by omega
   have hj0:(0:Int)≤(j:Int):=by omega
   clear hx c0
   go_wp2
   go_loopg [8,27] n2 (fun gk c i wr=>∃(k:Nat) (cv:Int) (p:Nat→Int),k≤n2∧gk=n2-k∧i=.int .i64 k∧c=.int .i64 cv∧MulI x (gi b) o p (n+n2) j n2 k cv∧Own 1 iEnc wr w.heap.size 3 (.slice (some ⟨w.heap.size,0,none⟩) (n+n2) (n+n2)) (ofF (n+n2) p)∧Below w.heap.size w wr)
   case atStart=>exact ⟨0,0,o,Nat.zero_le _,rfl,rfl,rfl,MulI.zero Hdo.out,ho,hbel⟩
   case round =>
    clear ho hbel c0'
    obtain ⟨k,cv,p,hk,rfl,rfl,rfl,hI,ho,hbel⟩:=hrel
    have HI:=jpk hI
    obtain ⟨hc0,hc1⟩:=hI.2.2.1
    clear hI
    by_cases hltk:k<n2
    ·obtain ⟨b2,o2,y,rfl,hb2,hy,d0⟩:=hb.atI hltk
     have Hy:=jpk (jaS hy)
     have hyd:=Hdb.out k hltk
     rw [Hy.out] at hyd
     have d0':=(hbel.cell (p:=⟨b2,o2+k,none⟩) hb2).trans d0
     obtain ⟨z0,z1⟩:=ho.cellI (i:=j+k) ZO
     have hpd:=HI.out.2.1 (j+k) ZO
     obtain ⟨u,hu⟩:∃u,p (j+k)=u:=⟨_,rfl⟩
     rw [hu] at z0 hpd
     have Hu:=jpk hu
     have hxy:=jeC hxd hyd
     have hki:(k:Int)<(n2:Int):=by omega
     have hk0:(0:Int)≤(k:Int):=by omega
     have hjk:(j:Int)+(k:Int)<(n:Int)+(n2:Int):=by omega
     have hwjk:IntKind.i64.wrap ((j:Int)+(k:Int))=((j+k:Nat):Int):=by rw [IntWalk.i64_in _ ZO];omega
     have hw2:IntKind.i64.wrap (x*y)=x*y:=IntWalk.i64_in _ ZO
     have hw3:IntKind.i64.wrap (u+x*y)=u+x*y:=IntWalk.i64_in _ ZO
     have hw4:IntKind.i64.wrap (u+x*y+cv)=u+x*y+cv:=IntWalk.i64_in _ ZO
     have hmask:=jbL (u+x*y+cv)
     have hN:=HI.out.step hxd (by rw [Hy.out];exact hyd) ZO
     rw [Hu.out,Hy.out] at hN
     have HN:=jpk hN
     have ho3:=ho.setI (i:=j+k) ZO ((u+x*y+cv)%1048576)
     have hb3:=hbel.setCell (p:=⟨w.heap.size,j+k,none⟩) (Nat.le_refl _) (.int .i64 ((u+x*y+cv)%1048576))
     clear hN hy d0 ho hbel hu
     go_wp2
     go_roundg (n2-(k+1))
     case rel=>exact ⟨k+1,_,_,by omega,rfl,by go_num,rfl,HN.out,ho3,hb3⟩
     case measure=>omega
    ·have ee:k=n2:=by omega
     subst ee
     obtain ⟨z0,z1⟩:=ho.cellI (i:=j+k) ZO
     have hp0:=HI.out.2.2.2 (j+k) (Nat.le_refl _)
     rw [Hzo.out (j+k) (Nat.le_refl _)] at hp0
     obtain ⟨f1,f2,f3⟩:=HI.out.fin ZO (Hzo.out (j+k) (Nat.le_refl _))
     rw [hp0] at z0
     rw [hp0,Int.zero_add] at f1 f2 f3
     have Hf1:=jpk (show vF (updF p (j+k) cv) (n+k)=vF (gi a) (j+1)*vF (gi b) k from by rw [f1,Hvo.out,jg8,vF,Hx.out])
     have Hf2:=jpk f2
     have Hf3:=jpk (show ∀q,j+1+k≤q→updF p (j+k) cv q=0 from fun q hq=>by rw [f3 q ZO];exact Hzo.out q ZO)
     have hjk:(j:Int)+(k:Int)<(n:Int)+(k:Int):=by omega
     have hk0:(0:Int)≤(k:Int):=by omega
     have hwjk:IntKind.i64.wrap ((j:Int)+(k:Int))=((j+k:Nat):Int):=by rw [IntWalk.i64_in _ ZO];omega
     have hwc:IntKind.i64.wrap (0+cv)=cv:=by rw [Int.zero_add];exact IntWalk.i64_in _ ZO
     have hwc2:IntKind.i64.wrap cv=cv:=IntWalk.i64_in _ ZO
     have ho3:=ho.setI (i:=j+k) ZO cv
     have hb3:=hbel.setCell (p:=⟨w.heap.size,j+k,none⟩) (Nat.le_refl _) (.int .i64 cv)
     clear f1 f2 f3 hp0 ho hbel
     go_wp2
     go_roundg (n-(j+1))
     case rel=>exact ⟨j+1,updF p (j+k) cv,by omega,rfl,by go_num,Hf1.out,Hf2.out,Hf3.out,ho3,hb3⟩
     case measure=>omega
  ·have ee:j=n:=by omega
   subst ee
   have Hv:=jpk (Hvo.out.trans Hval.out)
   go_wp2_with fail
   refine (jcR w.heap.size _ _ _ _ _ ho ZO Hdo.out).mono ?_
   rintro e _ ⟨⟨v,rfl,hv⟩,rfl⟩
   rw [Hv.out] at hv
   go_wp2
   go_ret
   exact ⟨⟨_,rfl,hv⟩,hbel⟩
theorem jer (A:Option Addr) (n cap:Nat) (a:List Int) (d:Int) (w:World) (ha:RdI w w.heap.size A n cap a) (da:DgOk a) (hn:n≤10000) (hd:1≤d∧d≤1048576) :
 Calls Tryz.prog 129 #[.slice A n cap,.int .i64 d] w fun e w'=>(∃v,e=.returned (.tuple #[v,.int .i64 (val a%d)])∧Own 1 iEnc w' w.heap.size 3 v (digs (val a / d).toNat))∧Below w.heap.size w w':=by
 obtain ⟨i0,hi0,hz0,hz1,hz2⟩:=jaN jbf
 have hla:=ha.len
 have Hval:=jpk (ja0 hla)
 have Hda:=jpk (da.at hla)
 have hwn:IntKind.i64.wrap ((n:Int)-1)=(n:Int)-1:=IntWalk.i64_in _ ZO
 have hd0:(d==0)=false:=by simp;omega
 have hd0':¬d=0:=by omega
 clear hla da
 go_enter Tryz.func129,Tryz.ntmps129
 go_wp2_with (at_make;refine jbS _ jap 0 rfl _ _ 22 rfl w.heap.size 3 i0 (.int .i64 0) Tryz.underlying22 hi0 hz0 hz1 rfl _ _ _ _ n rfl rfl rfl rfl (by rw [hz2];omega) Zb2 (Nat.le_refl _) ?_
              intro w2 ho2 hg2
              have hb2:Below w.heap.size w w2:=(Below.refl _ _).grown hg2 (Nat.le_refl _) (by intro k hk;cases hk))
 clear hg2
 go_loopg [7,8] n (fun gk r i wr=>∃(k:Nat) (rv:Int) (o:Nat→Int),k≤n∧k=gk∧i=.int .i64 ((k:Int)-1)∧r=.int .i64 rv∧ShI (gi a) o n k d rv∧Own 1 iEnc wr w.heap.size 3 (.slice (some ⟨w.heap.size,0,none⟩) n n) (ofF n o)∧Below w.heap.size w wr)
 case atStart=>exact ⟨n,0,fun _=>0,Nat.le_refl _,rfl,rfl,rfl,ShI.zero ZO,by rw [←jcs];exact ho2,hb2⟩
 case round =>
  clear ho2 hb2
  obtain ⟨k,rv,o,hk,rfl,rfl,rfl,hI,ho,hbel⟩:=hrel
  have HI:=jpk hI
  obtain ⟨hr0,hr1⟩:=hI.2.1
  clear hI
  rcases Nat.eq_zero_or_pos k with hk0|hk0
  ·subst hk0
   obtain ⟨f1,f2,f3⟩:=HI.out.fin
   have Hf1:=jpk f1;have Hf2:=jpk f2;have Hf3:=jpk f3
   clear f1 f2 f3
   go_wp2_with fail
   refine (jcR w.heap.size _ _ _ _ _ ho ZO Hf3.out).mono ?_
   rintro e _ ⟨⟨v,rfl,hv⟩,rfl⟩
   rw [Hf1.out,←Hval.out] at hv
   have Hr:=jpk (show rv=val a%d from by rw [Hf2.out,Hval.out])
   go_wp2
   go_ret2
   exact ⟨⟨_,by rw [←Hr.out];rfl,hv⟩,hbel⟩
  ·obtain ⟨m,rfl⟩:∃m,k=m+1:=⟨k-1,by omega⟩
   obtain ⟨b1,o1,x,rfl,hb1,hx,c0⟩:=ha.atI (k:=m) ZO
   have Hx:=jpk (jaS hx)
   have hxd:=Hda.out m ZO
   rw [Hx.out] at hxd
   have c0':=(hbel.cell (p:=⟨b1,o1+m,none⟩) hb1).trans c0
   obtain ⟨z0,z1⟩:=ho.cellI (i:=m) ZO
   have h1:(m:Int)<(n:Int):=by omega
   have h2:(0:Int)≤(m:Int):=by omega
   have hor:=jgj rv x hr0 ZO hxd.1 hxd.2
   have hws:IntKind.i64.wrap (rv*1048576)=rv*1048576:=IntWalk.i64_in _ ZO
   have hN:=(HI.out.congr (o':=fun j=>if j=m then (rv*1048576+x) / d else o j) (fun j h1 h2=>if_neg ZO)).step ZO ZO (by rw [Hx.out];exact hxd) (by rw [if_pos rfl,Hx.out])
   rw [Hx.out] at hN
   have hN2:=hN.2.2 m (Nat.le_refl _) ZO
   have eN:(fun j=>if j=m then (rv*1048576+x) / d else o j) m=(rv*1048576+x) / d:=if_pos rfl
   rw [eN] at hN2
   have htd:(rv*1048576+x).tdiv d=(rv*1048576+x) / d:=Int.tdiv_eq_ediv_of_nonneg ZO
   have htm:(rv*1048576+x).tmod d=(rv*1048576+x)%d:=Int.tmod_eq_emod_of_nonneg ZO
   have hwq:IntKind.i64.wrap ((rv*1048576+x) / d)=(rv*1048576+x) / d:=IntWalk.i64_in _ ZO
   have hmd:=hN.2.1
   have hwm:IntKind.i64.wrap ((rv*1048576+x)%d)=(rv*1048576+x)%d:=IntWalk.i64_in _ ZO
   have HN:=jpk hN
   have ho3:=ho.setI (i:=m) ZO ((rv*1048576+x) / d)
   have hb3:=hbel.setCell (p:=⟨w.heap.size,m,none⟩) (Nat.le_refl _) (.int .i64 ((rv*1048576+x) / d))
   clear hN hN2 eN hmd hx c0 ho hbel
   go_wp2
   go_roundg m
   case rel=>exact ⟨m,_,_,by omega,rfl,by go_num,rfl,HN.out,ho3,hb3⟩
   case measure=>omega
def winF (f:Nat→Int) (i k:Nat) (o:Nat→Int):Nat→Int:=fun q=>if i≤q∧q<i+k then o (q-i) else f q
theorem jf0 {f o:Nat→Int} {i:Nat}:winF f i 0 o=f:=by
 funext q;unfold winF;rw [if_neg ZO]
theorem jkz {f o:Nat→Int} {i k:Nat}:winF f i k o (i+k)=f (i+k):=by unfold winF;rw [if_neg ZO]
theorem jdh {f o:Nat→Int} {i k:Nat} {D:Int}:(fun q=>if q=i+k then D else winF f i k o q)=winF f i (k+1) (fun j=>if j=k then D else o j):=by
 funext q
 unfold winF
 by_cases e:q=i+k
 ·rw [if_pos e,if_pos ZO]
  show D=if q-i=k then D else o (q-i)
  rw [if_pos ZO]
 ·rw [if_neg e]
  by_cases e2:i≤q∧q<i+k
  ·rw [if_pos e2,if_pos ZO]
   show o (q-i)=if q-i=k then D else o (q-i)
   rw [if_neg ZO]
  ·rw [if_neg e2,if_neg ZO]
theorem jeh {f o:Nat→Int} {i k j:Nat} (h:j<k):winF f i k o (i+j)=o j:=by
 unfold winF;rw [if_pos ZO,Nat.add_sub_cancel_left]
theorem jfs {f o:Nat→Int} {i k q:Nat} (h:q<i∨i+k≤q):winF f i k o q=f q:=by
 unfold winF;rw [if_neg ZO]
def jdm (w:World) (base g N capN i m:Nat) (f:Nat→Int) (W V G:Int) (e:Ending) (w':World):Prop :=
 ∃(q:Int) (f':Nat→Int),e=.returned (.int .i64 q)∧((q=G∧G*V≤W)∨(q=G-1∧W<G*V))∧vF (fun j=>f' (i+j)) m=W-q*V∧Dg (fun j=>f' (i+j)) m∧(∀p,p<i∨i+m≤p→f' p=f p) ∧
  Own 1 iEnc w' base 3 (.slice (some ⟨g,0,none⟩) N capN) (ofF N f')∧Kept (fun b=>b=g) w w'
theorem jhA (base g N capN i m capw:Nat) (f:Nat→Int) (A2:Option Addr) (n2 cap2:Nat) (b:List Int) (G:Int) (w:World) (ho:Own 1 iEnc w base 3 (.slice (some ⟨g,0,none⟩) N capN) (ofF N f)) (hb:RdI w w.heap.size A2 n2 cap2 b) (hA2:∀c off,A2=some ⟨c,off,none⟩→c≠g)
 (hN:N≤100000) (him:i+m≤N) (hcw:m≤capw∧capw≤9223372036854775807) (hn2:n2≤m) (db:DgOk b) (hG:0≤G∧G<1048576) (hU:Dg (fun j=>f (i+j)) m) (hok:(G-1)*val b≤vF (fun j=>f (i+j)) m) :
 Calls Tryz.prog 130 #[.slice (some ⟨g,i,none⟩) m capw,.slice A2 n2 cap2,.int .i64 G] w (jdm w base g N capN i m f (vF (fun j=>f (i+j)) m) (val b) G):=by
 have hlb:=hb.len
 have hcapb:=hb.caps
 have hdv:∀j,0≤padF n2 (gi b) j∧padF n2 (gi b) j<1048576:=fun j=>by
  unfold padF
  split
  ·rename_i h;exact db.at hlb j h
  ·omega
 have hV:vF (padF n2 (gi b)) m=val b:=by rw [jeg m hn2,←ja0 hlb]
 have Hdv:=jpk hdv
 have Hpad:=jpk (show ∀j,padF n2 (gi b) j=if j<n2 then gi b j else 0 from fun _=>rfl)
 have hVd:Dg (padF n2 (gi b)) m:=fun j _=>hdv j
 have HV0:=jpk (show 0≤vF (padF n2 (gi b)) m from jaV hVd)
 have HV1:=jpk (jcz hVd)
 have HV:=jpk hV
 have HU:=jpk hU
 have Hok:=jpk hok
 have HQ:=jpk (fun (q:Int) (f':Nat→Int) w' h1 h2 h3 h4 h5 h6=>(show jdm w base g N capN i m f (vF (fun j=>f (i+j)) m) (val b) G (.returned (.int .i64 q)) w' from ⟨q,f',rfl,h1,h2,h3,h4,h5,h6⟩))
 have hmul:∀y:Int,0≤y∧y<1048576→0≤G*y∧G*y≤1099509530625:=fun y hy=>jeC hG hy
 have Hmul:=jpk hmul
 clear hmul hdv hV hVd hU hok db hlb
 generalize padF n2 (gi b)=bf at *
 generalize jdm w base g N capN i m f (vF (fun j=>f (i+j)) m) (val b) G=Q at *
 go_enter Tryz.func130,Tryz.ntmps130
 go_wp2
 go_loopg [7,14] m (fun gk c ix wr=>∃(k:Nat) (cv:Int) (o:Nat→Int),k≤m∧gk=m-k∧ix=.int .i64 k∧c=.int .i64 cv∧StI (fun j=>f (i+j)) bf o G k cv∧Own 1 iEnc wr base 3 (.slice (some ⟨g,0,none⟩) N capN) (ofF N (winF f i k o))∧Kept (fun b=>b=g) w wr)
 case atStart=>exact ⟨0,0,fun _=>0,Nat.zero_le _,rfl,rfl,rfl,StI.zero,by rw [jf0];exact ho,Kept.refl _ _⟩
 case round =>
  clear ho
  obtain ⟨k,cv,o,hk,rfl,rfl,rfl,hI,ho,hkp⟩:=hrel
  have HI:=jpk hI
  obtain ⟨hc0,hc1⟩:=hI.2.2
  clear hI
  by_cases hlt:k<m
  ·obtain ⟨z0,z1⟩:=ho.cellI (i:=i+k) ZO
   rw [jkz] at z0
   have hxd:=HU.out k hlt
   obtain ⟨x,hx⟩:∃x,f (i+k)=x:=⟨_,rfl⟩
   rw [hx] at z0
   have hxd':0≤x∧x<1048576:=by rw [←hx];exact hxd
   have Hx:=jpk hx
   have hki:(k:Int)<(m:Int):=by omega
   have hk0:(0:Int)≤(k:Int):=by omega
   have hwc:IntKind.i64.wrap (x-cv)=x-cv:=IntWalk.i64_in _ ZO
   clear hx hxd
   by_cases hk2:k<n2
   ·obtain ⟨b2,o2,y,rfl,hb2,hy,d0⟩:=hb.atI hk2
    have Hy:=jpk (show bf k=y from by rw [Hpad.out,if_pos hk2];exact jaS hy)
    have hyd:=Hdv.out k
    rw [Hy.out] at hyd
    have d0':=(hkp.cell (p:=⟨b2,o2+k,none⟩) hb2 (hA2 b2 o2 rfl)).trans d0
    have hgy:=Hmul.out y hyd
    have hw1:IntKind.i64.wrap (G*y)=G*y:=IntWalk.i64_in _ ZO
    have hw2:IntKind.i64.wrap (x-cv-G*y)=x-cv-G*y:=IntWalk.i64_in _ ZO
    have hw3:IntKind.i64.wrap (-((x-cv-G*y) / 1048576))= -((x-cv-G*y) / 1048576):=IntWalk.i64_in _ ZO
    have hmask:=jbL (x-cv-G*y)
    have hN:=(HI.out.congr (O':=fun j=>if j=k then (x-cv-G*y)%1048576 else o j) (fun j hj=>if_neg ZO)).step hG (by show 0≤f (i+k)∧_;rw [Hx.out];exact hxd') (by rw [Hy.out];exact hyd) (by rw [if_pos rfl,Hy.out];show _=(f (i+k)-cv-G*y)%1048576;rw [Hx.out])
    have hN2:StI (fun j=>f (i+j)) bf (fun j=>if j=k then (x-cv-G*y)%1048576 else o j) G (k+1) (-((x-cv-G*y) / 1048576)):=by
     rw [Hx.out,Hy.out] at hN
     exact hN
    have HN:=jpk hN2
    have ho3:=ho.setI (i:=i+k) ZO ((x-cv-G*y)%1048576)
    rw [jdh] at ho3
    have hk3:=hkp.setCell (b:=g) (o:=i+k) (.int .i64 ((x-cv-G*y)%1048576)) (Or.inl rfl)
    clear hN hN2 hy d0 ho hkp
    exact ZQ126
   ·have hdk:decide (k<n2)=false:=by simp;omega
    have Hy:=jpk (show bf k=0 from by rw [Hpad.out,if_neg hk2])
    have hw3:IntKind.i64.wrap (-((x-cv) / 1048576))= -((x-cv) / 1048576):=IntWalk.i64_in _ ZO
    have hmask:=jbL (x-cv)
    have hN:=(HI.out.congr (O':=fun j=>if j=k then (x-cv)%1048576 else o j) (fun j hj=>if_neg ZO)).step hG (by show 0≤f (i+k)∧_;rw [Hx.out];exact hxd') (by rw [Hy.out];omega) (by rw [if_pos rfl,Hy.out,Int.mul_zero,Int.sub_zero];show _=(f (i+k)-cv)%1048576;rw [Hx.out])
    have hN2:StI (fun j=>f (i+j)) bf (fun j=>if j=k then (x-cv)%1048576 else o j) G (k+1) (-((x-cv) / 1048576)):=by
     rw [Hx.out,Hy.out,Int.mul_zero,Int.sub_zero] at hN
     exact hN
    have HN:=jpk hN2
    have ho3:=ho.setI (i:=i+k) ZO ((x-cv)%1048576)
    rw [jdh] at ho3
    have hk3:=hkp.setCell (b:=g) (o:=i+k) (.int .i64 ((x-cv)%1048576)) (Or.inl rfl)
    clear hN hN2 ho hkp hk2
    exact ZQ126
  ·have ee:k=m:=by omega
   subst ee
   obtain ⟨f1,f2⟩:=HI.out.fin HU.out HV0.out hG.1
   have f3:=HI.out.1
   have f4:=jcz HI.out.2.1
   have f5:=jaV HI.out.2.1
   have f6:=HI.out.2.1
   by_cases hc:cv=0
   ·have hd:(cv==0)=true:=by simp [hc]
    have Hres:=jpk (HQ.out G (winF f i k o) wr (Or.inl ⟨rfl,by rw [←HV.out];exact f1.1 hc⟩) (by
     rw [jaR (g:=o) k (fun j hj=>jeh hj),←HV.out];exact f2 hc) (fun j hj=>by
     show 0≤winF f i k o (i+j)∧winF f i k o (i+j)<1048576
     rw [jeh hj];exact f6 j hj) (fun p hp=>jfs hp) ho hkp)
    clear f1 f2 f3 f4 f5 f6 hc ho hkp
    go_wp2
    exact Hres.out
   ·have hd:(cv==0)=false:=by simp [hc]
    have hX:vF o k=(vF (fun j=>f (i+j)) k-G*vF bf k)+pw k∧0≤(vF (fun j=>f (i+j)) k-G*vF bf k)+vF bf k:=by
     have g1:=Hok.out
     rw [←HV.out,Int.sub_mul,Int.one_mul] at g1
     have g2:=HV1.out
     have g3:=jaX k
     have g4:cv=1:=by
      refine Classical.byContradiction fun hn=>?_
      have g5:=Int.mul_le_mul_of_nonneg_left (show 2≤cv by omega) (Int.le_of_lt g3)
      omega
     subst g4
     omega
    have HNle:=jpk (show vF (fun j=>f (i+j)) k<G*val b from by
     rw [←HV.out]
     exact Int.not_le.1 (fun h=>hc (f1.2 h)))
    have HX:=jpk hX
    have HDo:=jpk f6
    have hwG:IntKind.i64.wrap (G-1)=G-1:=IntWalk.i64_in _ ZO
    clear f1 f2 f3 f4 f5 f6 hc hX
    go_wp2
    go_loopg [10,49] k (fun gk c ix wr=>∃(k':Nat) (cv:Int) (p:Nat→Int),k'≤k∧gk=k-k'∧ix=.int .i64 k'∧c=.int .i64 cv∧AddI o bf p k' cv∧Own 1 iEnc wr base 3 (.slice (some ⟨g,0,none⟩) N capN) (ofF N (winF (winF f i k o) i k' p))∧Kept (fun b=>b=g) w wr)
    case atStart=>exact ⟨0,0,fun _=>0,Nat.zero_le _,rfl,rfl,rfl,AddI.zero,by rw [jf0];exact ho,hkp⟩
    case round =>
     clear ho hkp
     obtain ⟨q,cw,p,hq,rfl,rfl,rfl,hI2,ho,hkp⟩:=hrel
     have HI2:=jpk hI2
     obtain ⟨hd0,hd1⟩:=hI2.2.2
     clear hI2
     by_cases hlt2:q<k
     ·obtain ⟨z0,z1⟩:=ho.cellI (i:=i+q) ZO
      rw [jkz,jeh hlt2] at z0
      have hxd:=HDo.out q hlt2
      obtain ⟨x,hx⟩:∃x,o q=x:=⟨_,rfl⟩
      rw [hx] at z0 hxd
      have Hx:=jpk hx
      have hki:(q:Int)<(k:Int):=by omega
      have hk0:(0:Int)≤(q:Int):=by omega
      have hwc:IntKind.i64.wrap (cw+x)=cw+x:=IntWalk.i64_in _ ZO
      clear hx
      by_cases hk2:q<n2
      ·obtain ⟨b2,o2,y,rfl,hb2,hy,d0⟩:=hb.atI hk2
       have Hy:=jpk (show bf q=y from by rw [Hpad.out,if_pos hk2];exact jaS hy)
       have hyd:=Hdv.out q
       rw [Hy.out] at hyd
       have d0':=(hkp.cell (p:=⟨b2,o2+q,none⟩) hb2 (hA2 b2 o2 rfl)).trans d0
       have hwc2:IntKind.i64.wrap (cw+x+y)=cw+x+y:=IntWalk.i64_in _ ZO
       have hmask:=jbL (cw+x+y)
       have hN:=(HI2.out.congr (o':=fun j=>if j=q then (cw+x+y)%1048576 else p j) (fun j hj=>if_neg ZO)).step (by rw [Hx.out];exact hxd) (by rw [Hy.out];exact hyd) (by rw [if_pos rfl,Hx.out,Hy.out])
       rw [Hx.out,Hy.out] at hN
       have HN:=jpk hN
       have ho3:=ho.setI (i:=i+q) ZO ((cw+x+y)%1048576)
       rw [jdh] at ho3
       have hk3:=hkp.setCell (b:=g) (o:=i+q) (.int .i64 ((cw+x+y)%1048576)) (Or.inl rfl)
       clear hN hy d0 ho hkp
       exact ZQ125
      ·have hdk:decide (q<n2)=false:=by simp;omega
       have Hy:=jpk (show bf q=0 from by rw [Hpad.out,if_neg hk2])
       have hmask:=jbL (cw+x)
       have hN:=(HI2.out.congr (o':=fun j=>if j=q then (cw+x)%1048576 else p j) (fun j hj=>if_neg ZO)).step (by rw [Hx.out];exact hxd) (by rw [Hy.out];omega) (by rw [if_pos rfl,Hx.out,Hy.out,Int.add_zero])
       rw [Hx.out,Hy.out,Int.add_zero] at hN
       have HN:=jpk hN
       have ho3:=ho.setI (i:=i+q) ZO ((cw+x)%1048576)
       rw [jdh] at ho3
       have hk3:=hkp.setCell (b:=g) (o:=i+q) (.int .i64 ((cw+x)%1048576)) (Or.inl rfl)
       clear hN ho hkp hk2
       exact ZQ125
     ·have ee:q=k:=by omega
      subst ee
      have hfin:=jpf HI2.out HX.out.1 HX.out.2
      have hdp:=HI2.out.2.1
      have Hres:=jpk (HQ.out (G-1) (winF (winF f i q o) i q p) wr (Or.inr ⟨rfl,HNle.out⟩) (by
       rw [jaR (g:=p) q (fun j hj=>jeh hj),←HV.out,hfin,Int.sub_mul,Int.one_mul];omega) (fun j hj=>by
       show 0≤winF (winF f i q o) i q p (i+j)∧winF (winF f i q o) i q p (i+j)<1048576
       rw [jeh hj];exact hdp j hj) (fun r hr=>by rw [jfs hr,jfs hr]) ho hkp)
      clear hfin hdp ho hkp
      go_wp2
      exact Hres.out
def jbX (w:World) (x y:Int) (e:Ending) (w':World):Prop:=∃Aq nq cq Ar nr cr,e=.returned (.tuple #[.slice Aq nq cq,.slice Ar nr cr])∧RdI w' w'.heap.size Aq nq cq (digs (x / y).toNat)∧RdI w' w'.heap.size Ar nr cr (digs (x%y).toNat)∧(FrA w.heap.size Aq∧FrA w.heap.size Ar)∧Below w.heap.size w w'
theorem Own.rdN {w:World} {base:Nat} {e:TypeId} {v:Value} {l:List Int} (h:Own 1 iEnc w base e v l) (hn:l.length≤100000):∃A cap,v=.slice A l.length cap∧RdI w w.heap.size A l.length cap l∧FrA base A:=by
 obtain ⟨A,cap,h1,h2⟩:=h.rd jap ZO
 exact ⟨A,cap,h1,h2,h.fr h1⟩
theorem jaM {x:Int} {n:Nat} (h:x<pw n):(digs x.toNat).length≤n:=by
 refine jbs.2 ?_
 have:=jaX n
 omega
theorem jdb {b:List Int} {n:Nat} (h:b.length=n) (hn:1≤n):b≠[]:=fun e=>by rw [e] at h;simp at h;omega
def ShP (s:Int) (e:Nat):Prop:=s=((2 ^ e:Nat):Int)
theorem ShP.next {s:Int} {e:Nat} (h:ShP s e):ShP (s*2) (e+1):=by
 unfold ShP at h ⊢
 rw [h,Nat.pow_succ]
 omega
theorem ShP.lt {s:Int} {e:Nat} (h:ShP s e) (hs:s<524288):e<19:=by
 unfold ShP at h
 have h1:2 ^ e<2 ^ 19:=by omega
 exact (Nat.pow_lt_pow_iff_right Zb4).1 h1
theorem ShP.int {s:Int} {e:Nat} (h:ShP s e):s=2 ^ e:=by
 unfold ShP at h
 rw [h]
 simp
theorem jgy (A A2:Option Addr) (n cap n2 cap2:Nat) (a b:List Int) (w:World) (ha:RdI w w.heap.size A n cap a) (hb:RdI w w.heap.size A2 n2 cap2 b) (ca:Cn a) (cb:Cn b) (hn:n≤1000) (hn2:n2≤1000) (hn21:1≤n2) :
 Calls Tryz.prog 96 #[.slice A n cap,.slice A2 n2 cap2] w (jbX w (val a) (val b)):=by
 have hla:=ha.len
 have hlb:=hb.len
 have hcap1:=ha.caps
 have hcap2:=hb.caps
 have hbp:=cb.pos (jdb hlb hn21)
 have ha0:=jas ca.1
 have Hcmp:=jpk (jgx A A2 n cap n2 cap2 a b w ha hb ca cb)
 by_cases hlt:val a<val b
 ·
  have hc:cmpI (val a) (val b)= -1:=ja9 hlt
  rw [hc] at Hcmp
  have hq:val a / val b=0:=Int.ediv_eq_zero_of_lt ha0 hlt
  have hr:val a%val b=val a:=Int.emod_eq_of_lt ha0 hlt
  have hda:=ca.digs
  have Hpost:=jpk (fun Ar nr cr w' (h:RdI w' w'.heap.size Ar nr cr a) (hfr:FrA w.heap.size Ar) (hbel:Below w.heap.size w w')=>(show jbX w (val a) (val b) (.returned (.tuple #[.slice none 0 0,.slice Ar nr cr])) w' from ⟨none,0,0,Ar,nr,cr,rfl,by rw [hq];exact (jax ▸ Rd.nil),by rw [hr,←hda];exact h,⟨FrA.none,hfr⟩,hbel⟩))
  have Hcl:=jpk (fun w' h=>jdW A n cap a w' h ZO)
  have Hlen:=jpk (show a.length≤100000 by omega)
  generalize jbX w (val a) (val b)=Q at *
  clear hla hlb hbp ha0 hlt hc hq hr hda
  go_enter Tryz.func96,Tryz.ntmps96
  go_wp2_with fail
  refine Hcmp.out.mono ?_
  rintro e w1 ⟨rfl,hb1⟩
  go_wp2_with fail
  refine (Hcl.out w1 (ha.up (jab _) hb1)).mono ?_
  rintro e w2 ⟨⟨v,rfl,ho⟩,hb2⟩
  obtain ⟨Ar,cr,rfl,hr,hfr⟩:=ho.rdN Hlen.out
  have Hres:=jpk (Hpost.out _ _ _ _ hr (hfr.mono hb1.size) (hb1.trans (hb2.mono hb1.size)))
  clear hr ho hb1 hb2
  go_wp2
  exact Hres.out
 have hge:val b≤val a:=by omega
 have hcs:decide (cmpI (val a) (val b)<0)=false:=by
  unfold cmpI
  rw [if_neg ZO]
  split <;> simp
 obtain ⟨C,hC⟩:∃C,C=cmpI (val a) (val b):=⟨_,rfl⟩
 rw [←hC] at hcs Hcmp
 clear hC
 by_cases hone:n2=1
 ·
  subst hone
  have hd1:(((1:Nat):Int)==1)=true:=by simp
  obtain ⟨b1,o1,d,rfl,hb1',hd,c0⟩:=hb.atI (k:=0) ZO
  rw [Nat.add_zero] at c0
  have hvb:val b=d:=by
   rw [ja0 hlb]
   simp [vF,pw,jaS hd]
  have hdd:1≤d∧d≤1048576:=by
   have:=(cb.1.at hlb 0 ZO).2
   rw [jaS hd] at this
   omega
  have Hsh:=jpk (fun w' h=>jer A n cap a d w' h ca.1 ZO hdd)
  have hr0:0≤val a%d∧val a%d<1048576:=by
   have h1:=Int.emod_nonneg (val a) (b:=d) ZO
   have h2:=Int.emod_lt_of_pos (val a) (show 0<d by omega)
   have:=(cb.1.at hlb 0 ZO).2
   rw [jaS hd] at this
   omega
  have hrd:jbK [val a%d]=digs (val a%d).toNat:=by
   have h1:DgOk [val a%d]:=DgOk.cons.2 ⟨hr0,DgOk.nil⟩
   rw [jbC h1]
   simp [val]
  have Hrd:=jpk hrd
  have Hqlen:=jpk (show (digs (val a / d).toNat).length≤100000 from by
   have h1:=ja7 ca.1
   have h2:val a / d≤val a:=Int.ediv_le_self _ ha0
   have:=jaM (x:=val a / d) (n:=a.length) ZO
   omega)
  have Hpost:=jpk (fun Aq nq cq Ar nr cr w' (hq:RdI w' w'.heap.size Aq nq cq (digs (val a / d).toNat)) (h:RdI w' w'.heap.size Ar nr cr (digs (val a%d).toNat)) (hf1:FrA w.heap.size Aq) (hf2:FrA w.heap.size Ar) (hbel:Below w.heap.size w w')=>(show jbX w (val a) (val b) (.returned (.tuple #[.slice Aq nq cq,.slice Ar nr cr])) w' from by
   rw [hvb];exact ⟨Aq,nq,cq,Ar,nr,cr,rfl,hq,h,⟨hf1,hf2⟩,hbel⟩))
  generalize jbX w (val a) (val b)=Q at *
  obtain ⟨r,hre⟩:∃r,r=val a%d:=⟨_,rfl⟩
  rw [←hre] at Hsh Hrd Hpost
  clear hla hlb hbp ha0 hlt hge hvb hdd hr0 hrd hd hre
  go_enter Tryz.func96,Tryz.ntmps96
  go_wp2_with fail
  refine Hcmp.out.mono ?_
  rintro e w1 ⟨rfl,hb1⟩
  have c1:=(hb1.cell (p:=⟨b1,o1,none⟩) hb1').trans c0
  go_wp2_with fail
  refine (Hsh.out w1 (ha.up (jab _) hb1)).mono ?_
  rintro e w2 ⟨⟨v,rfl,ho⟩,hb2⟩
  obtain ⟨Aq,cq,rfl,hq,hfq⟩:=ho.rdN Hqlen.out
  have hfq:=hfq.mono hb1.size
  have hb02:=hb1.trans (hb2.mono hb1.size)
  clear ho hb1 hb2 c1
  go_wp2_with fail
  have lit:=Rd.litG jap (w:=w2) 3 [r] #[.int .i64 r] 1 w2.heap.size rfl rfl rfl ZO
  have hbL:=(Below.refl w2.heap.size w2).alloc (Nat.le_refl _) (.cells #[.int .i64 r] 3)
  refine (jdP _ 1 1 [r] _ lit).mono ?_
  rintro e _ ⟨⟨k,hk,rfl,htr⟩,rfl⟩
  have hr3:=lit.take hk
  rw [←htr,Hrd.out] at hr3
  have Hres:=jpk (Hpost.out _ _ _ _ _ _ _ (hq.up (jab _) hbL) hr3 hfq (FrA.at hb02.size) (hb02.trans (hbL.mono hb02.size)))
  clear hr3 htr lit hbL hq hb02
  go_wp2
  exact Hres.out
 obtain ⟨t1,ht1⟩:∃t,n2=t+1:=⟨n2-1,by omega⟩
 obtain ⟨t2,ht2⟩:∃t,t1=t+1:=⟨t1-1,by omega⟩
 have hd1:((n2:Int)==1)=false:=by simp;omega
 obtain ⟨b2,o2,bt,rfl,hb2',hbt,c0⟩:=hb.atI (k:=t1) ZO
 have hbtd:=cb.1.at hlb t1 ZO
 rw [jaS hbt] at hbtd
 have hbt1:bt≠0:=fun e=>cb.2 bt (by
  rw [jfa (jdb hlb hn21),hlb,show n2-1=t1 by omega,jaS hbt]) e
 have hnn2:n2≤n:=by
  refine Classical.byContradiction fun h=>?_
  have:=jc6 ca.1 cb ZO
  omega
 have Hsb:=jpk (fun (sh:Int) (e:Nat) (h:ShP sh e) (he:e≤20) (hs:bt*sh<1048576)=>(show pw t1≤val b*sh∧val b*sh<pw n2 from by
  have:=jmT cb hlb hn21 h.int he (by rw [show n2-1=t1 by omega,jaS hbt];exact hs)
  rw [show n2-1=t1 by omega] at this
  exact this))
 have hn1i:(n2:Int)-1=(t1:Int):=by omega
 have hn2i:(n2:Int)-2=(t2:Int):=by omega
 have hwn1:IntKind.i64.wrap ((n2:Int)-1)=(t1:Int):=by rw [hn1i];exact IntWalk.i64_in _ ZO
 have hwn2:IntKind.i64.wrap ((n2:Int)-2)=(t2:Int):=by rw [hn2i];exact IntWalk.i64_in _ ZO
 have ht1i:(t1:Int)<(n2:Int):=by omega
 have ht10:(0:Int)≤(t1:Int):=by omega
 have Hpost:=jpk (fun Aq nq cq Ar nr cr w' (hq:RdI w' w'.heap.size Aq nq cq (digs (val a / val b).toNat)) (h:RdI w' w'.heap.size Ar nr cr (digs (val a%val b).toNat)) (hf1:FrA w.heap.size Aq) (hf2:FrA w.heap.size Ar) (hbel:Below w.heap.size w w')=>(show jbX w (val a) (val b) (.returned (.tuple #[.slice Aq nq cq,.slice Ar nr cr])) w' from ⟨Aq,nq,cq,Ar,nr,cr,rfl,hq,h,⟨hf1,hf2⟩,hbel⟩))
 generalize jbX w (val a) (val b)=Q at *
 have k1:t1<n2:=by omega
 have k2:n2≤t1+1:=by omega
 have k3:t2<t1:=by omega
 have k4:t1≤t2+1:=by omega
 have Ht1:=jpk ht1;have Ht2:=jpk ht2;have Hla:=jpk hla;have Hlb:=jpk hlb
 clear hbt ht1 ht2 hla hlb
 go_enter Tryz.func96,Tryz.ntmps96
 go_wp2_with fail
 refine Hcmp.out.mono ?_
 rintro e w1 ⟨rfl,hb1⟩
 have c1:=(hb1.cell (p:=⟨b2,o2+t1,none⟩) hb2').trans c0
 go_wp2
 go_loopg [8] 20 (fun gk sh wr=>∃(e:Nat) (s:Int),e≤20∧gk=20-e∧sh=.int .i64 s∧ShP s e∧bt*s<1048576∧1≤s∧w1=wr)
 case atStart=>exact ⟨0,1,by omega,rfl,rfl,rfl,by omega,by omega,rfl⟩
 case round =>
  obtain ⟨e,s,he,rfl,rfl,hsp,hbs,hs1,rfl⟩:=hrel
  have Hsp:=jpk hsp
  clear hsp
  have hsle:s≤bt*s:=by
   have:=Int.mul_le_mul_of_nonneg_right (show 1≤bt by omega) (show 0≤s by omega)
   omega
  obtain ⟨P,hP⟩:∃P,bt*s=P:=⟨_,rfl⟩
  rw [hP] at hbs hsle
  have HP:=jpk hP
  have hwP:IntKind.i64.wrap (bt*s)=P:=by rw [hP];exact IntWalk.i64_in _ ZO
  by_cases hlt2:P<524288
  ·have hd2:decide (P<524288)=true:=by simpa using hlt2
   have he19:=Hsp.out.lt ZO
   have hws:IntKind.i64.wrap (s*2)=s*2:=IntWalk.i64_in _ ZO
   have HN:=jpk Hsp.out.next
   have HB:=jpk (show bt*(s*2)<1048576 from by rw [←Int.mul_assoc,HP.out];omega)
   go_wp2
   go_roundg (20-(e+1))
   case rel=>exact ⟨e+1,s*2,by omega,rfl,rfl,HN.out,HB.out,by omega,rfl⟩
   case measure=>omega
  ·have hd2:decide (P<524288)=false:=by simpa using hlt2
   obtain ⟨y1,y2⟩:=Hsb.out s e Hsp.out he (by rw [HP.out];exact hbs)
   have hsd:DgOk [s]:=DgOk.cons.2 ⟨by omega,DgOk.nil⟩
   have hvs:val [s]=s:=by simp [val]
   have Hma:=jpk (fun A' c' w' h1 h2=>(jeQ A A' n cap 1 c' a [s] w' h1 h2 ca.1 hsd ZO ZO))
   have Hmb:=jpk (fun A' c' w' h1 h2=>(jeQ (some ⟨b2,o2,none⟩) A' n2 cap2 1 c' b [s] w' h1 h2 cb.1 hsd ZO ZO))
   rw [hvs] at Hma Hmb
   have hX0:pw (n-1)≤val a*s:=by
    have h1:=ca.ge (jdb Hla.out ZO)
    rw [Hla.out] at h1
    have:=Int.mul_le_mul_of_nonneg_left hs1 ha0
    omega
   have hXY:val b*s≤val a*s:=Int.mul_le_mul_of_nonneg_right hge ZO
   have hXu:val a*s<pw (n+1):=by
    have h1:=ja7 ca.1
    rw [Hla.out] at h1
    have h2:=Int.mul_le_mul (show val a≤pw n-1 by omega) (show s≤1048576 by omega) ZO (by have:=jaX n;omega)
    rw [pw]
    have:=jaX n
    omega
   obtain ⟨X,hX⟩:∃X,X=val a*s:=⟨_,rfl⟩
   obtain ⟨Y,hY⟩:∃Y,Y=val b*s:=⟨_,rfl⟩
   rw [←hX] at Hma hX0 hXY hXu
   rw [←hY] at Hmb hXY y1 y2
   have hlv:(digs Y.toNat).length=n2:=jf8 (by rw [show n2-1=t1 by omega];exact y1) y2 hn21
   obtain ⟨lu,hlu⟩:∃lu,(digs X.toNat).length=lu:=⟨_,rfl⟩
   have hXp:0<X:=by have:=jaX (n-1);omega
   have hXe:((X.toNat:Nat):Int)=X:=by omega
   have hlu1:n≤lu:=by
    refine Classical.byContradiction fun h=>?_
    have:=jbs.1 (show (digs X.toNat).length≤n-1 by omega)
    omega
   have hlu2:lu≤n+1:=by rw [←hlu];exact jbs.2 ZO
   have HX:=jpk hX;have HY:=jpk hY;have Hlv:=jpk hlv;have Hlu:=jpk hlu;have HXe:=jpk hXe
   have Hy1:=jpk y1;have Hy2:=jpk y2;have HXY:=jpk hXY;have HX0:=jpk hX0;have HXp:=jpk hXp
   have Hge:=jpk hge;have Ha0:=jpk ha0;have Hbp:=jpk hbp
   obtain ⟨i0,hi0,hz0,hz1,hz2⟩:=jaN jbf
   have hsB:s<1048576:=by omega
   clear hX hY hlv hlu hXe y1 y2 hXY hX0 hXp hXu hvs hsd hge ha0 hbp hlt hbtd hsle hbt1
   go_wp2_with fail
   have lit:=Rd.litG jap (w:=w1) 3 [s] #[.int .i64 s] 1 w1.heap.size rfl rfl rfl ZO
   have hbL:=(Below.refl w1.heap.size w1).alloc (Nat.le_refl _) (.cells #[.int .i64 s] 3)
   have hbL0:=hb1.trans (hbL.mono hb1.size)
   refine (Hma.out _ _ _ (ha.up (jab _) hbL0) lit).mono ?_
   rintro e w2 ⟨⟨v2,rfl,ho2⟩,hb2⟩
   have hb02:=hbL0.trans (hb2.mono hbL0.size)
   have ho2:=ho2.mono (base':=w.heap.size) hbL0.size
   clear lit hbL hbL0 hb2 c1
   have hlu0:(digs X.toNat).length≤1000000:=by rw [Hlu.out];omega
   go_wp2_with (at_builtin;refine jbd jap rfl _ _ 22 rfl w.heap.size 3 i0 _ 8 Tryz.underlying22 hi0 hz0 hz1 hz2 rfl _ (digs X.toNat) rfl ho2 _ _ rfl _ rfl rfl hlu0 ZO hb02.size ?_
                intro v3 w3 ho3 hk3 hv3 hbb3)
   have hb03:=hbb3 w.heap.size w (Nat.le_refl _) hb02
   have hl3:(digs X.toNat++[0]).length=lu+1:=by rw [List.length_append,Hlu.out];rfl
   obtain ⟨gu,cu,rfl,hgu0,hgu1,hcu,hcu2,-⟩:=ho3.form (by rw [hl3];omega)
   rw [hl3] at ho3 hcu ⊢
   clear hk3 hv3 hbb3 ho2 hb02 hl3
   have lit:=Rd.litG jap (w:=w3) 3 [s] #[.int .i64 s] 1 w3.heap.size rfl rfl rfl ZO
   have hbL:=(Below.refl w3.heap.size w3).alloc (Nat.le_refl _) (.cells #[.int .i64 s] 3)
   have hbL0:=hb03.trans (hbL.mono hb03.size)
   refine (Hmb.out _ _ _ (hb.up (jab _) hbL0) lit).mono ?_
   rintro e w4 ⟨⟨v4,rfl,ho4⟩,hb4⟩
   have hb04:=hbL0.trans (hb4.mono hbL0.size)
   have ho3:=ho3.below (hbL.trans (hb4.mono hbL.size))
   obtain ⟨gv,cv,rfl,hgv0,hgv1,hcv,hcv2,-⟩:=ho4.form (by rw [Hlv.out];omega)
   rw [Hlv.out] at ho4 hcv ⊢
   have hguv:gu≠gv:=by have:=hbL.size;omega
   have hgv2:w.heap.size≤gv:=by have:=hbL0.size;omega
   have hu2:gu<w4.heap.size:=by have:=hbL.size;have:=hb4.size;omega
   obtain ⟨Av4,cv4,hv4,rv4⟩:=ho4.rd jap (by rw [Hlv.out];omega)
   rw [Hlv.out] at hv4 rv4
   injection hv4 with e1 e2 e3
   subst e1 e3
   have Hof:=jpk (show digs X.toNat++[0]=ofF (lu+1) (gi (digs X.toNat++[0])) from (jjU (by rw [List.length_append,Hlu.out];rfl)).symm)
   rw [Hof.out] at ho3
   obtain ⟨M,hM⟩:∃M,lu+1=M+n2:=⟨lu+1-n2,by omega⟩
   have HM:=jpk hM
   have hM1:(((lu+1:Nat):Int)-(n2:Int))=(M:Int):=by omega
   have hM2:IntKind.i64.wrap ((((lu+1:Nat):Int)-(n2:Int)))=(M:Int):=by rw [hM1];exact IntWalk.i64_in _ ZO
   have hM3:(lu:Int)+1-(n2:Int)=(M:Int):=by omega
   have hM4:IntKind.i64.wrap ((lu:Int)+1-(n2:Int))=(M:Int):=by rw [hM3];exact IntWalk.i64_in _ ZO
   have hM0:1≤M:=by omega
   have hMb:M≤2000:=by omega
   have hwM:IntKind.i64.wrap ((M:Int)-1)=(M:Int)-1:=IntWalk.i64_in _ ZO
   have hlen:(((lu+1:Nat):Int)==(n:Int))=false:=by simp;omega
   have hlen2:((lu:Int)+1==(n:Int))=false:=by simp;omega
   have Hst:=jpk (show DivI X Y n2 (gi (digs X.toNat++[0])) (lu+1) (fun _=>0) M M from by
    have hlx:(digs X.toNat++[0]).length=lu+1:=by rw [List.length_append,Hlu.out];rfl
    have hdx:DgOk (digs X.toNat++[0]):=(jat _).1.append (DgOk.cons.2 ⟨by omega,DgOk.nil⟩)
    refine DivI.start hM hn21 (hdx.at hlx) ?_ ?_ (by rw [show n2-1=t1 by omega];exact Hy1.out)
    ·rw [←ja0 hlx,jhh,jau,HXe.out];omega
    ·rw [Nat.add_sub_cancel]
     refine jaS ?_
     rw [List.getElem?_append_right (by rw [Hlu.out];exact Nat.le_refl _),Hlu.out,Nat.sub_self]
     rfl)
   clear hM lit hbL hbL0 hb4 hb03 ho4 hgv0 hgu1
   go_wp2_with (at_make;refine jbS _ jap 0 rfl _ _ 22 rfl w.heap.size 3 i0 (.int .i64 0) Tryz.underlying22 hi0 hz0 hz1 rfl _ _ _ _ M rfl rfl Zb5 Zb5 (by rw [hz2];omega) Zb2 hb04.size ?_
                intro w5 ho5 hg5
                have hb5:Below w4.heap.size w4 w5:=(Below.refl _ _).grown hg5 (Nat.le_refl _) (by intro k hk;cases hk))
   have hb05:=hb04.trans (hb5.mono hb04.size)
   have ho3:=ho3.below hb5
   have rv5:=rv4.up (jab _) hb5
   obtain ⟨gq,hgq⟩:∃g,g=w4.heap.size:=⟨_,rfl⟩
   rw [←hgq] at ho5 hu2 hgv1 ⊢
   have hgqw:w.heap.size≤gq:=by rw [hgq];exact hb04.size
   have hgq5:gq<w5.heap.size:=(ho5.lt gq rfl).2
   clear hg5 hb5 hb04 rv4 hgq
   rw [jcs] at ho5
   go_loopg [13] M (fun gk ix wr=>∃(k:Nat) (f q:Nat→Int),k≤M∧k=gk∧ix=.int .i64 ((k:Int)-1)∧DivI X Y n2 f (lu+1) q M k∧Own 1 iEnc wr w.heap.size 3 (.slice (some ⟨gu,0,none⟩) (lu+1) cu) (ofF (lu+1) f)∧Own 1 iEnc wr w.heap.size 3 (.slice (some ⟨gq,0,none⟩) M M) (ofF M q)∧RdI wr wr.heap.size (some ⟨gv,0,none⟩) n2 cv (digs Y.toNat)∧Below w.heap.size w wr∧gq<wr.heap.size)
   case atStart=>exact ⟨M,_,_,Nat.le_refl _,rfl,rfl,Hst.out,ho3,ho5,rv5,hb05,hgq5⟩
   case round =>
    clear ho3 ho5 rv5 hb05 hgq5
    obtain ⟨k,f,q,hk,rfl,rfl,hI,hou,hoq,rv,hbel,hgq5⟩:=hrel
    have HI:=jpk hI
    clear hI
    rcases Nat.eq_zero_or_pos k with hk0|hk0
    ·subst hk0
     have HYp:=jpk (show 0<Y from by have:=Hy1.out;have:=jaX t1;omega)
     obtain ⟨f1,f2,f3⟩:=HI.out.fin HM.out HYp.out
     have Hdu:=jpk HI.out.dg
     have hs0:0<s:=by omega
     have f1':vF q M=val a / val b:=by rw [f1,HX.out,HY.out];exact jkj hs0
     have f2':vF f (lu+1)=(val a%val b)*s:=by rw [f2,HX.out,HY.out];exact jkk hs0
     have hr0:0≤val a%val b:=Int.emod_nonneg _ (by have:=Hbp.out;omega)
     have hR0:0≤vF f (lu+1):=by rw [f2'];exact Int.mul_nonneg hr0 ZO
     have hRv:val (digs (vF f (lu+1)).toNat)=vF f (lu+1):=by rw [jau];omega
     have hRq:vF f (lu+1) / s=val a%val b:=by rw [f2'];exact Int.mul_ediv_cancel _ ZO
     have hlR:(digs (vF f (lu+1)).toNat).length≤lu+1:=jaM (jcz Hdu.out)
     have Hf1:=jpk f1';have Hf3:=jpk f3;have HRv:=jpk hRv;have HRq:=jpk hRq;have HlR:=jpk hlR
     have hlQ:(digs (val a / val b).toNat).length≤M:=by rw [←f1'];exact jaM (jcz f3)
     have HlQ:=jpk hlQ
     have hlr:(digs (val a%val b).toNat).length≤10000:=by
      have h1:val a%val b<val b:=Int.emod_lt_of_pos _ Hbp.out
      have h2:=ja7 cb.1
      rw [Hlb.out] at h2
      have:=jaM (x:=val a%val b) (n:=n2) ZO
      omega
     have Hlr:=jpk hlr
     clear f1 f2 f3 f1' f2' hr0 hR0 hRv hRq hlR hlQ hlr hs0
     go_wp2_with fail
     refine (jcR w.heap.size _ _ _ _ _ hou ZO Hdu.out).mono ?_
     rintro e _ ⟨⟨v6,rfl,ho6⟩,rfl⟩
     obtain ⟨A6,c6,rfl,r6,-⟩:=ho6.rdN (by have:=HlR.out;omega)
     go_wp2_with fail
     refine (jer A6 _ c6 _ s wr r6 (jat _).1 (by have:=HlR.out;omega) ZO).mono ?_
     rintro e w7 ⟨⟨v7,rfl,ho7⟩,hb7⟩
     have hb07:=hbel.trans (hb7.mono hbel.size)
     rw [HRv.out,HRq.out] at ho7
     obtain ⟨A7,c7,rfl,r7,hf7⟩:=ho7.rdN (by have:=Hlr.out;omega)
     have hf7:=hf7.mono hbel.size
     have hoq7:=hoq.below hb7
     clear ho6 r6 ho7 hou hoq rv hb7 hbel
     go_wp2_with fail
     refine (jcR w.heap.size _ _ _ _ _ hoq7 ZO Hf3.out).mono ?_
     rintro e _ ⟨⟨v8,rfl,ho8⟩,rfl⟩
     rw [Hf1.out] at ho8
     obtain ⟨A8,c8,rfl,r8,hf8⟩:=ho8.rdN (by have:=HlQ.out;omega)
     have Hres:=jpk (Hpost.out _ _ _ _ _ _ _ r8 r7 hf8 hf7 hb07)
     clear ho8 hoq7 r7 r8 hb07
     go_wp2
     exact Hres.out
    ·obtain ⟨m,rfl⟩:∃m,k=m+1:=⟨k-1,by omega⟩
     have hYl:=Hlv.out
     have hYdg:=(jat Y.toNat).1.at hYl
     have HYv:=jpk (show Y=vF (gi (digs Y.toNat)) n2 from by
      rw [←ja0 hYl,jau];have:=Hy1.out;have:=jaX t1;omega)
     obtain ⟨b5,o5,v1,hv5,hb5',hv1,e1⟩:=rv.atI (k:=t1) k1
     injection hv5 with hv5;injection hv5 with x1 x2 x3
     subst x1 x2
     obtain ⟨b6,o6,v2,hv6,hb6',hv2,e2⟩:=rv.atI (k:=t2) ZO
     injection hv6 with hv6;injection hv6 with x1 x2 x3
     subst x1 x2
     rw [Nat.zero_add] at e1 e2
     have hv1d:=hYdg t1 k1
     have hv2d:=hYdg t2 ZO
     rw [jaS hv1] at hv1d
     rw [jaS hv2] at hv2d
     have hv10:v1≠0:=fun e=>by
      have h1:=(jat Y.toNat).2 v1 (by rw [jfa (jdb hYl hn21),hYl,show n2-1=t1 by omega,jaS hv1])
      exact h1 e
     have Hv1:=jpk (jaS hv1);have Hv2:=jpk (jaS hv2)
     have hMn:=HM.out
     obtain ⟨z1,-⟩:=hou.cellI (i:=m+n2) ZO
     obtain ⟨z2,-⟩:=hou.cellI (i:=m+t1) ZO
     obtain ⟨z3,-⟩:=hou.cellI (i:=m+t2) ZO
     have hu1d:=HI.out.dg (m+n2) ZO
     have hu2d:=HI.out.dg (m+t1) ZO
     have hu3d:=HI.out.dg (m+t2) ZO
     obtain ⟨u1,hu1⟩:∃u,f (m+n2)=u:=⟨_,rfl⟩
     obtain ⟨u2,hu2e⟩:∃u,f (m+t1)=u:=⟨_,rfl⟩
     obtain ⟨u3,hu3⟩:∃u,f (m+t2)=u:=⟨_,rfl⟩
     rw [hu1] at z1 hu1d
     rw [hu2e] at z2 hu2d
     rw [hu3] at z3 hu3d
     have Hu1:=jpk hu1;have Hu2:=jpk hu2e;have Hu3:=jpk hu3
     obtain ⟨j1,hj1⟩:∃j,j=m+n2:=⟨_,rfl⟩
     obtain ⟨j2,hj2⟩:∃j,j=m+t1:=⟨_,rfl⟩
     obtain ⟨j3,hj3⟩:∃j,j=m+t2:=⟨_,rfl⟩
     rw [←hj1] at z1
     rw [←hj2] at z2
     rw [←hj3] at z3
     have hix1:(m:Int)+(n2:Int)=(j1:Int):=by omega
     have hw1:IntKind.i64.wrap ((m:Int)+(n2:Int))=(j1:Int):=by rw [hix1];exact IntWalk.i64_in _ ZO
     have hix2:(j1:Int)-1=(j2:Int):=by omega
     have hw2:IntKind.i64.wrap ((j1:Int)-1)=(j2:Int):=by rw [hix2];exact IntWalk.i64_in _ ZO
     have hix3:(j1:Int)-2=(j3:Int):=by omega
     have hw3:IntKind.i64.wrap ((j1:Int)-2)=(j3:Int):=by rw [hix3];exact IntWalk.i64_in _ ZO
     have hin1:(j1:Int)<(lu:Int)+1:=by omega
     have hin2:(j2:Int)<(lu:Int)+1:=by omega
     have hin3:(j3:Int)<(lu:Int)+1:=by omega
     have hip1:(0:Int)≤(j1:Int):=by omega
     have hip2:(0:Int)≤(j2:Int):=by omega
     have hip3:(0:Int)≤(j3:Int):=by omega
     have Hj:=jpk (And.intro hj1 (And.intro hj2 hj3))
     have hsh1:IntKind.i64.wrap (u1*1048576)=u1*1048576:=IntWalk.i64_in _ ZO
     have hor1:=jgj u1 u2 hu1d.1 ZO hu2d.1 hu2d.2
     obtain ⟨top,htop⟩:∃t,u1*1048576+u2=t:=⟨_,rfl⟩
     rw [htop] at hor1
     have htopd:0≤top∧top<1099511627776:=by omega
     have Htop:=jpk htop
     clear hv1 hv2 hYl hYdg hu1 hu2e hu3 htop hMn hj1 hj2 hj3
     have hYp0:0<Y:=by have:=Hy1.out;have:=jaX t1;omega
     have HKn:=jpk (show Kn (winV f m n2) Y (winV f m n2 / Y) (pw t2) top u3 v1 v2 from by
      have hmn:=Hj.out
      have hMn:=HM.out
      have hY2:=HYv.out
      have hYl:=Hlv.out
      have hdY:=(jat Y.toNat).1.at hYl
      have en2:n2=t2+2:=by omega
      obtain ⟨w0',w1'⟩:=HI.out.win HM.out ZO
      have hdU:Dg (fun j=>f (m+j)) (t2+3):=fun j hj=>HI.out.dg (m+j) ZO
      obtain ⟨a1,a2⟩:=top3 hdU
      have hw:winV f m n2=vF (fun j=>f (m+j)) (t2+3):=by unfold winV;rw [en2]
      obtain ⟨b1,b2⟩:=top2 (v:=gi (digs Y.toNat)) (p:=t2) (fun j hj=>hdY j ZO)
      rw [←en2,←hY2] at b1 b2
      have c1:f (m+(t2+2))=u1:=by rw [←en2];exact Hu1.out
      have c2:f (m+(t2+1))=u2:=by rw [show t2+1=t1 by omega];exact Hu2.out
      have c3:f (m+t2)=u3:=Hu3.out
      simp only [c1,c2,c3] at a1 a2
      rw [Htop.out,←hw] at a1 a2
      rw [show t2+1=t1 by omega,Hv1.out,Hv2.out] at b1 b2
      have e:=Int.emod_add_mul_ediv (winV f m n2) Y
      have e1:=Int.emod_nonneg (winV f m n2) (b:=Y) ZO
      have e2:=Int.emod_lt_of_pos (winV f m n2) hYp0
      exact ⟨jaX t2,hu3d,hv2d,by omega,htopd.1,⟨Int.ediv_nonneg w0' ZO,Int.ediv_lt_of_lt_mul hYp0 w1'⟩,a1,a2,b1,b2,by rw [Int.mul_comm];omega,by rw [Int.add_mul,Int.one_mul,Int.mul_comm];omega⟩)
     obtain ⟨QD,hQD⟩:∃x,x=winV f m n2 / Y:=⟨_,rfl⟩
     obtain ⟨WV,hWV⟩:∃x,x=winV f m n2:=⟨_,rfl⟩
     rw [←hQD,←hWV] at HKn
     have HQD:=jpk hQD;have HWV:=jpk hWV
     clear hQD hWV
     go_wp2_with fail
     go_quiet (fail)
     rename_i nq
     have y1':(wr.drewN nq).cell? ⟨gv,t1,none⟩=some (.int .i64 v1):=e1
     have y2':(wr.drewN nq).cell? ⟨gv,t2,none⟩=some (.int .i64 v2):=e2
     have y3':(wr.drewN nq).cell? ⟨gu,j3,none⟩=some (.int .i64 u3):=z3
     have hou2:=hou.drewN nq
     have hoq2:=hoq.drewN nq
     have rv2:=rv.drewN (jab _) nq
     have hbel2:=jaH hbel nq
     have hgq6:gq<(wr.drewN nq).heap.size:=hgq5
     have rv3:RdI (wr.drewN nq) (wr.drewN nq).heap.size (some ⟨gv,0,none⟩) n2 cv (digs Y.toNat):=rv2
     clear hou hoq rv rv2 hbel e1 e2 z1 z2 z3 hgq5
     generalize wr.drewN nq=w6 at *
     have hv1z:(v1==0)=false:=by simp;omega
     have hv1p:1≤v1:=by omega
     have htd:top.tdiv v1=top / v1:=Int.tdiv_eq_ediv_of_nonneg htopd.1
     have htm:top.tmod v1=top%v1:=Int.tmod_eq_emod_of_nonneg htopd.1
     have hg0:0≤top / v1:=Int.ediv_nonneg htopd.1 ZO
     have hg1:top / v1≤top:=Int.ediv_le_self _ htopd.1
     have hr0:=Int.emod_nonneg top (b:=v1) ZO
     have hr1:=Int.emod_lt_of_pos top (show 0<v1 by omega)
     have heq:=Int.emod_add_mul_ediv top v1
     have hst:=HKn.out.start
     obtain ⟨G0,hG0⟩:=Int.eq_ofNat_of_zero_le hg0
     obtain ⟨R0,hR0⟩:∃r,top%v1=r:=⟨_,rfl⟩
     rw [hG0] at htd hg1 heq hst
     rw [hR0] at htm hr0 hr1 heq
     have hwG:IntKind.i64.wrap (G0:Int)=(G0:Int):=IntWalk.i64_in _ ZO
     have hwR:IntKind.i64.wrap R0=R0:=IntWalk.i64_in _ ZO
     have Heq:=jpk (show (G0:Int)*v1+R0=top by rw [Int.mul_comm];omega)
     have Hst:=jpk hst
     clear hG0 hR0 heq hst hg0
     go_wp2_with fail
     go_quiet (fail)
     go_wp2
     go_loopg [15,16] G0 (fun gk gg rr wx=>∃(g:Nat) (r:Int),g=gk∧gg=.int .i64 g∧rr=.int .i64 r∧(g:Int)*v1+r=top∧0≤r∧QD≤(g:Int)∧(g:Int)≤1099511627776∧∃q,wx=w6.drewN q)
     case atStart=>exact ⟨G0,R0,rfl,rfl,rfl,Heq.out,hr0,Hst.out,by omega,⟨_,rfl⟩⟩
     case round =>
      clear Heq Hst htd htm hwG hwR hg1 hr0 hr1
      obtain ⟨g,r,rfl,rfl,rfl,hgr,hr0,hqg,hgb,hq⟩:=hrel
      have Hgr:=jpk hgr;have Hqg:=jpk hqg;have Hq:=jpk hq
      have y1:=(jcZ hq ⟨gv,t1,none⟩).trans y1'
      have y2:=(jcZ hq ⟨gv,t2,none⟩).trans y2'
      have y3:=(jcZ hq ⟨gu,j3,none⟩).trans y3'
      have hrt:r≤top:=by
       have:=Int.mul_nonneg (show 0≤(g:Int) by omega) (show 0≤v1 by omega)
       omega
      clear hgr hqg hq
      have hdec:∀h:Nat,g=h+1→(1048576≤(g:Int)∨r*1048576+u3<(g:Int)*v2)→(h:Int)*v1+(r+v1)=top∧QD≤(h:Int):=fun h e hc=>by
       have h1:=HKn.out.dec Hgr.out Hqg.out hc
       have h2:=Hgr.out
       subst e
       rw [Int.natCast_add,Int.add_mul] at h2
       simp at h2
       omega
      have Hdec:=jpk hdec
      clear hdec
      have hwr:IntKind.i64.wrap (r+v1)=r+v1:=IntWalk.i64_in _ ZO
      have hj1u:(j1:Int)+1≤(cu:Int):=by omega
      have hj1m:(m:Int)≤(j1:Int)+1:=by have:=Hj.out.1;omega
      have hm00:(0:Int)≤(m:Int):=by omega
      by_cases hg:1048576≤(g:Int)
      ·have hd:decide (1048576≤(g:Int))=true:=by simpa using hg
       obtain ⟨h,hgh⟩:∃h,g=h+1:=⟨g-1,by omega⟩
       have HN:=jpk (Hdec.out h hgh (Or.inl hg))
       have hgi:(g:Int)-1=(h:Int):=by omega
       have hwgi:IntKind.i64.wrap ((g:Int)-1)=(h:Int):=by rw [hgi];exact IntWalk.i64_in _ ZO
       have hmeas:h<g:=by omega
       clear hg hgh
       exact ZQ102
      ·have hd:decide (1048576≤(g:Int))=false:=by simpa using hg
       by_cases hrb:r<1048576
       ·have hd2:decide (r<1048576)=true:=by simpa using hrb
        have hgv:=jeC (a:=(g:Int)) (b:=v2) ZO hv2d
        have hwgv:IntKind.i64.wrap ((g:Int)*v2)=(g:Int)*v2:=IntWalk.i64_in _ ZO
        have hwr2:IntKind.i64.wrap (r*1048576)=r*1048576:=IntWalk.i64_in _ ZO
        have hor:=jgj r u3 hr0 ZO hu3d.1 hu3d.2
        by_cases hc:r*1048576+u3<(g:Int)*v2
        ·have hd3:decide (r*1048576+u3<(g:Int)*v2)=true:=by simpa using hc
         have hg1:1≤g:=by
          rcases Nat.eq_zero_or_pos g with e|e
          ·rw [e] at hc
           simp at hc
           omega
          ·exact e
         obtain ⟨h,hgh⟩:∃h,g=h+1:=⟨g-1,by omega⟩
         have HN:=jpk (Hdec.out h hgh (Or.inr hc))
         have hgi:(g:Int)-1=(h:Int):=by omega
         have hwgi:IntKind.i64.wrap ((g:Int)-1)=(h:Int):=by rw [hgi];exact IntWalk.i64_in _ ZO
         have hmeas:h<g:=by omega
         clear hc hg hgv hgh
         exact ZQ102
        ·have hd3:decide (r*1048576+u3<(g:Int)*v2)=false:=by simpa using hc
         have HS:=jpk (show ((g:Int)-1)*Y≤WV from by
          rcases Nat.eq_zero_or_pos g with e|e
          ·rw [e]
           have h1:=HKn.out.ql
           have h2:=Int.mul_nonneg HKn.out.hq.1 (show 0≤Y by omega)
           simp
           omega
          ·exact HKn.out.stop Hgr.out hr0 ZO (Or.inr (Int.not_lt.1 hc)) ZO)
         have hgb2:(g:Int)<1048576:=by omega
         have HouD:=jpk (fun q=>(show Own 1 iEnc (wr.drewN q) w.heap.size 3 (.slice (some ⟨gu,0,none⟩) (lu+1) cu) (ofF (lu+1) f) from by
          obtain ⟨q0,hq0⟩:=Hq.out;rw [hq0];exact (hou2.drewN q0).drewN q))
         have HoqD:=jpk (fun q'=>(show Own 1 iEnc (wr.drewN q') w.heap.size 3 (.slice (some ⟨gq,0,none⟩) M M) (ofF M q) from by
          obtain ⟨q0,hq0⟩:=Hq.out;rw [hq0];exact (hoq2.drewN q0).drewN q'))
         have HrvD:=jpk (fun q'=>(show RdI (wr.drewN q') (wr.drewN q').heap.size (some ⟨gv,0,none⟩) n2 cv (digs Y.toNat) from by
          obtain ⟨q0,hq0⟩:=Hq.out;rw [hq0];exact (rv3.drewN (jab _) q0).drewN (jab _) q'))
         have HbD:=jpk (fun q'=>(show Below w.heap.size w (wr.drewN q')∧gq<(wr.drewN q').heap.size from by
          obtain ⟨q0,hq0⟩:=Hq.out;rw [hq0];exact ⟨jaH (jaH hbel2 q0) q',hgq6⟩))
         have hjm1:n2+1≤j1+1-m:=by have:=Hj.out.1;omega
         have hjm2:j1+1-m≤n2+1:=by have:=Hj.out.1;omega
         clear hc
         exact ZQ13
       ·have hd2:decide (r<1048576)=false:=by simpa using hrb
        have HS:=jpk (show ((g:Int)-1)*Y≤WV from by
         rcases Nat.eq_zero_or_pos g with e|e
         ·rw [e]
          have h1:=HKn.out.ql
          have h2:=Int.mul_nonneg HKn.out.hq.1 (show 0≤Y by omega)
          simp
          omega
         ·exact HKn.out.stop Hgr.out hr0 ZO (Or.inl ZO) ZO)
        have hgb2:(g:Int)<1048576:=by omega
        have HouD:=jpk (fun q=>(show Own 1 iEnc (wr.drewN q) w.heap.size 3 (.slice (some ⟨gu,0,none⟩) (lu+1) cu) (ofF (lu+1) f) from by
         obtain ⟨q0,hq0⟩:=Hq.out;rw [hq0];exact (hou2.drewN q0).drewN q))
        have HoqD:=jpk (fun q'=>(show Own 1 iEnc (wr.drewN q') w.heap.size 3 (.slice (some ⟨gq,0,none⟩) M M) (ofF M q) from by
         obtain ⟨q0,hq0⟩:=Hq.out;rw [hq0];exact (hoq2.drewN q0).drewN q'))
        have HrvD:=jpk (fun q'=>(show RdI (wr.drewN q') (wr.drewN q').heap.size (some ⟨gv,0,none⟩) n2 cv (digs Y.toNat) from by
         obtain ⟨q0,hq0⟩:=Hq.out;rw [hq0];exact (rv3.drewN (jab _) q0).drewN (jab _) q'))
        have HbD:=jpk (fun q'=>(show Below w.heap.size w (wr.drewN q')∧gq<(wr.drewN q').heap.size from by
         obtain ⟨q0,hq0⟩:=Hq.out;rw [hq0];exact ⟨jaH (jaH hbel2 q0) q',hgq6⟩))
        have hjm1:n2+1≤j1+1-m:=by have:=Hj.out.1;omega
        have hjm2:j1+1-m≤n2+1:=by have:=Hj.out.1;omega
        clear hrb
        exact ZQ13
end Go.Proofs.YtgikfcjndiohjaaGreat
