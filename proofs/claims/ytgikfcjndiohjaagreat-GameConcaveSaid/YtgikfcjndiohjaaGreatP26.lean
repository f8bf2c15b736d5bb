/- Laws and walks; conditions stand in each theorem. -/
import Derived.BigRegion
import Derived.Test.YtgikfcjndiohjaaGreatP18
import Derived.Test.YtgikfcjndiohjaaGreatP21
set_option linter.unusedSimpArgs false
set_option linter.unusedVariables false
set_option maxHeartbeats 8000000
set_option maxRecDepth 100000
namespace Go.Proofs.YtgikfcjndiohjaaGreat
open Go.RowKit
def XcQ (N r s k:Nat) (b b':Bool) (Y Y':Nat→Rw) (V V':Nat→Nat→Rw):Prop :=
 FulK b b' (∀i,i<k→i≠r→jaP (Y i).q (V i s).q (Y r).q=true∧TkF N i r s V)∧(∀i,(k≤i∨i=r)→Y' i=Y i∧∀j,V' i j=V i j)∧∀i,i<k→i≠r→(jaP (Y i).q (V i s).q (Y r).q=true→(Y' i).q=(Y i).q-(V i s).q*(Y r).q)∧∀j,j<N→jaP (if j=s then 0 else (V i j).q) (V i s).q (V r j).q=true→(V' i j).q=(if j=s then 0 else (V i j).q)-(V i s).q*(V r j).q
theorem XcQ.zero (N r s:Nat) (b:Bool) (Y:Nat→Rw) (V:Nat→Nat→Rw):XcQ N r s 0 b b Y Y V V :=
 ⟨⟨fun h=>⟨h,fun j hj=>absurd hj ZO⟩,fun h=>h.1⟩,fun i _=>⟨rfl,fun _=>rfl⟩,fun i hi=>absurd hi ZO⟩
theorem XcQ.skip {N r s:Nat} {b b':Bool} {Y Y':Nat→Rw} {V V':Nat→Nat→Rw} (h:XcQ N r s r b b' Y Y' V V'):XcQ N r s (r+1) b b' Y Y' V V' :=
 ⟨h.1.congr ⟨fun h i hi hne=>h i ZO hne,fun h i hi hne=>h i ZO hne⟩,fun i hi=>h.2.1 i ZO,fun i hi hne=>h.2.2 i ZO hne⟩
theorem TkF.congr {N i r s:Nat} {V V':Nat→Nat→Rw} (h1:∀j,V' i j=V i j) (h2:∀j,V' r j=V r j):TkF N i r s V'↔TkF N i r s V:=by
 unfold TkF
 simp only [h1,h2]
theorem XcQ.step {N r s k:Nat} {b b' b2:Bool} {Y Y' Y2:Nat→Rw} {V V' V2:Nat→Nat→Rw} (h:XcQ N r s k b b' Y Y' V V') (hkr:k≠r) (h1:FulK b' b2 (TkY false k r s Y' V'∧TkF N k r s V')) (h2:TkV N k r s V' V2) (h3:TkW false k r s Y' V' Y2):XcQ N r s (k+1) b b2 Y Y2 V V2:=by
 obtain ⟨g1,g2,g3⟩:=h
 obtain ⟨e1,e2⟩:=g2 k (Or.inl (Nat.le_refl _))
 obtain ⟨e3,e4⟩:=g2 r (Or.inr rfl)
 unfold TkY at h1
 unfold TkW at h3
 rw [TkF.congr e2 e4,e1,e2,e3] at h1
 rw [e1,e2,e3] at h3
 refine ⟨(g1.trans h1).congr ⟨fun hh i hi hne=>?_,fun hh=>⟨fun i hi hne=>hh i ZO hne,fun _=>(hh k ZO hkr).1,(hh k ZO hkr).2⟩⟩,fun i hi=>?_,fun i hi hne=>?_⟩
 ·by_cases e:i=k
  ·rw [e];exact ⟨hh.2.1 rfl,hh.2.2⟩
  ·exact hh.1 i ZO hne
 ·have hne:i≠k:=by omega
  obtain ⟨a1,a2⟩:=g2 i ZO
  exact ⟨(h3.1 i hne).trans a1,fun j=>(h2.1 i j hne).trans (a2 j)⟩
 ·by_cases e:i=k
  ·rw [e]
   refine ⟨h3.2.2 rfl,fun j hj hk=>?_⟩
   have:=h2.2 j hj
   rw [e2,e2,e4] at this
   exact this hk
  ·obtain ⟨a1,a2⟩:=g3 i ZO hne
   refine ⟨fun hk=>?_,fun j hj hk=>?_⟩
   ·rw [h3.1 i e]
    exact a1 hk
   ·rw [h2.1 i j e]
    exact a2 j hj hk
def dcOf (m:Nat) (Y:Nat→Rw) (V:Nat→Nat→Rw) (own free:Nat→Nat):Dc:=⟨fun i=>(Y i).q,fun i j=>(V i j).q,fun j=>(V m j).q,own,free⟩
structure Dc.Eqv (m n:Nat) (D D':Dc):Prop where
 v:∀i,i<m→D.v i=D'.v i
 a:∀i j,i<m→j<n→D.a i j=D'.a i j
 c:∀j,j<n→D.c j=D'.c j
 own:∀i,i<m→D.own i=D'.own i
 free:∀j,j<n→D.free j=D'.free j
theorem Dc.fitX_iff {m n r s:Nat} {D:Dc}:D.fitX m n r s=true↔divK (D.v r) (D.a r s)=true∧(∀j,j<n→divK (if j=s then 1 else D.a r j) (D.a r s)=true)∧(∀i,i<m→i≠r→jaP (D.v i) (D.a i s) (D.v r / D.a r s)=true∧∀j,j<n→jaP (if j=s then 0 else D.a i j) (D.a i s) ((if j=s then 1 else D.a r j) / D.a r s)=true)∧∀j,j<n→jaP (if j=s then 0 else D.c j) (D.c s) ((if j=s then 1 else D.a r j) / D.a r s)=true:=by
 have e:∀x y z,lesK x y z=jaP x y z:=fun x y z=>rfl
 unfold Dc.fitX
 simp only [Bool.and_eq_true,Bool.or_eq_true,decide_eq_true_eq,List.all_eq_true,List.mem_range,e,and_assoc]
 refine and_congr Iff.rfl (and_congr Iff.rfl (and_congr ⟨fun h i hi hne=>?_,fun h i hi=>?_⟩ Iff.rfl))
 ·rcases h i hi with h|h
  ·exact absurd h hne
  ·exact h
 ·by_cases hne:i=r
  ·exact Or.inl hne
  ·exact Or.inr (h i hi hne)
theorem jpj {m N r s:Nat} {b b1 b9 b3 b4:Bool} {Y Y1 Y3 Y4:Nat→Rw} {V V9 V3 V4:Nat→Nat→Rw} {own free:Nat→Nat} {p:Rat} (hp:p=(V r s).q) (hr:r<m) (hs:s<N)
 (h1:FulK b b1 (divK (Y r).q p=true)) (h2:(∀k,k≠r→Y1 k=Y k)∧(divK (Y r).q p=true→(Y1 r).q=(Y r).q / p))
 (h3:FulK b1 b9 (DvF N r s p V)) (h4:DvV N r s p V V9) (h5:XcQ N r s m b9 b3 Y1 Y3 V9 V3)
 (h6:FulK b3 b4 (TkY true m r s Y3 V3∧TkF N m r s V3)) (h7:TkV N m r s V3 V4) (h8:TkW true m r s Y3 V3 Y4) :
 FulK b b4 ((dcOf m Y V own free).fitX m N r s=true)∧((dcOf m Y V own free).fitX m N r s=true→(dcOf m Y4 V4 (putF own r (free s)) (putF free s (own r))).Eqv m N ((dcOf m Y V own free).xch r s)):=by
 obtain ⟨k1,k2,k3⟩:=h5
 obtain ⟨m1,m2⟩:=k2 m (Or.inl (Nat.le_refl _))
 obtain ⟨m3,m4⟩:=k2 r (Or.inr rfl)
 have h8:=h8.2.1 rfl
 subst h8
 unfold TkY at h6
 rw [TkF.congr m2 m4] at h6
 have hv:∀i j,i≠r→V9 i j=V i j:=fun i j hne=>h4.1 i j hne
 have hvr:(∀j,j<N→divK (if j=s then 1 else (V r j).q) p=true)→∀j,j<N→(V9 r j).q=(if j=s then 1 else (V r j).q) / p:=fun hk j hj=>h4.2 j hj (hk j hj)
 have hmr:m≠r:=by omega
 have key:(divK (Y r).q p=true∧DvF N r s p V)→(((∀i,i<m→i≠r→jaP (Y1 i).q (V9 i s).q (Y1 r).q=true∧TkF N i r s V9)∧TkF N m r s V9)↔((∀i,i<m→i≠r→jaP (Y i).q (V i s).q ((Y r).q / p)=true∧∀j,j<N→jaP (if j=s then 0 else (V i j).q) (V i s).q ((if j=s then 1 else (V r j).q) / p)=true)∧∀j,j<N→jaP (if j=s then 0 else (V m j).q) (V m s).q ((if j=s then 1 else (V r j).q) / p)=true)):=fun ⟨c1,c2⟩=>by
  have e1:=h2.2 c1
  have e2:=hvr c2
  have tk:∀i,i≠r→(TkF N i r s V9↔∀j,j<N→jaP (if j=s then 0 else (V i j).q) (V i s).q ((if j=s then 1 else (V r j).q) / p)=true):=fun i hne=>by
   unfold TkF
   refine forall_congr' fun j=>forall_congr' fun hj=>?_
   rw [e2 j hj,hv i j hne,hv i s hne]
  refine and_congr (forall_congr' fun i=>forall_congr' fun hi=>forall_congr' fun hne=>?_) (tk m hmr)
  rw [tk i hne,e1,h2.1 i hne,hv i s hne]
 have hful:FulK b b4 ((dcOf m Y V own free).fitX m N r s=true):=by
  refine (((h1.trans h3).trans k1).trans h6).congr ?_
  rw [Dc.fitX_iff]
  show _↔divK (Y r).q (V r s).q=true∧(∀j,j<N→divK (if j=s then 1 else (V r j).q) (V r s).q=true)∧(∀i,i<m→i≠r→jaP (Y i).q (V i s).q ((Y r).q / (V r s).q)=true∧∀j,j<N→jaP (if j=s then 0 else (V i j).q) (V i s).q ((if j=s then 1 else (V r j).q) / (V r s).q)=true)∧∀j,j<N→jaP (if j=s then 0 else (V m j).q) (V m s).q ((if j=s then 1 else (V r j).q) / (V r s).q)=true
  rw [←hp]
  constructor
  ·rintro ⟨⟨⟨c1,c2⟩,c3⟩,-,c4⟩
   obtain ⟨d1,d2⟩:=(key ⟨c1,c2⟩).1 ⟨c3,c4⟩
   exact ⟨c1,c2,d1,d2⟩
  ·rintro ⟨c1,c2,d1,d2⟩
   obtain ⟨c3,c4⟩:=(key ⟨c1,c2⟩).2 ⟨d1,d2⟩
   exact ⟨⟨⟨c1,c2⟩,c3⟩,(fun e=>by cases e),c4⟩
 refine ⟨hful,fun hf=>?_⟩
 rw [Dc.fitX_iff] at hf
 change divK (Y r).q (V r s).q=true∧(∀j,j<N→divK (if j=s then 1 else (V r j).q) (V r s).q=true)∧(∀i,i<m→i≠r→jaP (Y i).q (V i s).q ((Y r).q / (V r s).q)=true∧∀j,j<N→jaP (if j=s then 0 else (V i j).q) (V i s).q ((if j=s then 1 else (V r j).q) / (V r s).q)=true)∧(∀j,j<N→jaP (if j=s then 0 else (V m j).q) (V m s).q ((if j=s then 1 else (V r j).q) / (V r s).q)=true) at hf
 rw [←hp] at hf
 obtain ⟨c1,c2,d1,d2⟩:=hf
 obtain ⟨c3,c4⟩:=(key ⟨c1,c2⟩).2 ⟨d1,d2⟩
 have e1:=h2.2 c1
 have e2:=hvr c2
 refine ⟨fun i hi=>?_,fun i j hi hj=>?_,fun j hj=>?_,fun i hi=>?_,fun j hj=>?_⟩
 ·show (Y4 i).q=if i=r then (Y r).q / (V r s).q else (Y i).q-(V i s).q*((Y r).q / (V r s).q)
  rw [←hp]
  by_cases e:i=r
  ·rw [if_pos e,e,m3,e1]
  ·rw [if_neg e,(k3 i hi e).1 (c3 i hi e).1,e1,h2.1 i e,hv i s e]
 ·show (V4 i j).q=if i=r then (if j=s then 1 / (V r s).q else (V r j).q / (V r s).q) else (if j=s then 0-(V i s).q*(1 / (V r s).q) else (V i j).q-(V i s).q*((V r j).q / (V r s).q))
  rw [←hp,h7.1 i j ZO]
  by_cases e:i=r
  ·rw [if_pos e,e,m4,e2 j hj]
   split <;> rfl
  ·rw [if_neg e,(k3 i hi e).2 j hj ((c3 i hi e).2 j hj),e2 j hj,hv i j e,hv i s e]
   split <;> rfl
 ·show (V4 m j).q=if j=s then 0-(V m s).q*(1 / (V r s).q) else (V m j).q-(V m s).q*((V r j).q / (V r s).q)
  have:=h7.2 j hj
  rw [m2,m2,m4] at this
  rw [←hp,this (c4 j hj),e2 j hj,hv m j hmr,hv m s hmr]
  split <;> rfl
 ·show putF own r (free s) i=if i=r then free s else own i
  by_cases e:i=r
  ·rw [if_pos e,e,jaf]
  ·rw [if_neg e,jad e]
 ·show putF free s (own r) j=if j=s then own r else free j
  by_cases e:j=s
  ·rw [if_pos e,e,jaf]
  ·rw [if_neg e,jad e]
def psi (n:Nat) (A:Nat→Nat→Rat) (u l:Nat):Rat:=if u<n then (if u=l then 1 else 0) else-A (u-n) l
def bet (n:Nat) (b:Nat→Rat) (u:Nat):Rat:=if u<n then 0 else b (u-n)
structure Dua (m n:Nat) (A:Nat→Nat→Rat) (b c:Nat→Rat) (D:Dc):Prop where
 row:∀l,l<n→∀i,i<m→smQ (fun j=>psi n A (D.free j) l*D.a i j) n= - psi n A (D.own i) l
 gol:∀l,l<n→smQ (fun j=>psi n A (D.free j) l*D.c j) n=c l
 val:∀i,i<m→D.v i=bet n b (D.own i)+smQ (fun j=>bet n b (D.free j)*D.a i j) n
theorem smA {n s:Nat} (hs:s<n) (f e a:Nat→Rat) (p o:Rat) (hp:a s=p) (h0:p≠0):smQ (fun j=>(if j=s then o else f j)*(if j=s then 0-e s*(1 / p) else e j-e s*(a j / p))) n=smQ (fun j=>f j*e j) n-e s / p*(smQ (fun j=>f j*a j) n+o):=by
 have e1:smQ (fun j=>f j*(e j-e s*(a j / p))) n=smQ (fun j=>f j*e j) n-smQ (fun j=>f j*a j) n*(e s / p):=by
  rw [←ja6,←jec]
  exact jaj fun k _=>by grind
 rw [jc3 (f:=fun j=>f j*(e j-e s*(a j / p))) (b:=s) (c:= - (o*(e s*(1 / p)))) hs (by
  rw [if_pos rfl,if_pos rfl,hp]
  grind) (fun i _ hne=>by rw [if_neg hne,if_neg hne]),e1]
 grind
theorem smB {n s:Nat} (hs:s<n) (f a:Nat→Rat) (p o:Rat) (hp:a s=p) (h0:p≠0):smQ (fun j=>(if j=s then o else f j)*(if j=s then 1 / p else a j / p)) n=(smQ (fun j=>f j*a j) n+o) / p-f s:=by
 have e1:smQ (fun j=>f j*(a j / p)) n=smQ (fun j=>f j*a j) n*(1 / p):=by
  rw [←ja6]
  exact jaj fun k _=>by grind
 rw [jc3 (f:=fun j=>f j*(a j / p)) (b:=s) (c:=o*(1 / p)-f s) hs (by
  rw [if_pos rfl,if_pos rfl,hp]
  grind) (fun i _ hne=>by rw [if_neg hne,if_neg hne]),e1]
 grind
section
variable {m n r s:Nat} {A:Nat→Nat→Rat} {b c:Nat→Rat} {D:Dc}
theorem Dua.opn:Dua m n A b c (opnD n A b c):=by
 have one:∀l,l<n→∀f:Nat→Rat,smQ (fun j=>psi n A j l*f j) n=f l:=fun l hl f=>by
  rw [jcg hl (fun k hk hne=>by unfold psi;rw [if_pos hk,if_neg hne];grind)]
  unfold psi
  rw [if_pos hl,if_pos rfl]
  grind
 refine ⟨fun l hl i hi=>?_,fun l hl=>one l hl c,fun i hi=>?_⟩
 ·refine (one l hl (A i)).trans ?_
  show A i l= - psi n A (n+i) l
  unfold psi
  rw [if_neg ZO,show n+i-n=i by omega]
  grind
 ·have e1:smQ (fun j=>bet n b j*A i j) n=0:=by
   rw [jaj (g:=fun _=>0) fun j hj=>by unfold bet;rw [if_pos hj];grind]
   exact jaL fun _ _=>rfl
  show b i=bet n b (n+i)+smQ (fun j=>bet n b j*A i j) n
  rw [e1]
  unfold bet
  rw [if_neg ZO,show n+i-n=i by omega]
  grind
theorem xsumE (hs:s<n) (h0:D.a r s≠0) (F:Nat→Rat) {i:Nat} (hi:i≠r):smQ (fun j=>F ((D.xch r s).free j)*(D.xch r s).a i j) n=smQ (fun j=>F (D.free j)*D.a i j) n-D.a i s / D.a r s*(smQ (fun j=>F (D.free j)*D.a r j) n+F (D.own r)):=by
 rw [←smA hs (fun j=>F (D.free j)) (fun j=>D.a i j) (fun j=>D.a r j) (D.a r s) (F (D.own r)) rfl h0]
 refine jaj fun j hj=>?_
 show F (if j=s then D.own r else D.free j)*(if i=r then (if j=s then 1 / D.a r s else D.a r j / D.a r s) else (if j=s then 0-D.a i s*(1 / D.a r s) else D.a i j-D.a i s*(D.a r j / D.a r s)))=_
 rw [if_neg hi]
 exact jnu
theorem xsumR (hs:s<n) (h0:D.a r s≠0) (F:Nat→Rat):smQ (fun j=>F ((D.xch r s).free j)*(D.xch r s).a r j) n=(smQ (fun j=>F (D.free j)*D.a r j) n+F (D.own r)) / D.a r s-F (D.free s):=by
 rw [←smB hs (fun j=>F (D.free j)) (fun j=>D.a r j) (D.a r s) (F (D.own r)) rfl h0]
 refine jaj fun j hj=>?_
 show F (if j=s then D.own r else D.free j)*(if r=r then (if j=s then 1 / D.a r s else D.a r j / D.a r s) else _)=_
 rw [if_pos rfl]
 exact jnu
theorem xsumC (hs:s<n) (h0:D.a r s≠0) (F:Nat→Rat):smQ (fun j=>F ((D.xch r s).free j)*(D.xch r s).c j) n=smQ (fun j=>F (D.free j)*D.c j) n-D.c s / D.a r s*(smQ (fun j=>F (D.free j)*D.a r j) n+F (D.own r)):=by
 rw [←smA hs (fun j=>F (D.free j)) (fun j=>D.c j) (fun j=>D.a r j) (D.a r s) (F (D.own r)) rfl h0]
 refine jaj fun j hj=>?_
 show F (if j=s then D.own r else D.free j)*(if j=s then 0-D.c s*(1 / D.a r s) else D.c j-D.c s*(D.a r j / D.a r s))=_
 exact jnu
theorem Dua.xch (h:Dua m n A b c D) (hr:r<m) (hs:s<n) (h0:D.a r s≠0):Dua m n A b c (D.xch r s):=by
 have ow:∀i,(D.xch r s).own i=if i=r then D.free s else D.own i:=fun i=>rfl
 refine ⟨fun l hl i hi=>?_,fun l hl=>?_,fun i hi=>?_⟩
 ·by_cases e:i=r
  ·rw [e,xsumR hs h0 (fun u=>psi n A u l),h.row l hl r hr,ow,if_pos rfl]
   grind
  ·rw [xsumE hs h0 (fun u=>psi n A u l) e,h.row l hl i hi,h.row l hl r hr,ow,if_neg e]
   grind
 ·rw [xsumC hs h0 (fun u=>psi n A u l),h.gol l hl,h.row l hl r hr]
  grind
 ·have hv:=h.val r hr
  have hv':(D.xch r s).v i=if i=r then D.v r / D.a r s else D.v i-D.a i s*(D.v r / D.a r s):=rfl
  by_cases e:i=r
  ·rw [e] at hv' ⊢
   rw [hv',if_pos rfl,xsumR hs h0 (fun u=>bet n b u),ow,if_pos rfl,hv]
   grind
  ·rw [hv',if_neg e,xsumE hs h0 (fun u=>bet n b u) e,ow,if_neg e,h.val i hi,hv]
   grind
def colM (n:Nat) (A:Nat→Nat→Rat) (D:Dc) (l j:Nat):Rat:=psi n A (D.free j) l
theorem jeV (hn:n≤4):det4 (padM n (colM n A (opnD n A b c)))≠0:=by
 have e:∀i k,padM n (colM n A (opnD n A b c)) i k=if i=k then 1 else 0:=fun i k=>by
  unfold padM
  by_cases h:i<n∧k<n
  ·rw [if_pos h]
   show psi n A k i=_
   unfold psi
   rw [if_pos h.2]
   by_cases e:k=i
   ·rw [if_pos e,if_pos e.symm]
   ·rw [if_neg e,if_neg (fun h=>e h.symm)]
  ·rw [if_neg h]
 unfold det4 D4
 simp only [e]
 simp
 grind
theorem jgE (hn:n≤4) (h:Dua m n A b c D) (hr:r<m) (hs:s<n) (h0:D.a r s≠0) (hd:det4 (padM n (colM n A D))≠0):det4 (padM n (colM n A (D.xch r s)))≠0:=by
 have h1:=jnG hn (M:=colM n A D) (z:=fun j=> - D.a r j) (h:=fun l=>psi n A (D.own r) l) (fun l hl=>by
  have h2:=h.row l hl r hr
  have e:smQ (fun k=>colM n A D l k* -D.a r k) n=smQ (fun j=>(psi n A (D.free j) l*D.a r j)*(-1)) n:=jaj fun k _=>by unfold colM;grind
  rw [e,ja6,h2]
  grind) hs
 have e:det4 (padM n (colM n A (D.xch r s)))= - D.a r s*det4 (padM n (colM n A D)):=by
  rw [←h1]
  refine jet fun i k hi hk=>?_
  unfold padM
  congr 1
  show psi n A (if k=s then D.own r else D.free k) i=if k=s then psi n A (D.own r) i else psi n A (D.free k) i
  split <;> rfl
 rw [e]
 intro h2
 rcases Rat.mul_eq_zero.1 h2 with h2|h2
 ·exact h0 (by grind)
 ·exact hd h2
end
structure Sm01 (m n:Nat) (A:Nat→Nat→Rat) (b c:Nat→Rat):Prop where
 hn:n≤3
 A01:∀i l,i<m→l<n→IsI (A i l) 1
 c01:∀l,l<n→IsI (c l) 1
 bI:∀i,i<m→IsI (b i) 1000000000000000
section
variable {m n r s:Nat} {A:Nat→Nat→Rat} {b c:Nat→Rat} {D:Dc}
theorem Sm01.psi (h:Sm01 m n A b c) {u l:Nat} (hu:u<n+m) (hl:l<n):IsI (psi n A u l) 1:=by
 unfold Go.Proofs.YtgikfcjndiohjaaGreat.psi
 split
 ·split
  ·exact IsI.one Zb4
  ·exact IsI.zero Zb4
 ·exact (h.A01 _ _ ZO hl).neg
theorem Sm01.bet (h:Sm01 m n A b c) {u:Nat} (hu:u<n+m):IsI (bet n b u) 1000000000000000:=by
 unfold Go.Proofs.YtgikfcjndiohjaaGreat.bet
 split
 ·exact IsI.zero Zb4
 ·exact h.bI _ ZO
theorem jgk {M:Nat→Nat→Rat} (h:∀i k,i<n→k<n→IsI (M i k) 1):IsI (det4 (padM n M)) 24:=by
 have h1:=jk2 (M:=padM n M) (B:=1) fun i k _ _=>by
  unfold padM
  split
  ·rename_i hh
   exact h i k hh.1 hh.2
  ·split
   ·exact IsI.one Zb4
   ·exact IsI.zero Zb4
 exact h1.mono Zb4
theorem Sm01.keys (h:Sm01 m n A b c) (hD:D.Ok m n) (hU:Dua m n A b c D) (hd:det4 (padM n (colM n A D))≠0):∃K:Int,((K:Int):Rat)≠0∧(K.natAbs:Int)≤24∧(∀i j,i<m→j<n→IsI (D.a i j*((K:Int):Rat)) 24)∧(∀j,j<n→IsI (D.c j*((K:Int):Rat)) 24)∧∀i,i<m→IsI (D.v i*((K:Int):Rat)) 96000000000000000:=by
 have hn4:n≤4:=by have:=h.hn;omega
 have hM:∀i k,i<n→k<n→IsI (colM n A D i k) 1:=fun i k hi hk=>h.psi (hD.lf k hk) hi
 obtain ⟨K,hK,hK2⟩:=jgk hM
 rw [hK] at hd
 have ha:∀i j,i<m→j<n→IsI (D.a i j*((K:Int):Rat)) 24:=fun i j hi hj=>by
  have h1:=jnG hn4 (M:=colM n A D) (z:=fun j=>D.a i j) (h:=fun l=> - Go.Proofs.YtgikfcjndiohjaaGreat.psi n A (D.own i) l) (fun l hl=>hU.row l hl i hi) hj
  rw [hK] at h1
  rw [←h1]
  refine jgk fun l k hl hk=>?_
  show IsI (if k=j then _ else _) 1
  split
  ·exact (h.psi (hD.lo i hi) hl).neg
  ·exact hM l k hl hk
 have hc:∀j,j<n→IsI (D.c j*((K:Int):Rat)) 24:=fun j hj=>by
  have h1:=jnG hn4 (M:=colM n A D) (z:=fun j=>D.c j) (h:=c) (fun l hl=>hU.gol l hl) hj
  rw [hK] at h1
  rw [←h1]
  refine jgk fun l k hl hk=>?_
  show IsI (if k=j then _ else _) 1
  split
  ·exact h.c01 l hl
  ·exact hM l k hl hk
 refine ⟨K,hd,hK2,ha,hc,fun i hi=>?_⟩
 have hs:∀q,q≤n→IsI (smQ (fun j=>Go.Proofs.YtgikfcjndiohjaaGreat.bet n b (D.free j)*D.a i j) q*((K:Int):Rat)) (q*(1000000000000000*24)):=fun q hq=>by
  induction q with
  | zero =>
   rw [smQ,Rat.zero_mul]
   exact IsI.zero ZO
  | succ q ih =>
   rw [smQ,Rat.add_mul,Rat.mul_assoc]
   have:=(ih ZO).add ((h.bet (hD.lf q ZO)).mul (ha i q hi ZO))
   exact this.mono (by push_cast;omega)
 have h1:=((h.bet (hD.lo i hi)).mul (IsI.mono ⟨K,rfl,Int.le_refl _⟩ hK2)).add (hs n (Nat.le_refl n))
 rw [←Rat.add_mul,←hU.val i hi] at h1
 have hq:(n:Int)≤3:=by have:=h.hn;omega
 exact h1.mono ZO
theorem Sm01.nums (h:Sm01 m n A b c) (hD:D.Ok m n) (hU:Dua m n A b c D) (hd:det4 (padM n (colM n A D))≠0):(∀i j,i<m→j<n→Pt 1 (D.a i j))∧(∀j,j<n→Pt 1 (D.c j))∧∀i,i<m→Pt 3 (D.v i):=by
 obtain ⟨K,h0,h1,ha,hc,hv⟩:=h.keys hD hU hd
 have p1:(24:Int)<pw 1:=by decide
 have p3:(96000000000000000:Int)<pw 3:=by decide
 have p4:(24:Int)<pw 3:=by decide
 exact ⟨fun i j hi hj=>(ha i j hi hj).pt h0 ZO p1,fun j hj=>(hc j hj).pt h0 ZO p1,fun i hi=>(hv i hi).pt h0 ZO p3⟩
theorem Pt.div {j k:Nat} {x y:Rat} (hx:Pt j x) (hy:Pt k y) (h0:y≠0) (hjk:j+k≤60):divK x y=true∧Pt (j+k) (x / y):=by
 have hl:pw (j+k)≤pw 60:=jbY hjk
 have b1:((x.num*(y.den:Int)).natAbs:Int)<pw (j+k):=jbQ hx.1 (by have:=hy.2;omega)
 have b2:(((x.den:Int)*y.num).natAbs:Int)<pw (j+k):=jbQ (by have:=hx.2;omega) hy.1
 refine ⟨?_,?_⟩
 ·unfold divK fits
  rw [Bool.and_eq_true,decide_eq_true_eq,decide_eq_true_eq]
  omega
 ·have e:x / y*(((x.den:Int)*y.num:Int):Rat)=((x.num*(y.den:Int):Int):Rat):=by
   rw [Rat.intCast_mul,Rat.intCast_mul]
   have hx1:=jj6 x
   have hy1:=jj6 y
   have hyd:(((y.den:Nat):Int):Rat)≠0:=jna (jbr y)
   generalize (((x.den:Nat):Int):Rat)=xd at *
   generalize (((y.den:Nat):Int):Rat)=yd at *
   rw [←hx1,←hy1]
   grind
  have hne:(((x.den:Int)*y.num:Int):Rat)≠0:=by
   intro h
   rw [Rat.intCast_eq_zero_iff] at h
   rcases Int.mul_eq_zero.1 h with h|h
   ·have:=jbr x
    omega
   ·exact h0 (Rat.num_eq_zero.1 h)
  exact IsI.pt ⟨_,e,Int.le_refl _⟩ hne b2 b1
theorem jjK {i j k:Nat} {x f q:Rat} (hx:Pt i x) (hf:Pt j f) (hq:Pt k q) (h:i+(j+k)+1≤60):jaP x f q=true:=by
 unfold jaP
 rw [(hf.mul hq ZO).1,(hx.add (hf.mul hq ZO).2.neg ZO).1]
 rfl
theorem zpt {p:Prop} [Decidable p] {x:Rat} (h:Pt 1 x):Pt 1 (if p then 0 else x):=by
 split
 ·exact Pt.zero
 ·exact h
theorem Sm01.fit (h:Sm01 m n A b c) (hD:D.Ok m n) (hU:Dua m n A b c D) (hd:det4 (padM n (colM n A D))≠0) (hr:r<m) (hs:s<n) (h0:D.a r s≠0):D.fitX m n r s=true:=by
 obtain ⟨ha,hc,hv⟩:=h.nums hD hU hd
 have one:∀j,j<n→Pt 1 (if j=s then 1 else D.a r j):=fun j hj=>by
  split
  ·exact Pt.one
  ·exact ha r j hr hj
 rw [Dc.fitX_iff]
 refine ⟨((hv r hr).div (ha r s hr hs) h0 ZO).1,fun j hj=>((one j hj).div (ha r s hr hs) h0 ZO).1,fun i hi hne=>⟨jjK (hv i hi) (ha i s hi hs) ((hv r hr).div (ha r s hr hs) h0 ZO).2 ZO,fun j hj=>jjK (zpt (ha i j hi hj)) (ha i s hi hs) ((one j hj).div (ha r s hr hs) h0 ZO).2 ZO⟩,fun j hj=>jjK (zpt (hc j hj)) (hc s hs) ((one j hj).div (ha r s hr hs) h0 ZO).2 ZO⟩
theorem Sm01.srch (h:Sm01 m n A b c) {R:Option Dc} (hS:Srch m n D R) (hD:D.Ok m n) (hU:Dua m n A b c D) (hd:det4 (padM n (colM n A D))≠0):R≠none:=by
 have hn4:n≤4:=by have:=h.hn;omega
 induction hS with
 | stop _=>simp
 | full hp hf =>
  obtain ⟨h1,h2,-⟩:=Dc.pick_swap hD hp
  rw [h.fit hD hU hd h1 h2 (jdw hD hp)] at hf
  cases hf
 | step hp hf hR ih =>
  obtain ⟨h1,h2,-⟩:=Dc.pick_swap hD hp
  have h3:=jdw hD hp
  exact ih (hD.xch h1 h2) (hU.xch h1 h2 h3) (jgE hn4 hU h1 h2 h3 hd)
theorem Sm01.says (h:Sm01 m n A b c) {E:jem} (hE:jaZ m n A b c E):E≠.full:=by
 have hn4:n≤4:=by have:=h.hn;omega
 have h0:Sm01 m n A b (fun _=>0):=⟨h.hn,h.A01,fun _ _=>IsI.zero Zb4,h.bI⟩
 cases hE with
 | full1 h1=>exact absurd rfl (h0.srch h1 (jdc m n A b _) Dua.opn (jeV hn4))
 | full2 _ _ h2=>exact absurd rfl (h.srch h2 (jdc m n A b _) Dua.opn (jeV hn4))
 | none _ _=>simp
 | fin _ _ _ =>
  unfold je4
  split <;> simp
end
theorem jm9 {n i:Nat} {f:Nat→Int} {J:List Value} (hi:i<n):(recA iEnc n f J)[i]?=some (.int .i64 (f i)):=by
 have:=jcP (J:=J) (v:=f) jap hi (show 0<1 by omega)
 rw [Nat.mul_one,Nat.add_zero] at this
 exact this
theorem iA_set {n i:Nat} {f:Nat→Int} {J:List Value} (hi:i<n) (x:Int):(recA iEnc n f J).setIfInBounds i (.int .i64 x)=recA iEnc n (putF f i x) J:=by
 have:=jg7 (J:=J) (v:=f) jap hi x
 rw [Nat.mul_one] at this
 exact this
theorem St.setI {w W:World} {L L':List Blk} {D:List Hl} {n i g:Nat} {f:Nat→Int} {t:TypeId} {J:List Value} (h:St w L D W) (x:Int) (hi:i<n) (hU:Upd g (recA iEnc n f J) t (recA iEnc n (putF f i x) J) L L'):St w L' D (W.setCell ⟨g,i,none⟩ (.int .i64 x)):=by
 refine h.upd hU (jbv.set W g _ _) ?_
 rw [←iA_set hi x]
 exact (h.blk hU.mem).set (j:=i) (.int .i64 x)
theorem jg4 (f:Nat→Nat) (i x:Nat):putF (fun k=>((f k:Nat):Int)) i ((x:Nat):Int)=fun k=>((putF f i x k:Nat):Int):=by
 funext k
 by_cases e:k=i
 ·rw [e,jaf,jaf]
 ·rw [jad e,jad e]
def XchP (w0:World) (L1:List Blk) (D:List Hl) (M:Mm) (m q rr s db hb hc ob oc fb fc:Nat) (gv:Rw) (HJ OJ FJ:List Value) (b:Bool) (Y:Nat→Rw) (V:Nat→Nat→Rw) (own free:Nat→Nat) (e:Ending) (W':World):Prop :=
 ∃(b':Bool) (Y':Nat→Rw) (V':Nat→Nat→Rw),e=.returned (.tuple #[])∧Hid (jdE m Y'∧jdj q M.N V')∧Hid (FulK b b' ((dcOf m Y V own free).fitX m M.N rr s=true)∧((dcOf m Y V own free).fitX m M.N rr s=true→(dcOf m Y' V' (putF own rr (free s)) (putF free s (own rr))).Eqv m M.N ((dcOf m Y V own free).xch rr s)))∧St w0 ((db,(Value.bool b'::[.slice (some ⟨hb,0,none⟩) m hc,.int .i64 gv.s,.slice gv.A gv.n gv.c,.int .i64 gv.t,.slice gv.B gv.m gv.d,.slice (some ⟨M.rb m,0,none⟩) M.N (M.cp m),.slice (some ⟨ob,0,none⟩) m oc,.slice (some ⟨fb,0,none⟩) M.N fc]).toArray,92)::(hb,recA Ln.cs m (lnF Y' (M.hd q)) HJ,90)::((M.wV V').rows q++((ob,recA iEnc m (fun i=>((putF own rr (free s) i:Nat):Int)) OJ,3)::(fb,recA iEnc M.N (fun i=>((putF free s (own rr) i:Nat):Int)) FJ,3)::L1))) ((M.wV V').fam q::⟨rwP m Y',rwS m Y'⟩::D) W'
theorem jfC (w0 w:World) (M:Mm) (L1:List Blk) (D:List Hl) (m q rr s db hb hc ob oc fb fc:Nat) (gv:Rw) (HJ OJ FJ:List Value) (b:Bool) (Y:Nat→Rw) (V:Nat→Nat→Rw) (own free:Nat→Nat)
 (K:St w0 ((db,(Value.bool b::[.slice (some ⟨hb,0,none⟩) m hc,.int .i64 gv.s,.slice gv.A gv.n gv.c,.int .i64 gv.t,.slice gv.B gv.m gv.d,.slice (some ⟨M.rb m,0,none⟩) M.N (M.cp m),.slice (some ⟨ob,0,none⟩) m oc,.slice (some ⟨fb,0,none⟩) M.N fc]).toArray,92)::(hb,recA Ln.cs m (lnF Y (M.hd q)) HJ,90)::((M.wV V).rows q++((ob,recA iEnc m (fun i=>((own i:Nat):Int)) OJ,3)::(fb,recA iEnc M.N (fun i=>((free i:Nat):Int)) FJ,3)::L1))) ((M.wV V).fam q::⟨rwP m Y,rwS m Y⟩::D) w) (hr:rr<m) (hmq:q=m+1) (hs:s<M.N) (hm:m≤1000) (hN:M.N≤1000) (hcp:∀i,i<q→M.N≤M.cp i∧M.cp i≤9223372036854775807) (hhc:m≤hc∧hc≤9223372036854775807) (hoc:m≤oc∧oc≤9223372036854775807) (hfc:M.N≤fc∧fc≤9223372036854775807) (hgy:jdE m Y) (hgv:jdj q M.N V) (hp0:(V rr s).q≠0) :
 Calls Tryz.prog 112 #[.pointer (some ⟨db,0,none⟩),.int .i64 rr,.int .i64 s] w (XchP w0 L1 D M m q rr s db hb hc ob oc fb fc gv HJ OJ FJ b Y V own free):=by
 have HGY:=jpk hgy
 have HGV:=jpk hgv
 have HMQ:=jpk hmq
 have Hr:=jpk (show rr<q by omega)
 have Hmq:=jpk (show m<q by omega)
 have Hrm:=jpk hr
 have Hs:=jpk hs
 have HCP:=jpk hcp
 have hcpr:=hcp rr Hr.out
 have hsi:(s:Int)<(M.N:Int):=by omega
 have hs0:(0:Int)≤(s:Int):=by omega
 have hri:(rr:Int)<(m:Int):=by omega
 have hr0:(0:Int)≤(rr:Int):=by omega
 have HDb:=jpk (fun W5 b5 D5 L5 (h:St w0 L5 D5 W5) (hmem:((db,(Value.bool b5::[.slice (some ⟨hb,0,none⟩) m hc,.int .i64 gv.s,.slice gv.A gv.n gv.c,.int .i64 gv.t,.slice gv.B gv.m gv.d,.slice (some ⟨M.rb m,0,none⟩) M.N (M.cp m),.slice (some ⟨ob,0,none⟩) m oc,.slice (some ⟨fb,0,none⟩) M.N fc]).toArray,92):Blk)∈L5)=>(⟨(h.blk hmem).cell (j:=1) rfl,(h.blk hmem).cell (j:=7) rfl,(h.blk hmem).cell (j:=8) rfl⟩:W5.cell? ⟨db,1,none⟩=some (.slice (some ⟨hb,0,none⟩) m hc)∧W5.cell? ⟨db,7,none⟩=some (.slice (some ⟨ob,0,none⟩) m oc)∧W5.cell? ⟨db,8,none⟩=some (.slice (some ⟨fb,0,none⟩) M.N fc)))
 have HL4:=jpk (fun W5 L5 D5 Y5 J5 t5 (h:St w0 L5 D5 W5) (hm:((hb,recA Ln.cs m (lnF Y5 (M.hd q)) J5,t5):Blk)∈L5)=>(show W5.cell? ⟨hb,rr*5+4,none⟩=some (.slice (some ⟨M.rb rr,0,none⟩) M.N (M.cp rr)) from (h.cellL (g:=hb) (h:=M.hd q) (Y:=Y5) Hrm.out hm).2))
 clear hr hcp hgy hgv hmq
 have K:=K.famRdV (M:=M) (V:=V) (i:=rr) (j:=s) ZMB Hr.out hs
 obtain ⟨cd,-,-⟩:=HDb.out _ _ _ _ K ZMB
 have ch:=HL4.out _ _ _ _ _ _ K ZMB
 have cr:=K.cellV (M:=M) (V:=V) (r:=rr) (k:=s) hs Zb15
 obtain ⟨x0,hx0⟩:∃x0,x0=V rr s:=⟨_,rfl⟩
 rw [←hx0] at cr K
 have HI0:=jpk (show isQ x0 x0.q from by rw [hx0];exact HGV.out rr s Hr.out hs)
 have HX0:=jpk (show x0.q=(V rr s).q from by rw [hx0])
 have HP0:=jpk (show x0.q≠0 from by rw [hx0];exact hp0)
 have hcap1:=(K.rd (A:=x0.A) (n:=x0.n) (cap:=x0.c) (l:=x0.l) ZMB).caps
 have hcap2:=(K.rd (A:=x0.B) (n:=x0.m) (cap:=x0.d) (l:=x0.k) ZMB).caps
 clear hx0 hs hp0
 have r:=K.raw
 go_enter Tryz.func112,Tryz.ntmps112
 go_upto_region 2 with ((first|(refine ZAL ?_;clear K r;(first|((fail_if_success revert b0);intro W b0 K r)|((fail_if_success revert b1);intro W b1 K r)|((fail_if_success revert b2);intro W b2 K r)|((fail_if_success revert b3);intro W b3 K r)|((fail_if_success revert b4);intro W b4 K r)|((fail_if_success revert b5);intro W b5 K r)|((fail_if_success revert b6);intro W b6 K r)|((fail_if_success revert b7);intro W b7 K r)|((fail_if_success revert b8);intro W b8 K r)|((fail_if_success revert b9);intro W b9 K r)|intro W b K r))|(refine ZST ?_;clear K r;intro W K r));clear ch;have ch:=HL4.out _ _ _ _ _ _ K ZMB)
 clear ch cr cd
 obtain ⟨b1,hb1⟩:∃b1,b1=(b|| !divK (Y rr).q x0.q):=⟨_,rfl⟩
 have HV:=jpk (fun (z:Rw) (zq:Rat) (hz:isQ z zq) (hs:divK (Y rr).q x0.q=true→zq=(Y rr).q / x0.q)=>(show jdE m (putF Y rr z)∧FulK b b1 (divK (Y rr).q x0.q=true)∧((∀k,k≠rr→putF Y rr z k=Y k)∧(divK (Y rr).q x0.q=true→(putF Y rr z rr).q=(Y rr).q / x0.q)) from by
  refine ⟨HGY.out.put hz,?_,fun k hk=>jad hk,fun hk=>?_⟩
  ·unfold FulK
   rw [hb1]
   cases b <;> cases divK (Y rr).q x0.q <;> simp
  ·rw [jaf,hz.q]
   exact hs hk))
 have gx:=HGY.out rr Hrm.out
 have K:=K.rwRd (Y:=Y) (n:=m) (i:=rr) ZMB Hrm.out
 have HSA:=jpk (fun W5 b5 D5 (h:St w0 ((b0,#[.int .i64 x0.s,.slice x0.A x0.n x0.c,.int .i64 x0.t,.slice x0.B x0.m x0.d],29)::((db,(Value.bool b5::[.slice (some ⟨hb,0,none⟩) m hc,.int .i64 gv.s,.slice gv.A gv.n gv.c,.int .i64 gv.t,.slice gv.B gv.m gv.d,.slice (some ⟨M.rb m,0,none⟩) M.N (M.cp m),.slice (some ⟨ob,0,none⟩) m oc,.slice (some ⟨fb,0,none⟩) M.N fc]).toArray,92)::(hb,recA Ln.cs m (lnF Y (M.hd q)) HJ,90)::((M.wV V).rows q++((ob,recA iEnc m (fun i=>((own i:Nat):Int)) OJ,3)::(fb,recA iEnc M.N (fun i=>((free i:Nat):Int)) FJ,3)::L1)))) D5 W5)=>(show (W5.cell? ⟨b0,0,none⟩=some (.int .i64 x0.s)∧W5.cell? ⟨b0,1,none⟩=some (.slice x0.A x0.n x0.c)∧W5.cell? ⟨b0,2,none⟩=some (.int .i64 x0.t)∧W5.cell? ⟨b0,3,none⟩=some (.slice x0.B x0.m x0.d))∧(W5.cell? ⟨hb,rr*5,none⟩=some (.int .i64 (Y rr).s)∧W5.cell? ⟨hb,rr*5+1,none⟩=some (.slice (Y rr).A (Y rr).n (Y rr).c)∧W5.cell? ⟨hb,rr*5+2,none⟩=some (.int .i64 (Y rr).t)∧W5.cell? ⟨hb,rr*5+3,none⟩=some (.slice (Y rr).B (Y rr).m (Y rr).d)) from by
  have r0:=h.rawS
  exact ⟨r0.1,(h.cellL (g:=hb) (h:=M.hd q) (Y:=Y) Hrm.out ZMB).1⟩))
 have HDv:=jpk (fun W5 (h:St w0 ((b0,#[.int .i64 x0.s,.slice x0.A x0.n x0.c,.int .i64 x0.t,.slice x0.B x0.m x0.d],29)::((db,(Value.bool b::[.slice (some ⟨hb,0,none⟩) m hc,.int .i64 gv.s,.slice gv.A gv.n gv.c,.int .i64 gv.t,.slice gv.B gv.m gv.d,.slice (some ⟨M.rb m,0,none⟩) M.N (M.cp m),.slice (some ⟨ob,0,none⟩) m oc,.slice (some ⟨fb,0,none⟩) M.N fc]).toArray,92)::(hb,recA Ln.cs m (lnF Y (M.hd q)) HJ,90)::((M.wV V).rows q++((ob,recA iEnc m (fun i=>((own i:Nat):Int)) OJ,3)::(fb,recA iEnc M.N (fun i=>((free i:Nat):Int)) FJ,3)::L1)))) (⟨rdP (Y rr).B (Y rr).m (Y rr).d (Y rr).k,rdS (Y rr).B (Y rr).m⟩::⟨rdP (Y rr).A (Y rr).n (Y rr).c (Y rr).l,rdS (Y rr).A (Y rr).n⟩::⟨rdP x0.B x0.m x0.d x0.k,rdS x0.B x0.m⟩::⟨rdP x0.A x0.n x0.c x0.l,rdS x0.A x0.n⟩::((M.wV V).fam q::⟨rwP m Y,rwS m Y⟩::D)) W5)=>jf3 h gx HI0.out HP0.out ZMB ZMB ZMB ZMB)
 have HB:=jpk (fun (y:Rw) (er:Int) (h:DivS (Y rr).q x0.q y er)=>(by rw [h.2];exact hb1:b1=(b||er !=0)))
 have HGo:=jpk (fun W5 (y:Rw) (er:Int) (G:Hid (DivS (Y rr).q x0.q y er)) (h:St w0 ((b0,#[.int .i64 x0.s,.slice x0.A x0.n x0.c,.int .i64 x0.t,.slice x0.B x0.m x0.d],29)::((db,(Value.bool b::[.slice (some ⟨hb,0,none⟩) m hc,.int .i64 gv.s,.slice gv.A gv.n gv.c,.int .i64 gv.t,.slice gv.B gv.m gv.d,.slice (some ⟨M.rb m,0,none⟩) M.N (M.cp m),.slice (some ⟨ob,0,none⟩) m oc,.slice (some ⟨fb,0,none⟩) M.N fc]).toArray,92)::(hb,recA Ln.cs m (lnF Y (M.hd q)) HJ,90)::((M.wV V).rows q++((ob,recA iEnc m (fun i=>((own i:Nat):Int)) OJ,3)::(fb,recA iEnc M.N (fun i=>((free i:Nat):Int)) FJ,3)::L1)))) (⟨rdP y.B y.m y.d y.k,rdS y.B y.m⟩::⟨rdP y.A y.n y.c y.l,rdS y.A y.n⟩::⟨rdP (Y rr).B (Y rr).m (Y rr).d (Y rr).k,rdS (Y rr).B (Y rr).m⟩::⟨rdP (Y rr).A (Y rr).n (Y rr).c (Y rr).l,rdS (Y rr).A (Y rr).n⟩::⟨rdP x0.B x0.m x0.d x0.k,rdS x0.B x0.m⟩::⟨rdP x0.A x0.n x0.c x0.l,rdS x0.A x0.n⟩::((M.wV V).fam q::⟨rwP m Y,rwS m Y⟩::D)) W5)=>jck (L':=((b0,#[.int .i64 x0.s,.slice x0.A x0.n x0.c,.int .i64 x0.t,.slice x0.B x0.m x0.d],29)::((db,(Value.bool b1::[.slice (some ⟨hb,0,none⟩) m hc,.int .i64 gv.s,.slice gv.A gv.n gv.c,.int .i64 gv.t,.slice gv.B gv.m gv.d,.slice (some ⟨M.rb m,0,none⟩) M.N (M.cp m),.slice (some ⟨ob,0,none⟩) m oc,.slice (some ⟨fb,0,none⟩) M.N fc]).toArray,92)::(hb,recA Ln.cs m (lnF Y (M.hd q)) HJ,90)::((M.wV V).rows q++((ob,recA iEnc m (fun i=>((own i:Nat):Int)) OJ,3)::(fb,recA iEnc M.N (fun i=>((free i:Nat):Int)) FJ,3)::L1))))) h G.out.1 (HB.out y er G.out) (.tail _ (.head _)))
 have hcap3:=(K.rd (A:=(Y rr).A) (n:=(Y rr).n) (cap:=(Y rr).c) (l:=(Y rr).l) ZMB).caps
 have hcap4:=(K.rd (A:=(Y rr).B) (n:=(Y rr).m) (cap:=(Y rr).d) (l:=(Y rr).k) ZMB).caps
 clear gx r hb1
 have K0:=K.drew
 have s0:=HSA.out _ _ _ K0
 clear K
 refine jak 15 (fun W5=>(W5.cell? ⟨b0,0,none⟩=some (.int .i64 x0.s)∧W5.cell? ⟨b0,1,none⟩=some (.slice x0.A x0.n x0.c)∧W5.cell? ⟨b0,2,none⟩=some (.int .i64 x0.t)∧W5.cell? ⟨b0,3,none⟩=some (.slice x0.B x0.m x0.d))∧(W5.cell? ⟨hb,rr*5,none⟩=some (.int .i64 (Y rr).s)∧W5.cell? ⟨hb,rr*5+1,none⟩=some (.slice (Y rr).A (Y rr).n (Y rr).c)∧W5.cell? ⟨hb,rr*5+2,none⟩=some (.int .i64 (Y rr).t)∧W5.cell? ⟨hb,rr*5+3,none⟩=some (.slice (Y rr).B (Y rr).m (Y rr).d))) Zb9 s0 (fun hSh=>?_)
 clear s0
 refine jaa.tk 0 rfl ?_
 refine jaa.tk 1 rfl ?_
 refine jaa.tk 2 rfl ?_
 refine jaa.tk 3 rfl ?_
 refine jaa.tk 4 rfl ?_
 refine jaa.tk 5 rfl ?_
 refine jaa.tk 6 rfl ?_
 refine jaa.tk 7 rfl ?_
 refine jaa.tk 8 rfl ?_
 refine jaa.on 9 rfl fun KK hKK=>?_
 go_simp
 go_at_call 133;refine (HDv.out _ K0).mono ?_;rintro e w4 ⟨y1,er,rfl,gy,k4⟩
 go_wp2_with fail
 refine hKK.out _ _ ?_ (fun hSh=>?_)
 ·exact HSA.out _ _ _ k4
 clear hKK KK
 refine ZPT ?_
 refine jaa.tk 10 rfl ?_
 refine jaa.tk 11 rfl ?_
 refine jaa.on 12 rfl fun KK hKK=>?_
 go_simp
 go_at_call 113;refine (HGo.out _ _ _ gy k4).mono ?_;rintro e w5 ⟨z1,z1q,rfl,gz,k5⟩
 go_wp2_with fail
 refine hKK.out _ _ ?_ (fun hSh=>?_)
 ·exact HSA.out _ _ _ k5
 clear hKK KK
 refine ZPT ?_
 refine jaa.on 13 rfl fun KK hKK=>?_
 go_simp
 refine hKK.out _ _ Zb6 (fun hSh=>?_)
 clear hKK KK
 refine ZPT ?_
 refine jaa.on 14 rfl fun KK hKK=>?_
 go_simp
 refine hKK.out _ _ Zb6 (fun hSh=>?_)
 clear hKK KK
 refine ZPT ?_
 refine jaa.last rfl Zb9 ?_
 have HV1:=jpk (HV.out z1 z1q gz.out.1 (fun hk=>gz.out.2 (by
  have:=gy.out.2
  rw [hk] at this
  simpa using this)))
 have HGY1:=jpk HV1.out.1
 have HF1:=jpk HV1.out.2.1
 have HYV:=jpk HV1.out.2.2
 clear HSA HDv HB HGo hSh HV gz gy HV1 K0 k4
 refine k5.storeL (Y:=Y) (h:=M.hd q) (J:=HJ) (t:=90) rfl rfl _ _ _ rfl hb rr m z1 rfl rfl Hrm.out ZUA jar ?_
 intro W8 K
 clear k5
 replace K:=K.rwPut (v:=Y) z1 rr ZMB ZMB ZMB
 replace K:=((K.add (x:=(M.wV V).fam q) (K.okAt ZMB)).lessS (D':=((M.wV V).fam q::⟨rwP m (putF Y rr z1),rwS m (putF Y rr z1)⟩::⟨rdP x0.B x0.m x0.d x0.k,rdS x0.B x0.m⟩::⟨rdP x0.A x0.n x0.c x0.l,rdS x0.A x0.n⟩::D)) Zb10)
 obtain ⟨Y1,hY1⟩:∃Y1,Y1=putF Y rr z1:=⟨_,rfl⟩
 rw [←hY1] at K HGY1 HYV
 clear hY1
 have r0:=K.rawS
 have ch:=HL4.out _ _ _ _ _ _ K ZMB
 go_wp2_with fail
 clear ch r0
 go_loopg [43] M.N (fun gk s43 wr=>∃(k:Nat) (b2:Bool) (V2:Nat→Nat→Rw),k≤M.N∧gk=M.N-k∧s43=.int .i64 k∧Hid (jdj q M.N V2)∧Hid (DvQ rr s k x0.q b1 b2 V V2)∧St w0 ((b0,#[.int .i64 x0.s,.slice x0.A x0.n x0.c,.int .i64 x0.t,.slice x0.B x0.m x0.d],29)::((db,(Value.bool b2::[.slice (some ⟨hb,0,none⟩) m hc,.int .i64 gv.s,.slice gv.A gv.n gv.c,.int .i64 gv.t,.slice gv.B gv.m gv.d,.slice (some ⟨M.rb m,0,none⟩) M.N (M.cp m),.slice (some ⟨ob,0,none⟩) m oc,.slice (some ⟨fb,0,none⟩) M.N fc]).toArray,92)::(hb,recA Ln.cs m (lnF Y1 (M.hd q)) HJ,90)::((M.wV V2).rows q++((ob,recA iEnc m (fun i=>((own i:Nat):Int)) OJ,3)::(fb,recA iEnc M.N (fun i=>((free i:Nat):Int)) FJ,3)::L1)))) ((M.wV V2).fam q::⟨rwP m Y1,rwS m Y1⟩::⟨rdP x0.B x0.m x0.d x0.k,rdS x0.B x0.m⟩::⟨rdP x0.A x0.n x0.c x0.l,rdS x0.A x0.n⟩::D) wr)
 case atStart=>exact ⟨0,_,V,Nat.zero_le _,rfl,rfl,HGV,jpk (DvQ.zero rr s _ _ V),K⟩
 case round =>
  clear K
  obtain ⟨k,b2,V2,hk,rfl,rfl,HG2,HQ,K⟩:=hrel
  by_cases hlt:k<M.N
  ·have hki:(k:Int)<(M.N:Int):=by omega
   have hk0:(0:Int)≤(k:Int):=by omega
   by_cases hks:k=s
   ·have hse:((k:Int) !=(s:Int))=false:=by simp [hks]
    have HQ2:=jpk (show DvQ rr s (k+1) x0.q b1 b2 V V2 from by
     subst hks
     exact HQ.out.skip)
    exact ZQ64
   ·have hse:((k:Int) !=(s:Int))=true:=by simp;omega
    have e1:V2 rr k=V rr k:=HQ.out.2.1 rr k ZO
    obtain ⟨bn,hbn⟩:∃bn,bn=(b2|| !divK (V2 rr k).q x0.q):=⟨_,rfl⟩
    have HV:=jpk (fun (z:Rw) (zq:Rat) (hz:isQ z zq) (hs:divK (V2 rr k).q x0.q=true→zq=(V2 rr k).q / x0.q)=>HQ.out.step (b2:=bn) (x:=z) (z:=zq) hks (by rw [hbn,e1]) hz (by rw [e1] at hs;exact hs))
    have gx:=HG2.out rr k Hr.out hlt
    have K:=K.famRdV (M:=M) (V:=V2) (i:=rr) (j:=k) ZMB Hr.out hlt
    obtain ⟨x,hx⟩:∃x,x=V2 rr k:=⟨_,rfl⟩
    rw [←hx] at K HV hbn gx
    have HX:=jpk hx
    have HSA:=jpk (fun W5 b5 D5 (h:St w0 ((b0,#[.int .i64 x0.s,.slice x0.A x0.n x0.c,.int .i64 x0.t,.slice x0.B x0.m x0.d],29)::((db,(Value.bool b5::[.slice (some ⟨hb,0,none⟩) m hc,.int .i64 gv.s,.slice gv.A gv.n gv.c,.int .i64 gv.t,.slice gv.B gv.m gv.d,.slice (some ⟨M.rb m,0,none⟩) M.N (M.cp m),.slice (some ⟨ob,0,none⟩) m oc,.slice (some ⟨fb,0,none⟩) M.N fc]).toArray,92)::(hb,recA Ln.cs m (lnF Y1 (M.hd q)) HJ,90)::((M.wV V2).rows q++((ob,recA iEnc m (fun i=>((own i:Nat):Int)) OJ,3)::(fb,recA iEnc M.N (fun i=>((free i:Nat):Int)) FJ,3)::L1)))) D5 W5)=>(show W5.cell? ⟨hb,rr*5+4,none⟩=some (.slice (some ⟨M.rb rr,0,none⟩) M.N (M.cp rr))∧(W5.cell? ⟨b0,0,none⟩=some (.int .i64 x0.s)∧W5.cell? ⟨b0,1,none⟩=some (.slice x0.A x0.n x0.c)∧W5.cell? ⟨b0,2,none⟩=some (.int .i64 x0.t)∧W5.cell? ⟨b0,3,none⟩=some (.slice x0.B x0.m x0.d))∧(W5.cell? ⟨M.rb rr,k*4,none⟩=some (.int .i64 x.s)∧W5.cell? ⟨M.rb rr,k*4+1,none⟩=some (.slice x.A x.n x.c)∧W5.cell? ⟨M.rb rr,k*4+2,none⟩=some (.int .i64 x.t)∧W5.cell? ⟨M.rb rr,k*4+3,none⟩=some (.slice x.B x.m x.d)) from by
     have r0:=h.rawS
     have cx:=h.cellV (M:=M) (V:=V2) (r:=rr) (k:=k) hlt Zb15
     rw [←HX.out] at cx
     exact ⟨HL4.out _ _ _ _ _ _ h ZMB,r0.1,cx⟩))
    have HDv:=jpk (fun W5 (h:St w0 ((b0,#[.int .i64 x0.s,.slice x0.A x0.n x0.c,.int .i64 x0.t,.slice x0.B x0.m x0.d],29)::((db,(Value.bool b2::[.slice (some ⟨hb,0,none⟩) m hc,.int .i64 gv.s,.slice gv.A gv.n gv.c,.int .i64 gv.t,.slice gv.B gv.m gv.d,.slice (some ⟨M.rb m,0,none⟩) M.N (M.cp m),.slice (some ⟨ob,0,none⟩) m oc,.slice (some ⟨fb,0,none⟩) M.N fc]).toArray,92)::(hb,recA Ln.cs m (lnF Y1 (M.hd q)) HJ,90)::((M.wV V2).rows q++((ob,recA iEnc m (fun i=>((own i:Nat):Int)) OJ,3)::(fb,recA iEnc M.N (fun i=>((free i:Nat):Int)) FJ,3)::L1)))) (⟨rdP x.B x.m x.d x.k,rdS x.B x.m⟩::⟨rdP x.A x.n x.c x.l,rdS x.A x.n⟩::((M.wV V2).fam q::⟨rwP m Y1,rwS m Y1⟩::⟨rdP x0.B x0.m x0.d x0.k,rdS x0.B x0.m⟩::⟨rdP x0.A x0.n x0.c x0.l,rdS x0.A x0.n⟩::D)) W5)=>jf3 h gx HI0.out HP0.out ZMB ZMB ZMB ZMB)
    have HB:=jpk (fun (y:Rw) (er:Int) (h:DivS x.q x0.q y er)=>(by rw [h.2];exact hbn:bn=(b2||er !=0)))
    have HGo:=jpk (fun W5 (y:Rw) (er:Int) (G:Hid (DivS x.q x0.q y er)) (h:St w0 ((b0,#[.int .i64 x0.s,.slice x0.A x0.n x0.c,.int .i64 x0.t,.slice x0.B x0.m x0.d],29)::((db,(Value.bool b2::[.slice (some ⟨hb,0,none⟩) m hc,.int .i64 gv.s,.slice gv.A gv.n gv.c,.int .i64 gv.t,.slice gv.B gv.m gv.d,.slice (some ⟨M.rb m,0,none⟩) M.N (M.cp m),.slice (some ⟨ob,0,none⟩) m oc,.slice (some ⟨fb,0,none⟩) M.N fc]).toArray,92)::(hb,recA Ln.cs m (lnF Y1 (M.hd q)) HJ,90)::((M.wV V2).rows q++((ob,recA iEnc m (fun i=>((own i:Nat):Int)) OJ,3)::(fb,recA iEnc M.N (fun i=>((free i:Nat):Int)) FJ,3)::L1)))) (⟨rdP y.B y.m y.d y.k,rdS y.B y.m⟩::⟨rdP y.A y.n y.c y.l,rdS y.A y.n⟩::⟨rdP x.B x.m x.d x.k,rdS x.B x.m⟩::⟨rdP x.A x.n x.c x.l,rdS x.A x.n⟩::((M.wV V2).fam q::⟨rwP m Y1,rwS m Y1⟩::⟨rdP x0.B x0.m x0.d x0.k,rdS x0.B x0.m⟩::⟨rdP x0.A x0.n x0.c x0.l,rdS x0.A x0.n⟩::D)) W5)=>jck (L':=((b0,#[.int .i64 x0.s,.slice x0.A x0.n x0.c,.int .i64 x0.t,.slice x0.B x0.m x0.d],29)::((db,(Value.bool bn::[.slice (some ⟨hb,0,none⟩) m hc,.int .i64 gv.s,.slice gv.A gv.n gv.c,.int .i64 gv.t,.slice gv.B gv.m gv.d,.slice (some ⟨M.rb m,0,none⟩) M.N (M.cp m),.slice (some ⟨ob,0,none⟩) m oc,.slice (some ⟨fb,0,none⟩) M.N fc]).toArray,92)::(hb,recA Ln.cs m (lnF Y1 (M.hd q)) HJ,90)::((M.wV V2).rows q++((ob,recA iEnc m (fun i=>((own i:Nat):Int)) OJ,3)::(fb,recA iEnc M.N (fun i=>((free i:Nat):Int)) FJ,3)::L1))))) h G.out.1 (HB.out y er G.out) (.tail _ (.head _)))
    have hcap3:=(K.rd (A:=x.A) (n:=x.n) (cap:=x.c) (l:=x.l) ZMB).caps
    have hcap4:=(K.rd (A:=x.B) (n:=x.m) (cap:=x.d) (l:=x.k) ZMB).caps
    clear hx hbn HQ e1 gx
    go_upto_region 7 with fail
    have K0:=K.drew
    have s0:=HSA.out _ _ _ K0
    clear K
    refine jak 21 (fun W5=>W5.cell? ⟨hb,rr*5+4,none⟩=some (.slice (some ⟨M.rb rr,0,none⟩) M.N (M.cp rr))∧(W5.cell? ⟨b0,0,none⟩=some (.int .i64 x0.s)∧W5.cell? ⟨b0,1,none⟩=some (.slice x0.A x0.n x0.c)∧W5.cell? ⟨b0,2,none⟩=some (.int .i64 x0.t)∧W5.cell? ⟨b0,3,none⟩=some (.slice x0.B x0.m x0.d))∧(W5.cell? ⟨M.rb rr,k*4,none⟩=some (.int .i64 x.s)∧W5.cell? ⟨M.rb rr,k*4+1,none⟩=some (.slice x.A x.n x.c)∧W5.cell? ⟨M.rb rr,k*4+2,none⟩=some (.int .i64 x.t)∧W5.cell? ⟨M.rb rr,k*4+3,none⟩=some (.slice x.B x.m x.d))) Zb9 s0 (fun hSh=>?_)
    clear s0
    refine jaa.tk 0 rfl ?_
    refine jaa.tk 1 rfl ?_
    refine jaa.tk 2 rfl ?_
    refine jaa.tk 3 rfl ?_
    refine jaa.tk 4 rfl ?_
    refine jaa.tk 5 rfl ?_
    refine jaa.tk 6 rfl ?_
    refine jaa.tk 7 rfl ?_
    refine jaa.tk 8 rfl ?_
    refine jaa.tk 9 rfl ?_
    refine jaa.tk 10 rfl ?_
    refine jaa.tk 11 rfl ?_
    refine jaa.tk 12 rfl ?_
    refine jaa.tk 13 rfl ?_
    refine jaa.tk 14 rfl ?_
    refine jaa.tk 15 rfl ?_
    refine jaa.on 16 rfl fun KK hKK=>?_
    go_simp
    go_at_call 133;refine (HDv.out _ K0).mono ?_;rintro e w4 ⟨y1,er,rfl,gy,k4⟩
    go_wp2_with fail
    refine hKK.out _ _ ?_ (fun hSh=>?_)
    ·exact HSA.out _ _ _ k4
    clear hKK KK
    refine ZPT ?_
    refine jaa.tk 17 rfl ?_
    refine jaa.tk 18 rfl ?_
    refine jaa.on 19 rfl fun KK hKK=>?_
    go_simp
    go_at_call 113;refine (HGo.out _ _ _ gy k4).mono ?_;rintro e w5 ⟨z,zq,rfl,gz,k5⟩
    go_wp2_with fail
    refine hKK.out _ _ ?_ (fun hSh=>?_)
    ·exact HSA.out _ _ _ k5
    clear hKK KK
    refine ZPT ?_
    refine jaa.tk 20 rfl ?_
    refine jaa.last rfl Zb9 ?_
    have HQ:=jpk (HV.out z zq gz.out.1 (fun hk=>gz.out.2 (by
     have:=gy.out.2
     rw [hk] at this
     simpa using this)))
    have HG3:=jpk (HG2.out.put (r:=rr) (k:=k) gz.out.1)
    clear K0 k4 HSA HDv HB HGo hSh HV gz gy HX
    refine k5.storeR (v:=V2 rr) (J:=M.J rr) (t:=29) rfl rfl _ _ _ rfl (M.rb rr) k M.N z rfl rfl hlt (by repeat (first|with_reducible exact Mm.updV Hr.out _|with_reducible exact Upd.head _|with_reducible apply Upd.tail)) jar ?_
    intro W8 K
    clear k5
    have HK:=jpk ((K.famPutV (M:=M) (V:=V2) (n:=q) ZMB z ZMB ZMB rr k).lessS (D':=((M.wV (put2 V2 rr k z)).fam q::⟨rwP m Y1,rwS m Y1⟩::⟨rdP x0.B x0.m x0.d x0.k,rdS x0.B x0.m⟩::⟨rdP x0.A x0.n x0.c x0.l,rdS x0.A x0.n⟩::D)) Zb10)
    clear K
    go_wp2_with fail
    go_roundg (M.N-(k+1))
    case rel=>exact ⟨k+1,bn,put2 V2 rr k z,hlt,rfl,by go_num,HG3,HQ,HK.out⟩
    case measure=>omega
  ·have e:k=M.N:=by omega
   have HQ2:=jpk (show DvQ rr s M.N x0.q b1 b2 V V2 from by rw [←e];exact HQ.out)
   have hki:¬(k:Int)<(M.N:Int):=by omega
   obtain ⟨b9,hb9⟩:∃b9,b9=(b2|| !divK 1 x0.q):=⟨_,rfl⟩
   have HV:=jpk (fun (z:Rw) (zq:Rat) (hz:isQ z zq) (hs:divK 1 x0.q=true→zq=1 / x0.q)=>HQ2.out.last (b2:=b9) (x:=z) (z:=zq) Hs.out hb9 hz hs)
   have HSA:=jpk (fun W5 b5 D5 (h:St w0 ((b0,#[.int .i64 x0.s,.slice x0.A x0.n x0.c,.int .i64 x0.t,.slice x0.B x0.m x0.d],29)::((db,(Value.bool b5::[.slice (some ⟨hb,0,none⟩) m hc,.int .i64 gv.s,.slice gv.A gv.n gv.c,.int .i64 gv.t,.slice gv.B gv.m gv.d,.slice (some ⟨M.rb m,0,none⟩) M.N (M.cp m),.slice (some ⟨ob,0,none⟩) m oc,.slice (some ⟨fb,0,none⟩) M.N fc]).toArray,92)::(hb,recA Ln.cs m (lnF Y1 (M.hd q)) HJ,90)::((M.wV V2).rows q++((ob,recA iEnc m (fun i=>((own i:Nat):Int)) OJ,3)::(fb,recA iEnc M.N (fun i=>((free i:Nat):Int)) FJ,3)::L1)))) D5 W5)=>(show W5.cell? ⟨hb,rr*5+4,none⟩=some (.slice (some ⟨M.rb rr,0,none⟩) M.N (M.cp rr))∧(W5.cell? ⟨b0,0,none⟩=some (.int .i64 x0.s)∧W5.cell? ⟨b0,1,none⟩=some (.slice x0.A x0.n x0.c)∧W5.cell? ⟨b0,2,none⟩=some (.int .i64 x0.t)∧W5.cell? ⟨b0,3,none⟩=some (.slice x0.B x0.m x0.d)) from by
    have r0:=h.rawS
    exact ⟨HL4.out _ _ _ _ _ _ h ZMB,r0.1⟩))
   have HNu:=jpk (fun W5 D5 (h:St w0 ((b0,#[.int .i64 x0.s,.slice x0.A x0.n x0.c,.int .i64 x0.t,.slice x0.B x0.m x0.d],29)::((db,(Value.bool b2::[.slice (some ⟨hb,0,none⟩) m hc,.int .i64 gv.s,.slice gv.A gv.n gv.c,.int .i64 gv.t,.slice gv.B gv.m gv.d,.slice (some ⟨M.rb m,0,none⟩) M.N (M.cp m),.slice (some ⟨ob,0,none⟩) m oc,.slice (some ⟨fb,0,none⟩) M.N fc]).toArray,92)::(hb,recA Ln.cs m (lnF Y1 (M.hd q)) HJ,90)::((M.wV V2).rows q++((ob,recA iEnc m (fun i=>((own i:Nat):Int)) OJ,3)::(fb,recA iEnc M.N (fun i=>((free i:Nat):Int)) FJ,3)::L1)))) D5 W5)=>(jce 1 W5 Zb4).mono fun e W6 ⟨s7,A7,n7,c7,l7,t7,B7,m7,d7,k7,he,⟨hra,hrb⟩,ho,⟨hfa,hfb⟩,hbl⟩=>(⟨⟨s7,A7,n7,c7,l7,t7,B7,m7,d7,k7⟩,he,jpk (⟨ho,by decide +kernel⟩:isQ ⟨s7,A7,n7,c7,l7,t7,B7,m7,d7,k7⟩ 1),h.retF hbl hra hrb hfa hfb⟩:∃z:Rw,e=Ending.returned (.agg #[.int .i64 z.s,.slice z.A z.n z.c,.int .i64 z.t,.slice z.B z.m z.d])∧Hid (isQ z 1)∧St w0 ((b0,#[.int .i64 x0.s,.slice x0.A x0.n x0.c,.int .i64 x0.t,.slice x0.B x0.m x0.d],29)::((db,(Value.bool b2::[.slice (some ⟨hb,0,none⟩) m hc,.int .i64 gv.s,.slice gv.A gv.n gv.c,.int .i64 gv.t,.slice gv.B gv.m gv.d,.slice (some ⟨M.rb m,0,none⟩) M.N (M.cp m),.slice (some ⟨ob,0,none⟩) m oc,.slice (some ⟨fb,0,none⟩) M.N fc]).toArray,92)::(hb,recA Ln.cs m (lnF Y1 (M.hd q)) HJ,90)::((M.wV V2).rows q++((ob,recA iEnc m (fun i=>((own i:Nat):Int)) OJ,3)::(fb,recA iEnc M.N (fun i=>((free i:Nat):Int)) FJ,3)::L1)))) (⟨rdP z.B z.m z.d z.k,rdS z.B z.m⟩::⟨rdP z.A z.n z.c z.l,rdS z.A z.n⟩::D5) W6))
   have HDv:=jpk (fun W5 (z:Rw) (hz:isQ z 1) (h:St w0 ((b0,#[.int .i64 x0.s,.slice x0.A x0.n x0.c,.int .i64 x0.t,.slice x0.B x0.m x0.d],29)::((db,(Value.bool b2::[.slice (some ⟨hb,0,none⟩) m hc,.int .i64 gv.s,.slice gv.A gv.n gv.c,.int .i64 gv.t,.slice gv.B gv.m gv.d,.slice (some ⟨M.rb m,0,none⟩) M.N (M.cp m),.slice (some ⟨ob,0,none⟩) m oc,.slice (some ⟨fb,0,none⟩) M.N fc]).toArray,92)::(hb,recA Ln.cs m (lnF Y1 (M.hd q)) HJ,90)::((M.wV V2).rows q++((ob,recA iEnc m (fun i=>((own i:Nat):Int)) OJ,3)::(fb,recA iEnc M.N (fun i=>((free i:Nat):Int)) FJ,3)::L1)))) (⟨rdP z.B z.m z.d z.k,rdS z.B z.m⟩::⟨rdP z.A z.n z.c z.l,rdS z.A z.n⟩::((M.wV V2).fam q::⟨rwP m Y1,rwS m Y1⟩::⟨rdP x0.B x0.m x0.d x0.k,rdS x0.B x0.m⟩::⟨rdP x0.A x0.n x0.c x0.l,rdS x0.A x0.n⟩::D)) W5)=>jf3 h hz HI0.out HP0.out ZMB ZMB ZMB ZMB)
   have HB:=jpk (fun (y:Rw) (er:Int) (h:DivS 1 x0.q y er)=>(by rw [h.2];exact hb9:b9=(b2||er !=0)))
   have HGo:=jpk (fun W5 (y z:Rw) (er:Int) (G:Hid (DivS 1 x0.q y er)) (h:St w0 ((b0,#[.int .i64 x0.s,.slice x0.A x0.n x0.c,.int .i64 x0.t,.slice x0.B x0.m x0.d],29)::((db,(Value.bool b2::[.slice (some ⟨hb,0,none⟩) m hc,.int .i64 gv.s,.slice gv.A gv.n gv.c,.int .i64 gv.t,.slice gv.B gv.m gv.d,.slice (some ⟨M.rb m,0,none⟩) M.N (M.cp m),.slice (some ⟨ob,0,none⟩) m oc,.slice (some ⟨fb,0,none⟩) M.N fc]).toArray,92)::(hb,recA Ln.cs m (lnF Y1 (M.hd q)) HJ,90)::((M.wV V2).rows q++((ob,recA iEnc m (fun i=>((own i:Nat):Int)) OJ,3)::(fb,recA iEnc M.N (fun i=>((free i:Nat):Int)) FJ,3)::L1)))) (⟨rdP y.B y.m y.d y.k,rdS y.B y.m⟩::⟨rdP y.A y.n y.c y.l,rdS y.A y.n⟩::⟨rdP z.B z.m z.d z.k,rdS z.B z.m⟩::⟨rdP z.A z.n z.c z.l,rdS z.A z.n⟩::((M.wV V2).fam q::⟨rwP m Y1,rwS m Y1⟩::⟨rdP x0.B x0.m x0.d x0.k,rdS x0.B x0.m⟩::⟨rdP x0.A x0.n x0.c x0.l,rdS x0.A x0.n⟩::D)) W5)=>jck (L':=((b0,#[.int .i64 x0.s,.slice x0.A x0.n x0.c,.int .i64 x0.t,.slice x0.B x0.m x0.d],29)::((db,(Value.bool b9::[.slice (some ⟨hb,0,none⟩) m hc,.int .i64 gv.s,.slice gv.A gv.n gv.c,.int .i64 gv.t,.slice gv.B gv.m gv.d,.slice (some ⟨M.rb m,0,none⟩) M.N (M.cp m),.slice (some ⟨ob,0,none⟩) m oc,.slice (some ⟨fb,0,none⟩) M.N fc]).toArray,92)::(hb,recA Ln.cs m (lnF Y1 (M.hd q)) HJ,90)::((M.wV V2).rows q++((ob,recA iEnc m (fun i=>((own i:Nat):Int)) OJ,3)::(fb,recA iEnc M.N (fun i=>((free i:Nat):Int)) FJ,3)::L1))))) h G.out.1 (HB.out y er G.out) (.tail _ (.head _)))
   clear hb9 HQ HQ2
   go_upto_region 9 with fail
   have K0:=K.drew
   have s0:=HSA.out _ _ _ K0
   clear K
   refine jak 15 (fun W5=>W5.cell? ⟨hb,rr*5+4,none⟩=some (.slice (some ⟨M.rb rr,0,none⟩) M.N (M.cp rr))∧(W5.cell? ⟨b0,0,none⟩=some (.int .i64 x0.s)∧W5.cell? ⟨b0,1,none⟩=some (.slice x0.A x0.n x0.c)∧W5.cell? ⟨b0,2,none⟩=some (.int .i64 x0.t)∧W5.cell? ⟨b0,3,none⟩=some (.slice x0.B x0.m x0.d))) Zb9 s0 (fun hSh=>?_)
   clear s0
   refine jaa.tk 0 rfl ?_
   refine jaa.tk 1 rfl ?_
   refine jaa.tk 2 rfl ?_
   refine jaa.tk 3 rfl ?_
   refine jaa.tk 4 rfl ?_
   refine jaa.tk 5 rfl ?_
   refine jaa.tk 6 rfl ?_
   refine jaa.tk 7 rfl ?_
   refine jaa.tk 9 rfl ?_
   refine jaa.on 8 rfl fun KK hKK=>?_
   go_simp
   go_at_call 105;refine (HNu.out _ _ K0).mono ?_;rintro e w3 ⟨z0,rfl,g0,k3⟩
   go_wp2_with fail
   refine hKK.out _ _ ?_ (fun hSh=>?_)
   ·exact HSA.out _ _ _ k3
   clear hKK KK
   refine ZPT ?_
   refine jaa.on 10 rfl fun KK hKK=>?_
   go_simp
   go_at_call 133;refine (HDv.out _ _ g0.out k3).mono ?_;rintro e w4 ⟨y1,er,rfl,gy,k4⟩
   go_wp2_with fail
   refine hKK.out _ _ ?_ (fun hSh=>?_)
   ·exact HSA.out _ _ _ k4
   clear hKK KK
   refine ZPT ?_
   refine jaa.tk 11 rfl ?_
   refine jaa.tk 12 rfl ?_
   refine jaa.on 13 rfl fun KK hKK=>?_
   go_simp
   go_at_call 113;refine (HGo.out _ _ _ _ gy k4).mono ?_;rintro e w5 ⟨z,zq,rfl,gz,k5⟩
   go_wp2_with fail
   refine hKK.out _ _ ?_ (fun hSh=>?_)
   ·exact HSA.out _ _ _ k5
   clear hKK KK
   refine ZPT ?_
   refine jaa.tk 14 rfl ?_
   refine jaa.last rfl Zb9 ?_
   have HQ:=jpk (HV.out z zq gz.out.1 (fun hk=>gz.out.2 (by
    have:=gy.out.2
    rw [hk] at this
    simpa using this)))
   have HG3:=jpk (HG2.out.put (r:=rr) (k:=s) gz.out.1)
   clear K0 k3 k4 HSA HDv HB HGo HNu hSh HV gz gy g0
   refine k5.storeR (v:=V2 rr) (J:=M.J rr) (t:=29) rfl rfl _ _ _ rfl (M.rb rr) s M.N z rfl rfl Hs.out (by repeat (first|with_reducible exact Mm.updV Hr.out _|with_reducible exact Upd.head _|with_reducible apply Upd.tail)) jar ?_
   intro W8 K
   clear k5
   replace K:=(((K.famPutV (M:=M) (V:=V2) (n:=q) ZMB z ZMB ZMB rr s).lessS (D':=((M.wV (put2 V2 rr s z)).fam q::⟨rwP m Y1,rwS m Y1⟩::D)) Zb10).part (List.sublist_cons_self _ _))
   obtain ⟨V9,hV9⟩:∃V9,V9=put2 V2 rr s z:=⟨_,rfl⟩
   rw [←hV9] at K HG3 HQ
   clear hV9 hki
   have cd:=(HDb.out _ _ _ _ K ZMB).1
   go_wp2_with fail
   clear cd
   go_loopg [91] m (fun gk s91 wr=>∃(k:Nat) (b3:Bool) (Y3:Nat→Rw) (V3:Nat→Nat→Rw),k≤m∧gk=m-k∧s91=.int .i64 k∧Hid (jdE m Y3)∧Hid (jdj q M.N V3)∧Hid (XcQ M.N rr s k b9 b3 Y1 Y3 V9 V3)∧St w0 ((db,(Value.bool b3::[.slice (some ⟨hb,0,none⟩) m hc,.int .i64 gv.s,.slice gv.A gv.n gv.c,.int .i64 gv.t,.slice gv.B gv.m gv.d,.slice (some ⟨M.rb m,0,none⟩) M.N (M.cp m),.slice (some ⟨ob,0,none⟩) m oc,.slice (some ⟨fb,0,none⟩) M.N fc]).toArray,92)::(hb,recA Ln.cs m (lnF Y3 (M.hd q)) HJ,90)::((M.wV V3).rows q++((ob,recA iEnc m (fun i=>((own i:Nat):Int)) OJ,3)::(fb,recA iEnc M.N (fun i=>((free i:Nat):Int)) FJ,3)::L1))) ((M.wV V3).fam q::⟨rwP m Y3,rwS m Y3⟩::D) wr)
   case atStart=>exact ⟨0,_,Y1,V9,Nat.zero_le _,rfl,rfl,HGY1,HG3,jpk (XcQ.zero _ rr s _ _ _),K⟩
   case round =>
    clear K HG3
    obtain ⟨k,b3,Y3,V3,hk,rfl,rfl,HY3,HV3,HX,K⟩:=hrel
    by_cases hlt:k<m
    ·have hki:(k:Int)<(m:Int):=by omega
     have hk0:(0:Int)≤(k:Int):=by omega
     by_cases hkr:k=rr
     ·have hse:((k:Int) !=(rr:Int))=false:=by simp [hkr]
      have HX2:=jpk (show XcQ M.N rr s (k+1) b9 b3 Y1 Y3 V9 V3 from by
       subst hkr
       exact HX.out.skip)
      clear HX hkr
      go_wp2_with fail
      go_roundg (m-(k+1))
      case rel=>exact ⟨k+1,b3,Y3,V3,hlt,rfl,by go_num,HY3,HV3,HX2,K⟩
      case measure=>omega
     ·have hse:((k:Int) !=(rr:Int))=true:=by simp;omega
      have HT:=jpk (jku w0 wr M _ D m q k rr s db hb HJ [.slice (some ⟨hb,0,none⟩) m hc,.int .i64 gv.s,.slice gv.A gv.n gv.c,.int .i64 gv.t,.slice gv.B gv.m gv.d,.slice (some ⟨M.rb m,0,none⟩) M.N (M.cp m),.slice (some ⟨ob,0,none⟩) m oc,.slice (some ⟨fb,0,none⟩) M.N fc] b3 Y3 V3 K hlt Hmq.out Hrm.out hkr Hs.out hN HCP.out HY3.out HV3.out)
      have HSt:=jpk (fun b4 Y4 V4 h1 h2 h3=>HX.out.step (b2:=b4) (Y2:=Y4) (V2:=V4) hkr h1 h2 h3)
      have cd:=(HDb.out _ _ _ _ K ZMB).1
      clear HX
      go_wp2_with (go_at_call 134;refine HT.out.mono ?_;rintro e w5 ⟨b4,Y4,V4,rfl,H1,H2,H3,H4,k5⟩)
      have HX2:=jpk (HSt.out _ _ _ H2.out H3.out H4.out)
      clear HT HSt H2 H3 H4 K
      go_roundg (m-(k+1))
      case rel=>exact ⟨k+1,b4,Y4,V4,hlt,rfl,by go_num,jpk H1.out.1,jpk H1.out.2,HX2,k5⟩
      case measure=>omega
    ·have e:k=m:=by omega
     have hki:¬(k:Int)<(m:Int):=by omega
     have HX2:=jpk (show XcQ M.N rr s m b9 b3 Y1 Y3 V9 V3 from by rw [←e];exact HX.out)
     clear e HX
     have HT:=jpk (jkt w0 wr M _ D m q m rr s db hb HJ [.slice (some ⟨hb,0,none⟩) m hc,.int .i64 gv.s,.slice gv.A gv.n gv.c,.int .i64 gv.t,.slice gv.B gv.m gv.d,.slice (some ⟨M.rb m,0,none⟩) M.N (M.cp m),.slice (some ⟨ob,0,none⟩) m oc,.slice (some ⟨fb,0,none⟩) M.N fc] b3 Y3 V3 K Hmq.out Hr.out Hrm.out (by have:=Hrm.out;omega) Hs.out hN HCP.out HY3.out HV3.out rfl)
     go_upto_region 17 with (go_at_call 134;refine HT.out.mono ?_;rintro e w5 ⟨b4,Y4,V4,rfl,H1,H2,H3,H4,k5⟩)
     have HALL:=jpk (jpj (own:=own) (free:=free) HX0.out Hrm.out Hs.out HF1.out HYV.out HQ.out.1 HQ.out.2 HX2.out H2.out H3.out H4.out)
     obtain ⟨-,co,cf⟩:=HDb.out _ _ _ _ k5 ZMB
     have c1:=(k5.blk (b:=ob) (cs:=recA iEnc m (fun i=>((own i:Nat):Int)) OJ) (t:=3) Zb17).cell (jm9 Hrm.out)
     have c2:=(k5.blk (b:=fb) (cs:=recA iEnc M.N (fun i=>((free i:Nat):Int)) FJ) (t:=3) Zb17).cell (jm9 Hs.out)
     have z1:=k5.thaw (g:=ob) (cs:=recA iEnc m (fun i=>((own i:Nat):Int)) OJ) (t:=3) Zb17
     have z2:=k5.thaw (g:=fb) (cs:=recA iEnc M.N (fun i=>((free i:Nat):Int)) FJ) (t:=3) Zb17
     have hne:ob≠fb:=(List.pairwise_cons.1 (k5.part (L':=((ob,recA iEnc m (fun i=>((own i:Nat):Int)) OJ,3)::(fb,recA iEnc M.N (fun i=>((free i:Nat):Int)) FJ,3)::L1)) ((List.sublist_append_right _ _).trans ((List.sublist_cons_self _ _).trans (List.sublist_cons_self _ _)))).2.2.1).1 _ List.mem_cons_self
     have hne':fb≠ob:=fun e=>hne e.symm
     have K9:=(k5.drew.setI (n:=m) (g:=ob) (i:=rr) (f:=(fun i=>((own i:Nat):Int))) (t:=3) (J:=OJ) ((free s:Nat):Int) Hrm.out (.tail _ (.tail _ (Upd.pre (.head _) _)))).setI (n:=M.N) (g:=fb) (i:=s) (f:=(fun i=>((free i:Nat):Int))) (t:=3) (J:=FJ) ((own rr:Nat):Int) Hs.out (.tail _ (.tail _ (Upd.pre (.tail _ (.head _)) _)))
     rw [jg4,jg4] at K9
     have KS:=jpk K9
     clear K9 k5 K HT HX2 H2 H3 H4 HQ HYV HF1
     go_region
     all_goals
      go_wp2_with fail
      have HE:=jpk (⟨b4,Y4,V4,rfl,H1,HALL,KS.out⟩:XchP w0 L1 D M m q rr s db hb hc ob oc fb fc gv HJ OJ FJ b Y V own free (.returned (.tuple #[])) _)
      exact bodyPost_ret (v:=.tuple #[]) (by simp [results,Tryz.results112,go_sem]) rfl HE.out
end Go.Proofs.YtgikfcjndiohjaaGreat
