/- Laws and walks; conditions stand in each theorem. -/
import Derived.Test.YtdlcglndhhndpaaGreatP25
set_option linter.unusedSimpArgs false
set_option linter.unusedVariables false
namespace Go.Proofs.YtdlcglndhhndpaaGreat
open Go.RowKit
def XcQ (N r s k:Nat) (b b':Bool) (Y Y':Nat→Rw) (V V':Nat→Nat→Rw):Prop :=
 FulK b b' (∀i,i<k→i≠r→jaM (Y i).q (V i s).q (Y r).q=true∧TkF N i r s V)∧(∀i,(k≤i∨i=r)→Y' i=Y i∧∀j,V' i j=V i j)∧∀i,i<k→i≠r→(jaM (Y i).q (V i s).q (Y r).q=true→(Y' i).q=(Y i).q-(V i s).q*(Y r).q)∧∀j,j<N→jaM (if j=s then 0 else (V i j).q) (V i s).q (V r j).q=true→(V' i j).q=(if j=s then 0 else (V i j).q)-(V i s).q*(V r j).q
theorem XcQ.zero (N r s:Nat) (b:Bool) (Y:Nat→Rw) (V:Nat→Nat→Rw):XcQ N r s 0 b b Y Y V V :=
 ⟨⟨fun h=>⟨h,fun j hj=>absurd hj ZO⟩,fun h=>h.1⟩,fun i _=>⟨rfl,fun _=>rfl⟩,fun i hi=>absurd hi ZO⟩
theorem XcQ.skip {N r s:Nat} {b b':Bool} {Y Y':Nat→Rw} {V V':Nat→Nat→Rw} (h:XcQ N r s r b b' Y Y' V V'):XcQ N r s (r+1) b b' Y Y' V V' :=
 ⟨h.1.congr ⟨fun h i hi hne=>h i ZO hne,fun h i hi hne=>h i ZO hne⟩,fun i hi=>h.2.1 i ZO,fun i hi hne=>h.2.2 i ZO hne⟩
theorem TkF.congr {N i r s:Nat} {V V':Nat→Nat→Rw} (h1:∀j,V' i j=V i j) (h2:∀j,V' r j=V r j):TkF N i r s V'↔TkF N i r s V:=by
 unfold TkF;simp only [h1,h2]
theorem XcQ.step {N r s k:Nat} {b b' b2:Bool} {Y Y' Y2:Nat→Rw} {V V' V2:Nat→Nat→Rw} (h:XcQ N r s k b b' Y Y' V V') (hkr:k≠r) (h1:FulK b' b2 (TkY false k r s Y' V'∧TkF N k r s V')) (h2:TkV N k r s V' V2) (h3:TkW false k r s Y' V' Y2):XcQ N r s (k+1) b b2 Y Y2 V V2:=by
 obtain ⟨g1,g2,g3⟩:=h;obtain ⟨e1,e2⟩:=g2 k (Or.inl (Nat.le_refl _));obtain ⟨e3,e4⟩:=g2 r (Or.inr rfl);unfold TkY at h1;unfold TkW at h3;rw [TkF.congr e2 e4,e1,e2,e3] at h1;rw [e1,e2,e3] at h3;refine ⟨(g1.trans h1).congr ⟨fun hh i hi hne=>?_,fun hh=>⟨fun i hi hne=>hh i ZO hne,fun _=>(hh k ZO hkr).1,(hh k ZO hkr).2⟩⟩,fun i hi=>?_,fun i hi hne=>?_⟩
 ·by_cases e:i=k
  ·rw [e];exact ⟨hh.2.1 rfl,hh.2.2⟩
  ·exact hh.1 i ZO hne
 ·have hne:i≠k:=by omega
  obtain ⟨a1,a2⟩:=g2 i ZO;exact ⟨(h3.1 i hne).trans a1,fun j=>(h2.1 i j hne).trans (a2 j)⟩
 ·by_cases e:i=k
  ·rw [e];refine ⟨h3.2.2 rfl,fun j hj hk=>?_⟩;have:=h2.2 j hj;rw [e2,e2,e4] at this;exact this hk
  ·obtain ⟨a1,a2⟩:=g3 i ZO hne;refine ⟨fun hk=>?_,fun j hj hk=>?_⟩
   ·rw [h3.1 i e];exact a1 hk
   ·rw [h2.1 i j e];exact a2 j hj hk
def dcOf (m:Nat) (Y:Nat→Rw) (V:Nat→Nat→Rw) (own free:Nat→Nat):Dc:=⟨fun i=>(Y i).q,fun i j=>(V i j).q,fun j=>(V m j).q,own,free⟩
structure Dc.Eqv (m n:Nat) (D D':Dc):Prop where
 v:∀i,i<m→D.v i=D'.v i
 a:∀i j,i<m→j<n→D.a i j=D'.a i j
 c:∀j,j<n→D.c j=D'.c j
 own:∀i,i<m→D.own i=D'.own i
 free:∀j,j<n→D.free j=D'.free j
theorem Dc.fitX_iff {m n r s:Nat} {D:Dc}:D.fitX m n r s=true↔divK (D.v r) (D.a r s)=true∧(∀j,j<n→divK (if j=s then 1 else D.a r j) (D.a r s)=true)∧(∀i,i<m→i≠r→jaM (D.v i) (D.a i s) (D.v r / D.a r s)=true∧∀j,j<n→jaM (if j=s then 0 else D.a i j) (D.a i s) ((if j=s then 1 else D.a r j) / D.a r s)=true)∧∀j,j<n→jaM (if j=s then 0 else D.c j) (D.c s) ((if j=s then 1 else D.a r j) / D.a r s)=true:=by
 have e:∀x y z,lesK x y z=jaM x y z:=fun x y z=>rfl
 unfold Dc.fitX;simp only [Bool.and_eq_true,Bool.or_eq_true,decide_eq_true_eq,List.all_eq_true,List.mem_range,e,and_assoc];refine and_congr Iff.rfl (and_congr Iff.rfl (and_congr ⟨fun h i hi hne=>?_,fun h i hi=>?_⟩ Iff.rfl))
 ·rcases h i hi with h|h
  ·exact absurd h hne
  ·exact h
 ·by_cases hne:i=r
  ·exact Or.inl hne
  ·exact Or.inr (h i hi hne)
theorem jjP {m N r s:Nat} {b b1 b9 b3 b4:Bool} {Y Y1 Y3 Y4:Nat→Rw} {V V9 V3 V4:Nat→Nat→Rw} {own free:Nat→Nat} {p:Rat} (hp:p=(V r s).q) (hr:r<m) (hs:s<N)
 (h1:FulK b b1 (divK (Y r).q p=true)) (h2:(∀k,k≠r→Y1 k=Y k)∧(divK (Y r).q p=true→(Y1 r).q=(Y r).q / p))
 (h3:FulK b1 b9 (DvF N r s p V)) (h4:DvV N r s p V V9) (h5:XcQ N r s m b9 b3 Y1 Y3 V9 V3)
 (h6:FulK b3 b4 (TkY true m r s Y3 V3∧TkF N m r s V3)) (h7:TkV N m r s V3 V4) (h8:TkW true m r s Y3 V3 Y4) :
 FulK b b4 ((dcOf m Y V own free).fitX m N r s=true)∧((dcOf m Y V own free).fitX m N r s=true→(dcOf m Y4 V4 (putF own r (free s)) (putF free s (own r))).Eqv m N ((dcOf m Y V own free).xch r s)):=by
 obtain ⟨k1,k2,k3⟩:=h5;obtain ⟨m1,m2⟩:=k2 m (Or.inl (Nat.le_refl _));obtain ⟨m3,m4⟩:=k2 r (Or.inr rfl);have h8:=h8.2.1 rfl;subst h8;unfold TkY at h6;rw [TkF.congr m2 m4] at h6;have hv:∀i j,i≠r→V9 i j=V i j:=fun i j hne=>h4.1 i j hne
 have hvr:(∀j,j<N→divK (if j=s then 1 else (V r j).q) p=true)→∀j,j<N→(V9 r j).q=(if j=s then 1 else (V r j).q) / p:=fun hk j hj=>h4.2 j hj (hk j hj)
 have hmr:m≠r:=by omega
 have key:(divK (Y r).q p=true∧DvF N r s p V)→(((∀i,i<m→i≠r→jaM (Y1 i).q (V9 i s).q (Y1 r).q=true∧TkF N i r s V9)∧TkF N m r s V9)↔((∀i,i<m→i≠r→jaM (Y i).q (V i s).q ((Y r).q / p)=true∧∀j,j<N→jaM (if j=s then 0 else (V i j).q) (V i s).q ((if j=s then 1 else (V r j).q) / p)=true)∧∀j,j<N→jaM (if j=s then 0 else (V m j).q) (V m s).q ((if j=s then 1 else (V r j).q) / p)=true)):=fun ⟨c1,c2⟩=>by
  have e1:=h2.2 c1;have e2:=hvr c2
  have tk:∀i,i≠r→(TkF N i r s V9↔∀j,j<N→jaM (if j=s then 0 else (V i j).q) (V i s).q ((if j=s then 1 else (V r j).q) / p)=true):=fun i hne=>by
   unfold TkF;refine forall_congr' fun j=>forall_congr' fun hj=>?_
   rw [e2 j hj,hv i j hne,hv i s hne]
  refine and_congr (forall_congr' fun i=>forall_congr' fun hi=>forall_congr' fun hne=>?_) (tk m hmr);rw [tk i hne,e1,h2.1 i hne,hv i s hne]
 have hful:FulK b b4 ((dcOf m Y V own free).fitX m N r s=true):=by
  refine (((h1.trans h3).trans k1).trans h6).congr ?_;rw [Dc.fitX_iff];show _↔divK (Y r).q (V r s).q=true∧(∀j,j<N→divK (if j=s then 1 else (V r j).q) (V r s).q=true)∧(∀i,i<m→i≠r→jaM (Y i).q (V i s).q ((Y r).q / (V r s).q)=true∧∀j,j<N→jaM (if j=s then 0 else (V i j).q) (V i s).q ((if j=s then 1 else (V r j).q) / (V r s).q)=true)∧∀j,j<N→jaM (if j=s then 0 else (V m j).q) (V m s).q ((if j=s then 1 else (V r j).q) / (V r s).q)=true;rw [←hp];constructor
  ·rintro ⟨⟨⟨c1,c2⟩,c3⟩,-,c4⟩;obtain ⟨d1,d2⟩:=(key ⟨c1,c2⟩).1 ⟨c3,c4⟩;exact ⟨c1,c2,d1,d2⟩
  ·rintro ⟨c1,c2,d1,d2⟩;obtain ⟨c3,c4⟩:=(key ⟨c1,c2⟩).2 ⟨d1,d2⟩;exact ⟨⟨⟨c1,c2⟩,c3⟩,(fun e=>by cases e),c4⟩
 refine ⟨hful,fun hf=>?_⟩;rw [Dc.fitX_iff] at hf
 change divK (Y r).q (V r s).q=true∧(∀j,j<N→divK (if j=s then 1 else (V r j).q) (V r s).q=true)∧(∀i,i<m→i≠r→jaM (Y i).q (V i s).q ((Y r).q / (V r s).q)=true∧∀j,j<N→jaM (if j=s then 0 else (V i j).q) (V i s).q ((if j=s then 1 else (V r j).q) / (V r s).q)=true)∧(∀j,j<N→jaM (if j=s then 0 else (V m j).q) (V m s).q ((if j=s then 1 else (V r j).q) / (V r s).q)=true) at hf
 rw [←hp] at hf;obtain ⟨c1,c2,d1,d2⟩:=hf;obtain ⟨c3,c4⟩:=(key ⟨c1,c2⟩).2 ⟨d1,d2⟩;have e1:=h2.2 c1;have e2:=hvr c2;refine ⟨fun i hi=>?_,fun i j hi hj=>?_,fun j hj=>?_,fun i hi=>?_,fun j hj=>?_⟩
 ·show (Y4 i).q=if i=r then (Y r).q / (V r s).q else (Y i).q-(V i s).q*((Y r).q / (V r s).q)
  rw [←hp];by_cases e:i=r
  ·rw [if_pos e,e,m3,e1]
  ·rw [if_neg e,(k3 i hi e).1 (c3 i hi e).1,e1,h2.1 i e,hv i s e]
 ·show (V4 i j).q=if i=r then (if j=s then 1 / (V r s).q else (V r j).q / (V r s).q) else (if j=s then 0-(V i s).q*(1 / (V r s).q) else (V i j).q-(V i s).q*((V r j).q / (V r s).q))
  rw [←hp,h7.1 i j ZO];by_cases e:i=r
  ·rw [if_pos e,e,m4,e2 j hj]
   split <;> rfl
  ·rw [if_neg e,(k3 i hi e).2 j hj ((c3 i hi e).2 j hj),e2 j hj,hv i j e,hv i s e]
   split <;> rfl
 ·show (V4 m j).q=if j=s then 0-(V m s).q*(1 / (V r s).q) else (V m j).q-(V m s).q*((V r j).q / (V r s).q)
  have:=h7.2 j hj;rw [m2,m2,m4] at this;rw [←hp,this (c4 j hj),e2 j hj,hv m j hmr,hv m s hmr]
  split <;> rfl
 ·show putF own r (free s) i=if i=r then free s else own i
  by_cases e:i=r
  ·rw [if_pos e,e,jaf]
  ·rw [if_neg e,jad e]
 ·show putF free s (own r) j=if j=s then own r else free j
  by_cases e:j=s
  ·rw [if_pos e,e,jaf]
  ·rw [if_neg e,jad e]
def DvS (r s k:Nat) (p:Rat) (b b':Bool) (V V':Nat→Nat→Rw):Prop :=
 FulK b b' (∀j,j<k→divK (if j=s then 1 else (V r j).q) p=true)∧(∀l j,¬(l=r∧j<k)→V' l j=V l j)∧∀j,j<k→divK (if j=s then 1 else (V r j).q) p=true→(V' r j).q=(if j=s then 1 else (V r j).q) / p
theorem FulK.none {b:Bool} {P:Prop} (h:P):FulK b b P:=⟨fun e=>⟨e,h⟩,fun e=>e.1⟩
theorem DvS.zero (r s:Nat) (p:Rat) (b:Bool) (V:Nat→Nat→Rw):DvS r s 0 p b b V V :=
 ⟨FulK.none fun j hj=>absurd hj ZO,fun _ _ _=>rfl,fun j hj=>absurd hj ZO⟩
theorem DvS.step {r s k:Nat} {p:Rat} {b b' b2:Bool} {V V':Nat→Nat→Rw} {x:Rw} {z:Rat} (h:DvS r s k p b b' V V') (h2:b2=(b'|| !divK (if k=s then 1 else (V r k).q) p)) (hx:isQ x z) (hz:divK (if k=s then 1 else (V r k).q) p=true→z=(if k=s then 1 else (V r k).q) / p):DvS r s (k+1) p b b2 V (put2 V' r k x):=by
 exact ZQ52
theorem DvS.last {r s N:Nat} {p:Rat} {b b':Bool} {V V':Nat→Nat→Rw} (h:DvS r s N p b b' V V'):FulK b b' (DvF N r s p V)∧DvV N r s p V V' :=
 ⟨h.1,fun l j hl=>h.2.1 l j (fun e=>hl e.1),h.2.2⟩
def TkS (i r s k:Nat) (b b':Bool) (V V':Nat→Nat→Rw):Prop :=
 FulK b b' (∀j,j<k→jaM (if j=s then 0 else (V i j).q) (V i s).q (V r j).q=true)∧(∀l j,¬(l=i∧j<k)→V' l j=V l j)∧∀j,j<k→jaM (if j=s then 0 else (V i j).q) (V i s).q (V r j).q=true→(V' i j).q=(if j=s then 0 else (V i j).q)-(V i s).q*(V r j).q
theorem TkS.zero (i r s:Nat) (b:Bool) (V:Nat→Nat→Rw):TkS i r s 0 b b V V :=
 ⟨FulK.none fun j hj=>absurd hj ZO,fun _ _ _=>rfl,fun j hj=>absurd hj ZO⟩
theorem TkS.step {i r s k:Nat} {b b' b2:Bool} {V V':Nat→Nat→Rw} {x:Rw} {z:Rat} (h:TkS i r s k b b' V V') (h2:b2=(b'|| !jaM (if k=s then 0 else (V i k).q) (V i s).q (V r k).q)) (hx:isQ x z) (hz:jaM (if k=s then 0 else (V i k).q) (V i s).q (V r k).q=true→z=(if k=s then 0 else (V i k).q)-(V i s).q*(V r k).q):TkS i r s (k+1) b b2 V (put2 V' i k x):=by
 exact ZQ52
theorem TkS.last {i r s N:Nat} {b b':Bool} {V V':Nat→Nat→Rw} (h:TkS i r s N b b' V V'):FulK b b' (TkF N i r s V)∧TkV N i r s V V' :=
 ⟨h.1,fun l j hl=>h.2.1 l j (fun e=>hl e.1),h.2.2⟩
theorem FulK.one (b k:Bool):FulK b (b|| !k) (k=true):=by
 unfold FulK;cases b <;> cases k <;> simp
theorem FulK.turn {b x y k:Bool} {P:Prop} (h:FulK b x P) (h2:y=(x|| !k)):FulK b (b|| !k) (k=true)∧FulK (b|| !k) y P:=by
 unfold FulK at *;subst h2;cases b <;> cases k <;> cases x <;> simp_all
theorem jk3 {m N r s:Nat} {b x b9 b3 b4:Bool} {Y Y1 Y3:Nat→Rw} {V V9 V3 V4:Nat→Nat→Rw} {own free:Nat→Nat} {p:Rat} {zv:Rw} {z:Rat} (hp:p=(V r s).q) (hr:r<m) (hs:s<N)
 (h3:DvS r s N p b x V V9) (h9:b9=(x|| !divK (Y r).q p)) (hz:isQ zv z) (hzz:divK (Y r).q p=true→z=(Y r).q / p) (hY1:Y1=putF Y r zv) (h5:XcQ N r s m b9 b3 Y1 Y3 V9 V3)
 (h6:TkS m r s N b3 b4 V3 V4) :
 FulK b b4 ((dcOf m Y V own free).fitX m N r s=true)∧((dcOf m Y V own free).fitX m N r s=true→(dcOf m Y3 V4 (putF own r (free s)) (putF free s (own r))).Eqv m N ((dcOf m Y V own free).xch r s)):=by
 obtain ⟨d1,d2⟩:=h3.last;obtain ⟨t1,t2⟩:=d1.turn h9;obtain ⟨q1,q2⟩:=h6.last;refine jjP (Y4:=Y3) hp hr hs t1 ⟨fun k hk=>by rw [hY1,jad hk],fun hk=>by rw [hY1,jaf,hz.q];exact hzz hk⟩ t2 d2 h5 (q1.congr ⟨fun h=>⟨(fun e=>by cases e),h⟩,fun h=>h.2⟩) q2 ⟨fun _ _=>rfl,fun _=>rfl,fun e=>by cases e⟩
theorem XcQ.row {N r s k:Nat} {b b' bA b2:Bool} {Y Y':Nat→Rw} {V V' V2:Nat→Nat→Rw} {x:Rw} {z:Rat} (h:XcQ N r s k b b' Y Y' V V') (hkr:k≠r) (hA:bA=(b'|| !jaM (Y' k).q (V' k s).q (Y' r).q)) (hx:isQ x z) (hz:jaM (Y' k).q (V' k s).q (Y' r).q=true→z=(Y' k).q-(V' k s).q*(Y' r).q) (h2:TkS k r s N bA b2 V' V2):XcQ N r s (k+1) b b2 Y (putF Y' k x) V V2:=by
 obtain ⟨q1,q2⟩:=h2.last;refine h.step hkr ?_ q2 ⟨fun j hj=>jad hj,(fun e=>by cases e),fun _ hk=>by rw [jaf,hx.q];exact hz hk⟩;refine (FulK.trans (?_:FulK b' bA (TkY false k r s Y' V')) q1);rw [hA];exact (FulK.one b' _).congr ⟨fun h _=>h,fun h=>h rfl⟩
end Go.Proofs.YtdlcglndhhndpaaGreat
