/- Laws and walks; conditions stand in each theorem. -/
import Derived.OrdersHeld
import Derived.Laws.BitsAllLaws
import Derived.Laws.BitsLemmas
import Derived.Deep.RegionHeld3
import Derived.Test.YtdlcglndhhndpaaGreatP14
set_option linter.unusedSimpArgs false
set_option linter.unusedVariables false
set_option maxHeartbeats 1000000
set_option maxRecDepth 100000
namespace Go.Proofs.YtdlcglndhhndpaaGreat
open Go.RowKit
def smQ (f:Nat→Rat):Nat→Rat
 | 0=>0
 | n+1=>smQ f n+f n
theorem ja1 {f g:Nat→Rat}:∀ {n:Nat},(∀i,i<n→f i=g i)→smQ f n=smQ g n
 | 0,_=>rfl
 | n+1,h=>by rw [smQ,smQ,ja1 (fun i hi=>h i ZO),h n ZO]
theorem jjE (f g:Nat→Rat):∀n:Nat,smQ (fun i=>f i-g i) n=smQ f n-smQ g n
 | 0=>by rw [smQ,smQ,smQ];grind
 | n+1=>by rw [smQ,smQ,smQ,jjE f g n];grind
theorem jjD {f g:Nat→Rat}:∀ {n:Nat},(∀i,i<n→f i≤g i)→smQ f n≤smQ g n
 | 0,_=>by simp [smQ]
 | n+1,h=>by
  have h1:=jjD (fun i hi=>h i ZO) (n:=n);have h2:=h n ZO;rw [smQ,smQ]
  grind
theorem jmj {f g:Nat→Rat}:∀ {n:Nat},(∀i,i<n→f i≤g i)→(∃i,i<n∧f i<g i)→smQ f n<smQ g n
 | 0,_,⟨i,hi,_⟩=>absurd hi (Nat.not_lt_zero i)
 | n+1,h,⟨i,hi,hlt⟩=>by
  have h2:=h n ZO;rw [smQ,smQ];by_cases e:i=n
  ·subst e;have h1:=jjD (fun j hj=>h j ZO) (n:=i)
   grind
  ·have h1:=jmj (fun j hj=>h j ZO) ⟨i,by omega,hlt⟩ (n:=n)
   grind
theorem jfj {f g:Nat→Rat} {b:Nat} {c:Rat}:∀ {n:Nat},b<n→g b=f b+c→(∀i,i<n→i≠b→g i=f i)→smQ g n=smQ f n+c
 | 0,hb,_,_=>absurd hb (Nat.not_lt_zero b)
 | n+1,hb,h1,h2=>by
  rw [smQ,smQ];by_cases e:b=n
  ·subst e;rw [ja1 (f:=g) (g:=f) (fun i hi=>h2 i ZO ZO),h1]
   grind
  ·rw [jfj ZO h1 (fun i hi=>h2 i ZO),h2 n ZO (fun e'=>e e'.symm)]
   grind
def FrV (w:World) (q:Rat) (e:Ending) (w':World):Prop :=
 ∃s A n cap l t A' n' cap' m,e=.returned (.agg #[.int .i64 s,.slice A n cap,.int .i64 t,.slice A' n' cap'])∧(RdI w' w'.heap.size A n cap l∧RdI w' w'.heap.size A' n' cap' m)∧StdF s l t m q∧(FrA w.heap.size A∧FrA w.heap.size A')∧Below w.heap.size w w'
theorem jfp {x y:Rat} (h:addK x y=true):jbc (x+y)=true:=by
 unfold addK sumK at h;simp only [Bool.and_eq_true] at h;rw [←jgf];exact jcn (jbA x y) h.1.2.2 h.2
theorem St.part {w W:World} {L L':List Blk} {D:List Hl} (h:St w L D W) (hs:L'.Sublist L):St w L' D W :=
 h.pick (fun p hp=>hs.subset hp) (h.2.2.1.sublist hs)
theorem jbR {x:Fv} (h:x.ok=true):StdF x.s x.l x.t x.m x.rat∧jbc x.rat=true:=jay h
theorem jbn:jbc 0=true:=by decide +kernel
def putF {α:Type} (v:Nat→α) (i:Nat) (x:α):Nat→α:=fun k=>if k=i then x else v k
theorem jaf {α:Type} (v:Nat→α) (i:Nat) (x:α):putF v i x i=x:=if_pos rfl
theorem jad {α:Type} {v:Nat→α} {i k:Nat} {x:α} (h:k≠i):putF v i x k=v k:=if_neg h
structure Rw where
 s:Int
 A:Option Addr
 n:Nat
 c:Nat
 l:List Int
 t:Int
 B:Option Addr
 m:Nat
 d:Nat
 k:List Int
def Rw.fv (x:Rw):Fv:=⟨x.s,x.l,x.t,x.k⟩
def Rw.cs (x:Rw):List Value:=[.int .i64 x.s,.slice x.A x.n x.c,.int .i64 x.t,.slice x.B x.m x.d]
def Rw.on (x:Rw) (W:World):Prop:=rdP x.A x.n x.c x.l W∧rdP x.B x.m x.d x.k W
def Rw.S (x:Rw) (b:Nat):Prop:=rdS x.A x.n b∨rdS x.B x.m b
def Rw.zero:Rw:=⟨0,none,0,0,[],0,none,0,0,[]⟩
theorem jax:jbs 4 Rw.cs:=⟨by omega,fun x=>⟨rfl,by
 intro u hu;simp [Rw.cs] at hu
 rcases hu with rfl|rfl|rfl|rfl <;> rfl⟩⟩
def rwA (n:Nat) (v:Nat→Rw) (J:List Value:=[]):Array Value:=((ofF n v).flatMap Rw.cs++J).toArray
theorem jeb {n:Nat} {v:Nat→Rw}:((ofF n v).flatMap Rw.cs).length=n*4:=by rw [ja6 jax,jam]
theorem jg5 {n:Nat} {v:Nat→Rw} {J:List Value}:(rwA n v J).size=n*4+J.length:=by
 unfold rwA;simp only [List.size_toArray,List.length_append];rw [jeb]
theorem jaH {n i j:Nat} {v:Nat→Rw} {J:List Value} (hi:i<n) (hj:j<4):(rwA n v J)[i*4+j]?=(v i).cs[j]?:=by
 unfold rwA;rw [List.getElem?_toArray,List.getElem?_append_left (by rw [jeb];omega),jbh jax _ _ _ hj,jbf hi];rfl
theorem jmf {n i:Nat} {v:Nat→Rw} {J:List Value} (h:n*4≤i):(rwA n v J)[i]?=J[i-n*4]?:=by
 unfold rwA;rw [List.getElem?_toArray,List.getElem?_append_right (by rw [jeb];exact h),jeb]
theorem jju {n i:Nat} {v:Nat→Rw} {J:List Value} (hi:i<n) (x:Rw):spl (rwA n v J) (i*4) x.cs=rwA n (putF v i x) J:=by
 apply Array.ext_getElem?;intro q;have hsz:(rwA n v J).size=n*4+J.length:=jg5;have hl:x.cs.length=4:=rfl;rw [jdB _ _ _ _ (by rw [hsz,hl];omega),hl];by_cases hq:q<n*4
 ·have hk:q / 4<n:=by omega
  have hj:q%4<4:=by omega
  have e:q / 4*4+q%4=q:=by omega
  have h1:(rwA n (putF v i x) J)[q]?=(putF v i x (q / 4)).cs[q%4]?:=by rw [←jaH hk hj,e]
  have h2:(rwA n v J)[q]?=(v (q / 4)).cs[q%4]?:=by rw [←jaH hk hj,e]
  rw [h1,h2];by_cases hb:q / 4=i
  ·rw [if_pos ZO,hb,jaf]
   congr 1
   omega
  ·rw [if_neg ZO,jad hb]
 ·rw [if_neg ZO,jmf ZO,jmf ZO]
def rwP (n:Nat) (v:Nat→Rw):World→Prop:=fun W=>∀i,i<n→(v i).on W
def rwS (n:Nat) (v:Nat→Rw):Nat→Prop:=fun b=>∃i,i<n∧(v i).S b
theorem jdP (W:World):rdP none 0 0 [] W:=Rd.nil
theorem jg1 {b:Nat}:¬rdS none 0 b:=fun h=>Nat.lt_irrefl 0 h.1
section
variable {w W W':World} {L L':List Blk} {D:List Hl} {n:Nat} {v:Nat→Rw}
theorem St.rwNew (h:St w L D W) (n:Nat):St w L (⟨rwP n (fun _=>Rw.zero),rwS n (fun _=>Rw.zero)⟩::D) W :=
 h.add ⟨fun i _=>⟨jdP W,jdP W⟩,(fun b ⟨i,_,hS⟩=>by
  rcases hS with h|h
  ·exact absurd h jg1
  ·exact absurd h jg1),fun W' _ _ i _=>⟨jdP W',jdP W'⟩⟩
theorem St.rwPut (h:St w L D W) (x:Rw) (i:Nat) (m1:(⟨rwP n v,rwS n v⟩:Hl)∈D) (m2:(⟨rdP x.A x.n x.c x.l,rdS x.A x.n⟩:Hl)∈D) (m3:(⟨rdP x.B x.m x.d x.k,rdS x.B x.m⟩:Hl)∈D):St w L (⟨rwP n (putF v i x),rwS n (putF v i x)⟩::D) W:=by
 have k1:=h.2.2.2 _ m1;have k2:=h.2.2.2 _ m2;have k3:=h.2.2.2 _ m3;refine h.add ⟨fun j hj=>?_,fun b hS=>?_,fun W' h1 h2 j hj=>?_⟩
 ·by_cases e:j=i
  ·subst e;rw [jaf];exact ⟨k2.1,k3.1⟩
  ·rw [jad e];exact k1.1 j hj
 ·obtain ⟨j,hj,hS⟩:=hS;by_cases e:j=i
  ·subst e;rw [jaf] at hS;rcases hS with hS|hS
   ·exact k2.2.1 b hS
   ·exact k3.2.1 b hS
  ·rw [jad e] at hS;exact k1.2.1 b ⟨j,hj,hS⟩
 ·by_cases e:j=i
  ·exact ZQ113
  ·rw [jad e];have k4:=(k1.1 j hj);have hS1:=fun b (hS:(v j).S b)=>h2 b ⟨j,hj,by rw [jad e];exact hS⟩
   have key:∀ {A:Option Addr} {n c:Nat} {l:List Int},rdP A n c l W→(∀b,rdS A n b→W'.heap[b]?=W.heap[b]?)→rdP A n c l W':=fun {A n c l} hl hk=>by
    refine ⟨hl.1,hl.2.1,hl.2.2.1,fun hn=>?_⟩;obtain ⟨b',off,e,hlt,hc⟩:=hl.2.2.2 hn;refine ⟨b',off,e,Nat.lt_of_lt_of_le hlt h1,fun k hk'=>?_⟩;obtain ⟨cs,hr,hlen,hj⟩:=hc k hk';exact ⟨cs,hr,hlen,fun j u hu=>(jbX (p:=⟨b',off+k*1+j,none⟩) (hk b' ⟨hn,_,e,rfl⟩)).trans (hj j u hu)⟩
   exact ⟨key k4.1 fun b hS=>hS1 b (Or.inl hS),key k4.2 fun b hS=>hS1 b (Or.inr hS)⟩
theorem St.rdF (h:St w L D W) {g cap:Nat} {t:TypeId} {J:List Value} (hb:((g,rwA n v J,t):Blk)∈L) (hm:(⟨rwP n v,rwS n v⟩:Hl)∈D) (hc:n≤cap∧cap≤1000000):RdF W W.heap.size (some ⟨g,0,none⟩) n cap (ofF n fun i=>(v i).fv):=by
 have hB:=h.blk hb;refine ⟨jam,hc.1,⟨by omega,by omega⟩,fun hn=>⟨g,0,rfl,hB.lt,fun k hk=>?_⟩⟩;rw [jam] at hk;refine ⟨(v k).cs,?_,rfl,fun j u hu=>?_⟩
 ·have e:(ofF n fun i=>(v i).fv)[k]'(by rw [jam];exact hk)=(v k).fv:=by
   have:=jbf (f:=fun i=>(v i).fv) hk;exact ZQ75
  rw [e];exact ⟨_,_,_,_,_,_,rfl,(h.at hm k hk).1,(h.at hm k hk).2⟩
 ·have hj:j<4:=(List.getElem?_eq_some_iff.1 hu).1;rw [Nat.zero_add];exact hB.cell ((jaH hk hj).trans hu)
end
theorem madeA {z:Array Value} {α:Type} {sz:Nat} {enc:α→List Value} (hs:jbs sz enc) (x:α) (hz:z=(enc x).toArray) (n:Nat):madeCells z (n*sz)=((ofF n fun _=>x).flatMap enc).toArray:=by
 have h:=jdk hs x (.agg z) (by rw [hz];rfl) n;rw [jcC] at h;rw [←h];rfl
section
variable {P:Program} {ops:Array Oper} {rest:List Oper} {o:Oper} {a:Act} {Q:Exit→Act→World→Prop}
variable {w W:World} {L L':List Blk} {D:List Hl}
theorem St.make (K:St w L D W) (hgd:o.guard=none) (l c:Operand) (t e:TypeId) (ho:o.op=Op.makeSlice t l c) (z:Array Value) (sz bytes:Nat) (ht:P.underlying t=some (.slice e)) (hi:(P.info? e).map (fun i=>(i.zero.map (·.cells),i.size,i.bytes))=some (some z,sz,bytes))
 (n:Nat) (hl:a.eval l=.int .i64 (n:Int)) (hc:a.eval c=.int .i64 (n:Int)) (cs:Array Value) (hcs:madeCells z (n*sz)=cs) (hb:bytes*n≤281474976710656) (hn:n≤1000000)
 (h:∀W' b,St w ((b,cs,e)::L) D W'→wpList P ops Q rest (a.put o.dst (.slice (some ⟨b,0,none⟩) n n)) W'):wpList P ops Q (o::rest) a W:=by
 refine wpList_plain hgd fun _ hK=>?_
 obtain ⟨i,h1,h2⟩:=Option.map_eq_some_iff.1 hi;simp only [Prod.mk.injEq] at h2;obtain ⟨h2,h3,h4⟩:=h2;obtain ⟨zv,h5,h6⟩:=Option.map_eq_some_iff.1 h2
 have hb':(i.bytes:Int)*(n:Int)≤281474976710656:=by
  have h:((i.bytes*n:Nat):Int)≤281474976710656:=by rw [h4];omega
  rwa [Int.natCast_mul] at h
 have hr:=run_make (P:=P) W t e i zv ht h1 h5 .i64 .i64 n n ZO (Int.le_refl _) hb' ZO;simp only [Int.toNat_natCast,h3] at hr;rw [h6,hcs] at hr;unfold Oper.wp;simp [execOp,ho,hl,hc,hr,Result.andThen];exact hK _ _ (h _ _ (K.new cs e))
end
theorem jdL:(Tryz.prog.info? 3).map (fun i=>(i.zero.map (·.cells),i.size,i.bytes))=some (some #[.int .i64 0],1,8):=by kernel_rfl
theorem jaF:(Tryz.prog.info? 50).map (fun i=>(i.zero.map (·.cells),i.size,i.bytes))=some (some #[.int .i64 0,.slice none 0 0,.int .i64 0,.slice none 0 0],4,64):=by kernel_rfl
theorem jez (n:Nat):madeCells #[.int .i64 0,.slice none 0 0,.int .i64 0,.slice none 0 0] (n*4)=rwA n (fun _=>Rw.zero):=by
 rw [madeA (z:=#[.int .i64 0,.slice none 0 0,.int .i64 0,.slice none 0 0]) jax Rw.zero rfl n];unfold rwA;rw [List.append_nil]
theorem St.set4Z {w W:World} {L L':List Blk} {D:List Hl} {b:Nat} {t:TypeId} (h:St w L D W) {x0 x1 x2 x3 u0 u1 u2 u3:Value} (hU:Upd b #[x0,x1,x2,x3] t #[u0,u1,u2,u3] L L') :
 St w L' D ((((W.setCell ⟨b,0,none⟩ u0).setCell ⟨b,1,none⟩ u1).setCell ⟨b,2,none⟩ u2).setCell ⟨b,3,none⟩ u3) :=
 h.upd hU ((((jbM.set W b 0 u0).trans (jbM.set _ b 1 u1)).trans (jbM.set _ b 2 u2)).trans (jbM.set _ b 3 u3)) (((((h.blk hU.mem).set (j:=0) u0).set (j:=1) u1).set (j:=2) u2).set (j:=3) u3)
theorem St.perm {w W:World} {L L':List Blk} {D:List Hl} (h:St w L D W) (hp:L'.Perm L):St w L' D W :=
 h.pick (fun p hm=>hp.subset hm) (hp.symm.pairwise h.2.2.1 (fun {a b} hab e=>hab e.symm))
def OwL {α:Type} (sz:Nat) (enc:α→List Value) (e:TypeId) (v:Value) (l:List α) (X:List Blk):Prop :=
 (v=.slice none 0 0∧l=[]∧X=[])∨∃g cap J,v=.slice (some ⟨g,0,none⟩) l.length cap∧X=[(g,(l.flatMap enc++J).toArray,e)]∧l.length≤cap∧cap≤maxLen∧(l.flatMap enc++J).length=cap*sz
section
variable {α:Type} {sz:Nat} {enc:α→List Value} {e:TypeId} {v:Value} {l:List α} {X:List Blk} {w W W':World} {L:List Blk} {D:List Hl}
theorem OwL.nil:OwL sz enc e (.slice none 0 0) ([]:List α) []:=Or.inl ⟨rfl,rfl,rfl⟩
theorem OwL.own (hs:jbs sz enc) (h:OwL sz enc e v l X) (K:St w (X++L) D W):Own sz enc W w.heap.size e v l:=by
 rcases h with ⟨rfl,rfl,rfl⟩|⟨g,cap,J,rfl,rfl,h1,h2,h3⟩
 ·exact Own.nil
 ·have hb:=K.2.1 _ (List.mem_append_left _ (List.mem_singleton.2 rfl));refine ⟨ja6 hs l,Or.inr ⟨g,cap,_,rfl,hb.1,hb.2,h1,h2,by simpa using h3,?_⟩⟩;rw [←ja6 hs l];simp
theorem OwL.of (hs:jbs sz enc) (ho:OwL sz enc e v l X) (K:St w (X++L) D W) {v':Value} {l':List α} (h:Own sz enc W' w.heap.size e v' l') (hk:Kept (fun b=>v.ownBlock=some b) W W') (hf:∀g,v'.ownBlock=some g→v.ownBlock=some g∨W.heap.size≤g) :
 ∃X',OwL sz enc e v' l' X'∧St w (X'++L) D W':=by
 have hXb:∀b,v.ownBlock=some b→∃c,(b,c,e)∈X:=fun b hb=>by
  rcases ho with ⟨rfl,rfl,rfl⟩|⟨g,cap,J,rfl,rfl,h1,h2,h3⟩
  ·cases hb
  ·have hb:some g=some b:=hb;injection hb with hb
   subst hb;exact ⟨_,List.mem_singleton.2 rfl⟩
 have hpw:=List.pairwise_append.1 K.2.2.1
 have hL:∀p∈L,¬v.ownBlock=some p.1:=fun p hp e=>by
  obtain ⟨c,hc⟩:=hXb _ e;exact hpw.2.2 _ hc p hp rfl
 have hbase:∀b,v.ownBlock=some b→w.heap.size≤b:=fun b hb=>by
  obtain ⟨c,hc⟩:=hXb _ hb;exact (K.2.1 _ (List.mem_append_left _ hc)).1
 have hD:∀x∈D,∀b,x.S b→¬v.ownBlock=some b:=fun x hx b hS e=>by
  obtain ⟨c,hc⟩:=hXb _ e;exact ((K.2.2.2 x hx).2.1 b hS).2 _ (List.mem_append_left _ hc) rfl
 have hbel:Below w.heap.size w W':=K.1.trans ⟨hk.os,hk.tape,hk.output,hk.size,fun i hi=>hk.block i (Nat.lt_of_lt_of_le hi K.1.size) (fun e=>by have:=hbase i e;omega)⟩
 have KL:∀p∈L,w.heap.size≤p.1∧Hb W' p.1 p.2.1 p.2.2:=fun p hp=>by
  have h1:=K.2.1 p (List.mem_append_right _ hp);exact ⟨h1.1,h1.2.of (hk.block _ h1.2.lt (hL p hp))⟩
 have KD:∀x∈D,x.P W'∧(∀b,x.S b→b<W'.heap.size)∧(∀W'':World,W'.heap.size≤W''.heap.size→(∀b,x.S b→W''.heap[b]?=W'.heap[b]?)→x.P W''):=fun x hx=>by
  have h1:=K.2.2.2 x hx;have hb:=fun b hS=>hk.block b ((h1.2.1 b hS).1) (hD x hx b hS)
  refine ⟨h1.2.2 W' hk.size hb,fun b hS=>Nat.lt_of_lt_of_le (h1.2.1 b hS).1 hk.size,fun W'' h2 h3=>h1.2.2 W'' (Nat.le_trans hk.size h2) (fun b hS=>(h3 b hS).trans (hb b hS))⟩
 rcases h.2 with ⟨rfl,h0⟩|⟨g,cap,cur,hv,hg,hh,hnc,hcm,hcs,htake⟩
 ·have:l'=[]:=List.eq_nil_of_length_eq_zero h0;subst this;exact ⟨[],OwL.nil,hbel,KL,hpw.2.1,fun x hx=>⟨(KD x hx).1,fun b hS=>⟨(KD x hx).2.1 b hS,fun p hp=>((K.2.2.2 x hx).2.1 b hS).2 p (List.mem_append_right _ hp)⟩,(KD x hx).2.2⟩⟩
 ·subst hv;have hfg:=hf g rfl
  have hne:∀p∈L,g≠p.1:=fun p hp e=>by
   rcases hfg with h1|h1
   ·exact hL p hp (by rw [h1,e])
   ·have:=(K.2.1 p (List.mem_append_right _ hp)).2.lt;omega
  have hneD:∀x∈D,∀b,x.S b→g≠b:=fun x hx b hS e=>by
   rcases hfg with h1|h1
   ·exact hD x hx b hS (by rw [h1,e])
   ·have:=((K.2.2.2 x hx).2.1 b hS).1;omega
  have hcur:cur=(l'.flatMap enc++cur.toList.drop (l'.length*sz)).toArray:=by
   rw [←htake,List.take_append_drop]
  refine ⟨[(g,cur,e)],Or.inr ⟨g,cap,cur.toList.drop (l'.length*sz),rfl,by rw [←hcur],hnc,hcm,?_⟩,hbel,fun p hp=>?_,List.Pairwise.cons (fun p hp=>hne p hp) hpw.2.1,fun x hx=>⟨(KD x hx).1,fun b hS=>⟨(KD x hx).2.1 b hS,fun p hp=>?_⟩,(KD x hx).2.2⟩⟩
  ·rw [←htake,List.take_append_drop]
   simpa using hcs
  ·rcases List.mem_cons.1 hp with rfl|hp
   ·exact ⟨hg,hh⟩
   ·exact KL p hp
  ·rcases List.mem_cons.1 hp with rfl|hp
   ·exact hneD x hx b hS
   ·exact ((K.2.2.2 x hx).2.1 b hS).2 p (List.mem_append_right _ hp)
variable {P:Program} {ops:Array Oper} {rest:List Oper} {o:Oper} {a:Act} {Q:Exit→Act→World→Prop}
theorem St.app1 (K:St w (X++L) D W) (ho:OwL sz enc e v l X) (hs:jbs sz enc) (hgd:o.guard=none) (s x:Operand) (t:TypeId)
 (hop:o.op=.call { callee:=.builtin .append,args:=#[s,x],argTypes:=#[t,t] })
 (z:Array Value) (bytes:Nat) (ht:P.underlying t=some (.slice e)) (hi:(P.info? e).map (fun i=>(i.zero.map (·.cells),i.size,i.bytes))=some (some z,sz,bytes)) (hz:z.size=sz)
 (hv:a.eval s=v) (y:α) (cs:Array Value) (hcs:cs=(enc y).toArray) (H:Nat) (hH:W.heap.size=H) (hx:a.eval x=.slice (some ⟨H,0,none⟩) 1 1)
 (hlen:l.length≤1000000) (hbb:bytes≤1000)
 (h:∀v' X' W',OwL sz enc e v' (l++[y]) X'→St w (X'++L) D W'→wpList P ops Q rest (a.put o.dst v') W'):wpList P ops Q (o::rest) a (W.alloc (.cells cs e)):=by
 obtain ⟨i,h1,h2⟩:=Option.map_eq_some_iff.1 hi;simp only [Prod.mk.injEq] at h2;obtain ⟨h2,h3,h4⟩:=h2;obtain ⟨zv,h5,h6⟩:=Option.map_eq_some_iff.1 h2;refine jbk hs hgd s x t hop w.heap.size e i zv bytes ht h1 h5 h3 h4 (by rw [h6,hz]) v l hv (ho.own hs K) y cs hcs H hH hx hlen hbb K.1.size ?_;intro v' w' ho' hk hf _;obtain ⟨X',hX,K'⟩:=ho.of hs K ho' hk hf;exact h v' X' w' hX K'
end
def fvQ (q:Rat):Fv:=⟨sgI q.num,digs q.num.natAbs,sgI q.den,digs (q.den:Int).natAbs⟩
theorem StdF.fv {s t:Int} {l m:List Int} {q:Rat} (h:StdF s l t m q):(⟨s,l,t,m⟩:Fv)=fvQ q:=by
 obtain ⟨⟨e1,e2⟩,e3,e4⟩:=h;subst e1 e2 e3 e4;rfl
section
variable {w W W':World} {L X:List Blk} {D:List Hl} {n:Nat} {v:Nat→Rw}
theorem St.rwAdd (h:St w L D W) (x:Rw) (m1:(⟨rwP n v,rwS n v⟩:Hl)∈D) (m2:(⟨rdP x.A x.n x.c x.l,rdS x.A x.n⟩:Hl)∈D) (m3:(⟨rdP x.B x.m x.d x.k,rdS x.B x.m⟩:Hl)∈D):St w L (⟨rwP (n+1) (putF v n x),rwS (n+1) (putF v n x)⟩::D) W:=by
 have k1:=h.2.2.2 _ m1;have k2:=h.2.2.2 _ m2;have k3:=h.2.2.2 _ m3;refine h.add ⟨fun j hj=>?_,fun b hS=>?_,fun W' h1 h2 j hj=>?_⟩
 ·by_cases e:j=n
  ·subst e;rw [jaf];exact ⟨k2.1,k3.1⟩
  ·rw [jad e];exact k1.1 j ZO
 ·obtain ⟨j,hj,hS⟩:=hS;by_cases e:j=n
  ·subst e;rw [jaf] at hS;rcases hS with hS|hS
   ·exact k2.2.1 b hS
   ·exact k3.2.1 b hS
  ·rw [jad e] at hS;exact k1.2.1 b ⟨j,by omega,hS⟩
 ·by_cases e:j=n
  ·exact ZQ113
  ·rw [jad e]
   exact k1.2.2 W' h1 (fun b hS=>by
    obtain ⟨i,hi,hS⟩:=hS
    exact h2 b ⟨i,by omega,by rw [jad ZO];exact hS⟩) j ZO
theorem jaP {α:Type} {n:Nat} {v:Nat→α} {x:α}:ofF n v++[x]=ofF (n+1) (putF v n x):=by
 rw [jcU,jaf]
 congr 1
 exact jav fun i hi=>(jad ZO).symm
theorem OwL.rdF {e:TypeId} {val:Value} (h:OwL 4 Rw.cs e val (ofF n v) X) (K:St w (X++L) D W) (hm:(⟨rwP n v,rwS n v⟩:Hl)∈D) (hn:n≤1000000):∃A cap,val=.slice A n cap∧RdF W W.heap.size A n cap (ofF n fun i=>(v i).fv):=by
 rcases h with ⟨rfl,h0,rfl⟩|⟨g,cap,J,rfl,rfl,h1,h2,h3⟩
 ·have:n=0:=by rw [←jam (n:=n) (f:=v),h0];rfl
  subst this;exact ⟨none,0,rfl,Rd.nil⟩
 ·rw [jam] at h1 ⊢;have hB:=K.blk (b:=g) (List.mem_append_left _ (List.mem_singleton.2 rfl));refine ⟨_,cap,rfl,jam,h1,⟨by unfold maxLen at h2;exact h2,by omega⟩,fun hn=>⟨g,0,rfl,hB.lt,fun k hk=>?_⟩⟩;rw [jam] at hk;refine ⟨(v k).cs,?_,rfl,fun j u hu=>?_⟩
  ·have e:(ofF n fun i=>(v i).fv)[k]'(by rw [jam];exact hk)=(v k).fv:=by
    have:=jbf (f:=fun i=>(v i).fv) hk;exact ZQ75
   rw [e];exact ⟨_,_,_,_,_,_,rfl,(K.at hm k hk).1,(K.at hm k hk).2⟩
  ·have hj:j<4:=(List.getElem?_eq_some_iff.1 hu).1;rw [Nat.zero_add];exact hB.cell ((jaH (J:=J) hk hj).trans hu)
theorem OwL.rdI {e:TypeId} {val:Value} {f:Nat→Int} (h:OwL 1 iEnc e val (ofF n f) X) (K:St w (X++L) D W) (hn:n≤1000000):∃A cap,val=.slice A n cap∧RdI W W.heap.size A n cap (ofF n f):=by
 obtain ⟨A,cap,h1,h2⟩:=(h.own jaq K).rd jaq Zb3;rw [jam] at h1 h2;exact ⟨A,cap,h1,h2⟩
theorem OwL.blk {e:TypeId} {val:Value} {sz:Nat} {α:Type} {enc:α→List Value} {f:Nat→α} (h:OwL sz enc e val (ofF n f) X) (hn:0<n):∃g cap J,val=.slice (some ⟨g,0,none⟩) n cap∧X=[(g,((ofF n f).flatMap enc++J).toArray,e)]∧n≤cap∧cap≤9223372036854775807:=by
 rcases h with ⟨rfl,h0,rfl⟩|⟨g,cap,J,rfl,rfl,h1,h2,h3⟩
 ·have:n=0:=by rw [←jam (n:=n) (f:=f),h0];rfl
  omega
 ·rw [jam] at h1 ⊢;exact ⟨g,cap,J,rfl,rfl,h1,by unfold maxLen at h2;exact h2⟩
end
def FrK (w w':World) (A:Option Addr) (n cap:Nat) (l:List Fv):Prop:=∀W:World,w'.heap.size≤W.heap.size→(∀b,w.heap.size≤b→b<w'.heap.size→W.heap[b]?=w'.heap[b]?)→RdF W W.heap.size A n cap l
theorem FrK.now {w w':World} {A:Option Addr} {n cap:Nat} {l:List Fv} (h:FrK w w' A n cap l):RdF w' w'.heap.size A n cap l:=h w' (Nat.le_refl _) (fun _ _ _=>rfl)
def betS (w w':World):Nat→Prop:=fun b=>w.heap.size≤b∧b<w'.heap.size
def rfQ (A:Option Addr) (n cap:Nat) (l:List Fv):World→Prop:=fun W=>RdF W W.heap.size A n cap l
section
variable {w W W':World} {L:List Blk} {D:List Hl}
theorem St.addK (K:St w L D W) (hb:Below W.heap.size W W') {A:Option Addr} {n cap:Nat} {l:List Fv} (h:FrK W W' A n cap l):St w L (⟨rfQ A n cap l,betS W W'⟩::D) W' :=
 (K.keep hb).add ⟨h.now,fun b hS=>⟨hS.2,fun p hp e=>by
  have h1:=(K.2.1 p hp).2.lt;have h2:=hS.1
  omega⟩,fun W'' h1 h2=>h W'' h1 (fun b h3 h4=>h2 b ⟨h3,h4⟩)⟩
theorem St.getQ (K:St w L D W) {A:Option Addr} {n cap:Nat} {l:List Fv} {S:Nat→Prop} (hm:(⟨rfQ A n cap l,S⟩:Hl)∈D):RdF W W.heap.size A n cap l:=K.at hm
end
theorem OwL.frK {w W:World} {X L:List Blk} {D:List Hl} {n:Nat} {v:Nat→Rw} {e:TypeId} {val:Value} (h:OwL 4 Rw.cs e val (ofF n v) X) (K:St w (X++L) D W) (hm:(⟨rwP n v,rwS n v⟩:Hl)∈D) (hn:n≤1000000) (hf:∀b,rwS n v b→w.heap.size≤b):∃A cap,val=.slice A n cap∧FrK w W A n cap (ofF n fun i=>(v i).fv):=by
 rcases h with ⟨rfl,h0,rfl⟩|⟨g,cap,J,rfl,rfl,h1,h2,h3⟩
 ·have:n=0:=by rw [←jam (n:=n) (f:=v),h0];rfl
  subst this;exact ⟨none,0,rfl,fun W' _ _=>Rd.nil⟩
 ·rw [jam] at h1 ⊢;have hB:=K.2.1 _ (List.mem_append_left _ (List.mem_singleton.2 rfl));have hD:=K.2.2.2 _ hm;refine ⟨_,cap,rfl,fun W' g1 g2=>?_⟩;have hv:rwP n v W':=hD.2.2 W' g1 (fun b hS=>g2 b (hf b hS) (hD.2.1 b hS).1);have hB':Hb W' g (rwA n v J) e:=hB.2.of (g2 g hB.1 hB.2.lt);refine ⟨jam,h1,⟨by unfold maxLen at h2;exact h2,by omega⟩,fun hn=>⟨g,0,rfl,hB'.lt,fun k hk=>?_⟩⟩;rw [jam] at hk;refine ⟨(v k).cs,?_,rfl,fun j u hu=>?_⟩
  ·have e:(ofF n fun i=>(v i).fv)[k]'(by rw [jam];exact hk)=(v k).fv:=by
    have:=jbf (f:=fun i=>(v i).fv) hk;exact ZQ75
   rw [e];exact ⟨_,_,_,_,_,_,rfl,(hv k hk).1,(hv k hk).2⟩
  ·have hj:j<4:=(List.getElem?_eq_some_iff.1 hu).1;rw [Nat.zero_add];exact hB'.cell ((jaH (J:=J) hk hj).trans hu)
def recA {α:Type} (enc:α→List Value) (n:Nat) (v:Nat→α) (J:List Value):Array Value:=((ofF n v).flatMap enc++J).toArray
section
variable {α:Type} {sz:Nat} {enc:α→List Value} {n i j:Nat} {v f g:Nat→α} {J:List Value}
theorem jdp (hs:jbs sz enc):((ofF n v).flatMap enc).length=n*sz:=by rw [ja6 hs,jam]
theorem jcD (hs:jbs sz enc):(recA enc n v J).size=n*sz+J.length:=by
 unfold recA;simp only [List.size_toArray,List.length_append];rw [jdp hs]
theorem jcS {i n sz:Nat} (h:i<n):i*sz+sz≤n*sz:=by
 have:=Nat.mul_le_mul_right sz (show i+1≤n from h);rw [Nat.add_mul] at this;omega
theorem jcV (hs:jbs sz enc) (hi:i<n) (hj:j<sz):(recA enc n v J)[i*sz+j]?=(enc (v i))[j]?:=by
 unfold recA;have h1:=jcS (sz:=sz) hi;rw [List.getElem?_toArray,List.getElem?_append_left (by rw [jdp hs];omega),jbh hs _ _ _ hj,jbf hi];rfl
theorem jjn (hs:jbs sz enc) (h:n*sz≤i):(recA enc n v J)[i]?=J[i-n*sz]?:=by
 unfold recA;rw [List.getElem?_toArray,List.getElem?_append_right (by rw [jdp hs];exact h),jdp hs]
theorem jg2 (hs:jbs sz enc) (hi:i<n) (x:α):spl (recA enc n v J) (i*sz) (enc x)=recA enc n (putF v i x) J:=by
 apply Array.ext_getElem?;intro q;have hsz:=jcD (n:=n) (v:=v) (J:=J) hs;have hl:(enc x).length=sz:=(hs.2 x).1;have hp:=hs.1;have hin:=jcS (sz:=sz) hi;rw [jdB _ _ _ _ (by rw [hsz,hl];omega),hl];by_cases hq:q<n*sz
 ·obtain ⟨k,j,rfl,hj⟩:∃k j,q=k*sz+j∧j<sz:=⟨q / sz,q%sz,(by rw [Nat.mul_comm];exact (Nat.div_add_mod q sz).symm),Nat.mod_lt _ hp⟩
  have hk:k<n:=by
   apply Nat.lt_of_not_le;intro h;have:=Nat.mul_le_mul_right sz h;omega
  rw [jcV hs hk hj,jcV hs hk hj];by_cases e:k=i
  ·subst e;rw [if_pos ZO,jaf]
   congr 1
   omega
  ·rw [jad e,if_neg];rcases Nat.lt_or_gt_of_ne e with h|h
   ·have:=jcS (sz:=sz) h;omega
   ·have:=jcS (sz:=sz) h;omega
 ·rw [if_neg ZO,jjn hs ZO,jjn hs ZO]
theorem jeC (h:∀i,i<n→f i=g i):recA enc n f J=recA enc n g J:=by
 unfold recA;rw [jav h]
end
structure Hd where
 A:Option Addr
 n:Nat
 c:Nat
def Hd.cs (x:Hd):List Value:=[.slice x.A x.n x.c]
theorem je6:jbs 1 Hd.cs:=⟨by omega,fun x=>⟨rfl,by intro u hu;simp [Hd.cs] at hu;subst hu;rfl⟩⟩
section
variable {w W W':World} {L L':List Blk} {D:List Hl}
theorem jf9 {n i:Nat} {h:Nat→Hd} {J:List Value} (hi:i<n):(recA Hd.cs n h J)[i]?=some (.slice (h i).A (h i).n (h i).c):=by
 have:=jcV (J:=J) (v:=h) je6 hi (show 0<1 by omega);rw [Nat.mul_one,Nat.add_zero] at this;exact this
def famP {ι:Type} (I:ι→Prop) (P:ι→World→Prop) (S:ι→Nat→Prop):World→Prop:=fun W=>∀i,I i→P i W∧∀W':World,W.heap.size≤W'.heap.size→(∀b,S i b→W'.heap[b]?=W.heap[b]?)→P i W'
def famS {ι:Type} (I:ι→Prop) (S:ι→Nat→Prop):Nat→Prop:=fun b=>∃i,I i∧S i b
theorem St.fam {ι:Type} {I:ι→Prop} {P:ι→World→Prop} {S:ι→Nat→Prop} (h:St w L D W) (hx:∀i,I i→(⟨P i,S i⟩:Hl).ok L W):St w L (⟨famP I P S,famS I S⟩::D) W :=
 h.add ⟨fun i hi=>⟨(hx i hi).1,(hx i hi).2.2⟩,fun b ⟨i,hi,hS⟩=>(hx i hi).2.1 b hS,fun W' h1 h2 i hi=>⟨(hx i hi).2.2 W' h1 (fun b hS=>h2 b ⟨i,hi,hS⟩),fun W'' h3 h4=>(hx i hi).2.2 W'' (Nat.le_trans h1 h3) (fun b hS=>(h4 b hS).trans (h2 b ⟨i,hi,hS⟩))⟩⟩
theorem St.famAt {ι:Type} {I:ι→Prop} {P:ι→World→Prop} {S:ι→Nat→Prop} (h:St w L D W) (hm:(⟨famP I P S,famS I S⟩:Hl)∈D) {i:ι} (hi:I i):(⟨P i,S i⟩:Hl).ok L W :=
 have k:=h.2.2.2 _ hm
 ⟨(k.1 i hi).1,fun b hS=>k.2.1 b ⟨i,hi,hS⟩,(k.1 i hi).2⟩
theorem St.okAt (h:St w L D W) {x:Hl} (hm:x∈D):x.ok L W:=h.2.2.2 _ hm
theorem Hl.ok.and {P Q:World→Prop} {S T:Nat→Prop} (h:(⟨P,S⟩:Hl).ok L W) (h':(⟨Q,T⟩:Hl).ok L W):(⟨fun W=>P W∧Q W,fun b=>S b∨T b⟩:Hl).ok L W :=
 ⟨⟨h.1,h'.1⟩,(fun b hS=>by
  rcases hS with hS|hS
  ·exact h.2.1 b hS
  ·exact h'.2.1 b hS),fun W' h1 h2=>⟨h.2.2 W' h1 (fun b hS=>h2 b (Or.inl hS)),h'.2.2 W' h1 (fun b hS=>h2 b (Or.inr hS))⟩⟩
theorem St.okR (h:St w L D W) {x:Rw} (m2:(⟨rdP x.A x.n x.c x.l,rdS x.A x.n⟩:Hl)∈D) (m3:(⟨rdP x.B x.m x.d x.k,rdS x.B x.m⟩:Hl)∈D):(⟨x.on,x.S⟩:Hl).ok L W:=(h.okAt m2).and (h.okAt m3)
theorem Upd.app {b:Nat} {cs cs':Array Value} {t:TypeId} (h:Upd b cs t cs' L L') (X:List Blk):Upd b cs t cs' (L++X) (L'++X):=by
 induction h with
 | head L=>exact Upd.head _
 | tail x h ih=>exact Upd.tail x ih
theorem Upd.pre {b:Nat} {cs cs':Array Value} {t:TypeId} (h:Upd b cs t cs' L L'):∀X:List Blk,Upd b cs t cs' (X++L) (X++L')
 | []=>h
 | x::X=>Upd.tail x (h.pre X)
theorem Upd.ofF {b:Nat} {cs cs':Array Value} {t:TypeId} (F:Nat→Blk) (r:Nat) (hF:F r=(b,cs,t)):∀n:Nat,r<n→Upd b cs t cs' (ofF n F) (ofF n (putF F r (b,cs',t)))
 | n+1,h=>by
  rw [jcU,jcU];by_cases e:r=n
  ·subst e;rw [jav (f:=putF F r (b,cs',t)) (g:=F) (fun i hi=>jad ZO),jaf,hF];exact (Upd.head []).pre _
  ·rw [jad (fun e'=>e e'.symm)];exact (Upd.ofF F r hF n ZO).app _
theorem jmc {α:Type} {n i:Nat} {f:Nat→α} (h:i<n):f i∈ofF n f:=List.mem_of_getElem? (jbf h)
end
theorem St.lessS {w W:World} {L:List Blk} {D D':List Hl} (h:St w L D W) (hs:D'.Sublist D):St w L D' W:=h.less fun x hx=>hs.subset hx
structure Mm where
 N:Nat
 rb:Nat→Nat
 cp:Nat→Nat
 J:Nat→List Value
 V:Nat→Nat→Rw
namespace Mm
def blk (M : Mm) (n i : Nat) : Blk := (M.rb i, rwA M.N (M.V i) (M.J i), 50)
def rows (M : Mm) (n : Nat) : List Blk := ofF n (M.blk n)
def fam (M : Mm) (n : Nat) : Hl := ⟨famP (fun p : Nat × Nat => p.1 < n ∧ p.2 < M.N) (fun p => (M.V p.1 p.2).on) (fun p => (M.V p.1 p.2).S), famS (fun p : Nat × Nat => p.1 < n ∧ p.2 < M.N) (fun p => (M.V p.1 p.2).S)⟩
def put (M : Mm) (r k : Nat) (x : Rw) : Mm := { M with V := putF M.V r (putF (M.V r) k x) }
theorem put_at (M : Mm) (r k : Nat) (x : Rw) : (M.put r k x).V r k = x := by
  show putF M.V r (putF (M.V r) k x) r k = x
  rw [jaf, jaf]
theorem put_ne (M : Mm) {r k i j : Nat} (x : Rw) (h : ¬ (i = r ∧ j = k)) : (M.put r k x).V i j = M.V i j := by
  show putF M.V r (putF (M.V r) k x) i j = _
  by_cases e : i = r
  · subst e
    rw [jaf, jad (fun e => h ⟨rfl, e⟩)]
  · rw [jad e]
def hd (M:Mm) (n i:Nat):Hd:=⟨some ⟨M.rb i,0,none⟩,M.N,M.cp i⟩
end Mm
section
variable {w W W':World} {L L' L0:List Blk} {D:List Hl} {M:Mm} {n r k:Nat}
theorem Mm.upd (hr:r<n) (x:Rw):Upd (M.rb r) (rwA M.N (M.V r) (M.J r)) 50 (rwA M.N (putF (M.V r) k x) (M.J r)) (M.rows n++L0) ((M.put r k x).rows n++L0):=by
 have h:=(Upd.ofF (cs':=rwA M.N (putF (M.V r) k x) (M.J r)) (M.blk n) r rfl n hr).app L0
 have e:Proofs.YtdlcglndhhndpaaGreat.ofF n (putF (M.blk n) r (M.rb r,rwA M.N (putF (M.V r) k x) (M.J r),50))=(M.put r k x).rows n:=by
  refine jav fun i hi=>?_
  show _=(M.rb i,rwA M.N (putF M.V r (putF (M.V r) k x) i) (M.J i),50);by_cases e:i=r
  ·subst e;rw [jaf,jaf]
  ·rw [jad e,jad e];rfl
 rw [e] at h;exact h
theorem Mm.mem (hr:r<n):((M.rb r,rwA M.N (M.V r) (M.J r),50):Blk)∈M.rows n++L0:=List.mem_append_left _ (jmc (f:=M.blk n) hr)
theorem St.famPut (K:St w L D W) (hm:M.fam n∈D) (x:Rw) (m2:(⟨rdP x.A x.n x.c x.l,rdS x.A x.n⟩:Hl)∈D) (m3:(⟨rdP x.B x.m x.d x.k,rdS x.B x.m⟩:Hl)∈D) (r k:Nat):St w L ((M.put r k x).fam n::D) W:=by
 refine K.fam fun p hp=>?_
 by_cases e:p.1=r∧p.2=k
 ·rw [e.1,e.2,Mm.put_at];exact K.okR m2 m3
 ·rw [Mm.put_ne M x e];exact K.famAt hm hp
theorem jbr {A:Option Addr} {n c:Nat} {l:List Int} (h:rdP A n c l W) (hs:W.heap.size≤W'.heap.size) (hb:∀b,rdS A n b→W'.heap[b]?=W.heap[b]?):rdP A n c l W':=by
 refine ⟨h.1,h.2.1,h.2.2.1,fun hn=>?_⟩;obtain ⟨b',off,e,hlt,hc⟩:=h.2.2.2 hn;refine ⟨b',off,e,Nat.lt_of_lt_of_le hlt hs,fun k hk=>?_⟩;obtain ⟨cs,hr,hlen,hj⟩:=hc k hk;exact ⟨cs,hr,hlen,fun j u hu=>(jbX (p:=⟨b',off+k*1+j,none⟩) (hb b' ⟨hn,_,e,rfl⟩)).trans (hj j u hu)⟩
theorem St.famRd (K:St w L D W) (hm:M.fam n∈D) {i j:Nat} (hi:i<n) (hj:j<M.N):St w L (⟨rdP (M.V i j).B (M.V i j).m (M.V i j).d (M.V i j).k,rdS (M.V i j).B (M.V i j).m⟩::⟨rdP (M.V i j).A (M.V i j).n (M.V i j).c (M.V i j).l,rdS (M.V i j).A (M.V i j).n⟩::D) W:=by
 have h:=K.famAt (i:=(i,j)) hm ⟨hi,hj⟩;have h1:(⟨rdP (M.V i j).A (M.V i j).n (M.V i j).c (M.V i j).l,rdS (M.V i j).A (M.V i j).n⟩:Hl).ok L W:=⟨h.1.1,fun b hS=>h.2.1 b (Or.inl hS),fun W' g1 g2=>jbr h.1.1 g1 g2⟩;have h2:(⟨rdP (M.V i j).B (M.V i j).m (M.V i j).d (M.V i j).k,rdS (M.V i j).B (M.V i j).m⟩:Hl).ok L W:=⟨h.1.2,fun b hS=>h.2.1 b (Or.inr hS),fun W' g1 g2=>jbr h.1.2 g1 g2⟩;exact (K.add h1).add h2
end
def isQ (x:Rw) (q:Rat):Prop:=StdF x.s x.l x.t x.k q∧jbc q=true
section
variable {N n r c i k:Nat} {m:Nat→Nat→Rat} {V:Nat→Nat→Rw}
end
section
variable {P:Program} {ops:Array Oper} {Q:Exit→Act→World→Prop} {md:Region.Mode} {S:World→Prop} {n:Nat}
def jaa (P:Program) (md:Region.Mode) (ops:Array Oper) (Q:Exit→Act→World→Prop) (S:World→Prop) (n:Nat):Nat→Array Bool→Act→World→Prop
 | 0,listed,a,w=>Region.ready md ops listed=[]∧Q .normal a w
 | fuel+1,listed,a,w=>(Region.ready md ops listed=[]→Q .normal a w)∧∀i∈Region.ready md ops listed,wpOp P ops Q i (fun a' w'=>(i≠n→S w')∧jaa P md ops Q S n fuel (listed.setIfInBounds i true) a' w') a w
theorem jaa.any:∀(fuel:Nat) (listed:Array Bool) (a:Act) (w:World),jaa P md ops Q S n fuel listed a w→wpAny P md ops Q fuel listed a w
 | 0,_,_,_,h=>h
 | fuel+1,_,_,_,h=>⟨h.1,fun i hi=>wpOp_mono (fun a' w' h'=>jaa.any fuel _ a' w' h'.2) (h.2 i hi)⟩
theorem jde {listed:Array Bool} {i:Nat} (h:listed.getD i true=false):listed.getD i false=false:=by
 rcases Nat.lt_or_ge i listed.size with h' | h'
 ·simp [h'] at h ⊢;exact h
 ·simp [Array.getElem?_eq_none h'] at h
theorem jaa.first {i:Nat} {oi:Oper} {v:Value} (hi:ops[i]?=some oi) (hin:i≠n) (hwait:∀on,ops[n]?=some on→∃e∈on.after,Region.binds md e=true∧e.on=i)
 (hsel:∀(j:Nat) (o:Oper) cs b,ops[j]?=some o→o.op≠.select cs b) (hQ:∀c a w,Q (.panic c) (a.put oi.dst v) w→Q (.panic c) a w) (fuel:Nat) :
 ∀(listed:Array Bool) (a:Act) (w:World),(∀j oj,ops[j]?=some oj→j≠i→listed.getD j true=false→(∀e∈oj.after,Region.binds md e=true→e.on≠i)→oi.apart ops oj=true) →
  i∈Region.ready md ops listed→YieldsIf P ops S oi v a→S w→jaa P md ops Q S n fuel (listed.setIfInBounds i true) (a.put oi.dst v) w→jaa P md ops Q S n (fuel+1) listed a w:=by
 induction fuel with
 | zero =>
  intro listed a w _ hr hy hS H;exact ZQ63
 | succ fuel ih =>
  intro listed a w hfree hr hy hS H;refine ⟨(fun h=>by rw [h] at hr;cases hr),fun j hj=>?_⟩;by_cases hji:j=i
  ·subst hji;exact hy.wpOp hi hS ⟨fun _=>hS,H⟩
  obtain ⟨hjun,oj,hoj,hall⟩:=mem_ready.1 hj;have hiun:=jde (mem_ready.1 hr).1
  have hno:∀e∈oj.after,Region.binds md e=true→e.on≠i:=fun e he hb heq=>by
   exact jjX
  have hjn:j≠n:=fun e=>by
   subst e;obtain ⟨e,he,hb,heq⟩:=hwait oj hoj;exact hno e he hb heq
  exact ZQ49
def jej (md:Region.Mode) (ops:Array Oper) (n i:Nat):Bool :=
 match ops[n]? with
 | some o=>o.after.any fun e=>Region.binds md e&&e.on==i
 | none=>true
theorem jaa.take {i:Nat} {oi:Oper} {v:Value} {fuel:Nat} {listed:Array Bool} {a:Act} {w:World} (hi:ops[i]?=some oi) (hB:(decide (i≠n)&&jej md ops n i&&Region.noSelect ops&&Region.free md ops listed i&&(Region.ready md ops listed).contains i)=true)
 (hQ:∀c a w,Q (.panic c) (a.put oi.dst v) w→Q (.panic c) a w) (hy:YieldsIf P ops S oi v a) (hS:S w) (h:jaa P md ops Q S n fuel (listed.setIfInBounds i true) (a.put oi.dst v) w):jaa P md ops Q S n (fuel+1) listed a w:=by
 simp only [Bool.and_eq_true,decide_eq_true_eq] at hB;obtain ⟨⟨⟨⟨h1,h2⟩,h3⟩,h4⟩,h5⟩:=hB;refine jaa.first hi h1 (fun on hon=>?_) (Region.noSelect_spec h3) hQ fuel listed a w (Region.free_spec hi h4) (by simpa using h5) hy hS h;unfold jej at h2;rw [hon] at h2;obtain ⟨e,he,hb⟩:=Array.any_eq_true'.1 h2;rw [Bool.and_eq_true,beq_iff_eq] at hb;exact ⟨e,he,hb⟩
theorem jaa.tk (i:Nat) {oi:Oper} {v:Value} {fuel:Nat} {listed:Array Bool} {a:Act} {w:World} {q:Prop} (hi:ops[i]?=some oi) (k:q) (hB:(decide (i≠n)&&jej md ops n i&&Region.noSelect ops&&Region.free md ops listed i&&(Region.ready md ops listed).contains i)=true:=by decide +kernel)
 (hQ:∀c a w,Q (.panic c) (a.put oi.dst v) w→Q (.panic c) a w:=by exact fun _ _ _ h=>h) (hy:YieldsIf P ops S oi v a:=by (refine Or.inl ⟨by rfl,?_⟩;intro w hSw;(try dsimp only at hSw);go_simp;try with_reducible rfl)) (hS:S w:=by assumption) (h:q→jaa P md ops Q S n fuel (listed.setIfInBounds i true) (a.put oi.dst v) w:=by (intro hq;(try simp only [Act.put,List.setIfInBounds_toArray,List.set_cons_zero,List.set_cons_succ]);exact hq)):jaa P md ops Q S n (fuel+1) listed a w :=
 jaa.take hi hB hQ hy hS (h k)
theorem jaa.one {i:Nat} {o:Oper} {fuel:Nat} {listed:Array Bool} {a:Act} {w:World} (ho:ops[i]?=some o) (hg:o.guard=none) (hB:(decide (i≠n)&&decide (Region.ready md ops listed=[i]))=true)
 (h:∀K:Act→World→Prop,Hid (∀a' w',S w'→(S w'→jaa P md ops Q S n fuel (listed.setIfInBounds i true) a' w')→K a' w')→o.wp P a w K Q):jaa P md ops Q S n (fuel+1) listed a w:=by
 simp only [Bool.and_eq_true,decide_eq_true_eq] at hB;refine ⟨(fun h0=>by rw [hB.2] at h0;cases h0),fun j hj=>?_⟩;rw [hB.2,List.mem_singleton] at hj;subst hj;have hw:Region.wanted o (yielded ops a.tmps)=true:=by simp [Region.wanted,hg]
 unfold wpOp;simp only [ho,hw,if_true];exact Or.inl (h _ (jmT fun a' w' hS hW=>⟨fun _=>hS,hW hS⟩))
theorem jaa.on (i:Nat) {o:Oper} {fuel:Nat} {listed:Array Bool} {a:Act} {w:World} (ho:ops[i]?=some o)
 (h:∀K:Act→World→Prop,Hid (∀a' w',S w'→(S w'→jaa P md ops Q S n fuel (listed.setIfInBounds i true) a' w')→K a' w')→o.wp P a w K Q) (hg:o.guard=none:=by rfl) (hB:(decide (i≠n)&&decide (Region.ready md ops listed=[i]))=true:=by kernel_rfl):jaa P md ops Q S n (fuel+1) listed a w :=
 jaa.one ho hg hB h
theorem jaa.last {o:Oper} {fuel:Nat} {listed:Array Bool} {a:Act} {w:World} (ho:ops[n]?=some o) (hB:(decide (Region.ready md ops listed=[n])&&decide (Region.ready md ops (listed.setIfInBounds n true)=[]))=true)
 (h:wpList P ops Q [o] a w):jaa P md ops Q S n (fuel+1) listed a w:=by
 simp only [Bool.and_eq_true,decide_eq_true_eq] at hB;refine ⟨(fun h0=>by rw [hB.1] at h0;cases h0),fun j hj=>?_⟩;rw [hB.1,List.mem_singleton] at hj;subst hj
 have hw:wpOp P ops Q j (wpList P ops Q []) a w:=by
  unfold wpOp;simp only [ho];exact h
 refine wpOp_mono (fun a' w' hK=>⟨fun e=>absurd rfl e,?_⟩) hw;cases fuel with
 | zero=>exact ⟨hB.2,hK⟩
 | succ fuel=>exact ⟨fun _=>hK,fun i hi=>by rw [hB.2] at hi;cases hi⟩
theorem jah {id:Nat} {a:Act} {w:World} (n:Nat) (S:World→Prop) (hm:P.follows .mixedOrders=true) (hS:S w.drew) (h:S w.drew→jaa P .any ops Q S n ops.size (Array.replicate ops.size false) a w.drew):(Code.region id ops true).wp P Q a w :=
 wp_region_any hm (jaa.any _ _ _ _ (h hS))
end
section
variable {P:Program} {ops:Array Oper} {rest:List Oper} {o:Oper} {a:Act} {Q:Exit→Act→World→Prop}
theorem St.storeR {w W:World} {L L':List Blk} {D:List Hl} (K:St w L D W) (hgd:o.guard=none) (hd:o.dst=none) (ty:TypeId) (x y:Operand) (ho:o.op=.store ty x y) (g i N:Nat) {v:Nat→Rw} {J:List Value} {t:TypeId} (z:Rw)
 (hx:a.eval x=.pointer (some ⟨g,i*4,none⟩)) (hy:a.eval y=.agg #[.int .i64 z.s,.slice z.A z.n z.c,.int .i64 z.t,.slice z.B z.m z.d]) (hi:i<N) (hU:Upd g (rwA N v J) t (rwA N (putF v i z) J) L L') (hz:(P.info? ty).map (·.size)=some 4)
 (h:∀W',St w L' D W'→wpList P ops Q rest a W'):wpList P ops Q (o::rest) a W :=
 K.store (off:=i*4) hgd hd ty x y ho _ hx hy z.cs rfl hU (jju hi z) hz (by rw [jg5];show i*4+4≤_;omega) (fun u hu=>by
  simp [Rw.cs] at hu
  rcases hu with rfl|rfl|rfl|rfl <;> rfl) h
end
theorem jjm {w:World} {B:Nat} {A:Option Addr} {n cap:Nat} {l:List Fv} (h:RdF w B A n cap l):∃v:Nat→Rw,Rd 4 (flat Rw.cs) w B A n cap (ofF n v)∧(∀i,i<n→RdI w B (v i).A (v i).n (v i).c (v i).l∧RdI w B (v i).B (v i).m (v i).d (v i).k)∧∀i,i<n→l[i]?=some (v i).fv:=by
 by_cases hn:n=0
 ·subst hn;exact ⟨fun _=>Rw.zero,⟨rfl,h.2.1,h.2.2.1,fun h=>absurd h ZO⟩,fun i hi=>absurd hi ZO,fun i hi=>absurd hi ZO⟩
 ·obtain ⟨b,off,rfl,hb,hc⟩:=h.2.2.2 ZO;have hl:=h.1
  have ex:∀k,k<n→∃x:Rw,l[k]?=some x.fv∧(∀(j:Nat) u,x.cs[j]?=some u→w.cell? ⟨b,off+k*4+j,none⟩=some u)∧RdI w B x.A x.n x.c x.l∧RdI w B x.B x.m x.d x.k:=fun k hk=>by
   obtain ⟨cs,⟨A1,n1,c1,A2,n2,c2,rfl,h1,h2⟩,_,hj⟩:=hc k ZO;exact ⟨⟨l[k].s,A1,n1,c1,l[k].l,l[k].t,A2,n2,c2,l[k].m⟩,by rw [List.getElem?_eq_getElem ZO];rfl,hj,h1,h2⟩
  obtain ⟨v,hv⟩:∃v:Nat→Rw,∀k,(hk:k<n)→v k=Classical.choose (ex k hk):=⟨fun k=>if hk:k<n then Classical.choose (ex k hk) else Rw.zero,fun k hk=>dif_pos hk⟩
  have hs:∀k,k<n→l[k]?=some (v k).fv∧(∀(j:Nat) u,(v k).cs[j]?=some u→w.cell? ⟨b,off+k*4+j,none⟩=some u)∧RdI w B (v k).A (v k).n (v k).c (v k).l∧RdI w B (v k).B (v k).m (v k).d (v k).k:=fun k hk=>by
   rw [hv k hk];exact Classical.choose_spec (ex k hk)
  refine ⟨v,⟨jam,h.2.1,h.2.2.1,fun _=>⟨b,off,rfl,hb,fun k hk=>?_⟩⟩,fun i hi=>(hs i hi).2.2,fun i hi=>(hs i hi).1⟩;rw [jam] at hk;refine ⟨(v k).cs,?_,rfl,(hs k hk).2.1⟩
  have e:(ofF n v)[k]'(by rw [jam];exact hk)=v k:=by
   have:=jbf (f:=v) hk;exact ZQ75
  rw [e];rfl
theorem jhk:∃i z,Tryz.prog.info? 50=some i∧i.zero=some z∧i.size=4∧i.bytes=64∧z.cells.size=4:=by
 obtain ⟨i,h1,h2⟩:=Option.map_eq_some_iff.1 jaF;simp only [Prod.mk.injEq] at h2;obtain ⟨h2,h3,h4⟩:=h2;obtain ⟨z,h5,h6⟩:=Option.map_eq_some_iff.1 h2;exact ⟨i,z,h1,h5,h3,h4,by rw [h6];rfl⟩
theorem jex (A:Option Addr) (n cap:Nat) (v:Nat→Rw) (w0 w:World) (L:List Blk) (D:List Hl) (K:St w0 L D w) (hl:Rd 4 (flat Rw.cs) w w.heap.size A n cap (ofF n v)) (hn2:n≤1000) :
 Calls Tryz.prog 84 #[.slice A n cap] w fun e w'=>∃val X,e=.returned val∧OwL 4 Rw.cs 50 val (ofF n v) X∧St w0 (X++L) D w':=by
 obtain ⟨i0,z0,hi0,hz0,hz1,hz2,hz3⟩:=jhk;have ho0:Own 4 Rw.cs (w.alloc (.cells #[] 50)) w.heap.size 50 (.slice (some ⟨w.heap.size,0,none⟩) 0 0) ([]:List Rw):=Own.lit jax (Nat.le_refl _) [] #[] rfl rfl ZO;have hb0:=(Below.refl w.heap.size w).alloc (Nat.le_refl _) (.cells #[] 50);have HK:=jmT K;cases A with
 | none =>
  have hn0:n=0:=by
   rcases Nat.eq_zero_or_pos n with h|h
   ·exact h
   ·obtain ⟨b,off,h,_⟩:=hl.2.2.2 h;cases h
  subst hn0;have hnil:=fun w=>run_eql_slice_nil (P:=Tryz.prog) w 23 50 none 0 cap Tryz.underlying23
  clear ho0 hb0 hl K;go_enter Tryz.func84,Tryz.ntmps84
  go_wp2
  go_ret;exact ⟨_,[],rfl,OwL.nil,HK.out⟩
 | some a =>
  have hnil:=fun w=>run_eql_slice_nil (P:=Tryz.prog) w 23 50 (some a) n cap Tryz.underlying23
  have hk0:=(Kept.refl (fun b=>(Value.slice none 0 0).ownBlock=some b) w).alloc (.cells #[] 50);clear K;go_enter Tryz.func84,Tryz.ntmps84
  go_wp2_with (at_builtin
               refine jbW _ jax rfl _ _ 23 rfl w.heap.size 50 i0 _ 64 Tryz.underlying23 hi0 hz0 hz1 hz2 hz3 _ [] rfl ho0 _ _ n cap (ofF n v) rfl (hl.up (jab _) hb0) (by simp only [maxLen,List.length_nil];omega) (by simp only [List.length_nil];omega) Zb0 ?_;intro v4 w4 ho4 hg4 hx4
               have hb4:Below w.heap.size w w4:=Own.grow ho0 (Nat.le_refl _) hb0 Zb0 hg4)
  go_ret;rw [List.nil_append] at ho4;have hk4:Kept (fun b=>(Value.slice none 0 0).ownBlock=some b) w w4:=⟨hb4.os,hb4.tape,hb4.output,hb4.size,fun i hi _=>hb4.block i hi⟩
  obtain ⟨X',hX,hK'⟩:=OwL.of (X:=[]) jax OwL.nil HK.out (ho4.mono HK.out.1.size) hk4 (fun g hg=>Or.inr (by
   rcases ho4.2 with ⟨rfl,-⟩|⟨g',cap',cur,rfl,hg',-⟩
   ·cases hg
   ·have e:some g'=some g:=hg;injection e with e
    rw [←e];exact hg'))
  exact ⟨_,X',rfl,hX,hK'⟩
theorem St.cellRj {w W:World} {L:List Blk} {D:List Hl} {n i g:Nat} {v:Nat→Rw} {t:TypeId} {J:List Value} (h:St w L D W) (hi:i<n) (hb:((g,rwA n v J,t):Blk)∈L):(W.cell? ⟨g,i*4,none⟩=some (.int .i64 (v i).s)∧W.cell? ⟨g,i*4+1,none⟩=some (.slice (v i).A (v i).n (v i).c)∧W.cell? ⟨g,i*4+2,none⟩=some (.int .i64 (v i).t)∧W.cell? ⟨g,i*4+3,none⟩=some (.slice (v i).B (v i).m (v i).d))∧∀j,W.frozen? ⟨g,j,none⟩=false:=by
 have hB:=h.blk hb;exact ⟨⟨hB.cell (jaH (j:=0) hi ZO),hB.cell (jaH (j:=1) hi ZO),hB.cell (jaH (j:=2) hi ZO),hB.cell (jaH (j:=3) hi ZO)⟩,fun j=>hB.thaw⟩
section
variable {P:Program} {ops:Array Oper} {rest:List Oper} {o:Oper} {a:Act} {Q:Exit→Act→World→Prop} {w W:World} {L L' X:List Blk} {D:List Hl}
theorem OwL.empty {α:Type} (sz:Nat) (enc:α→List Value) (e:TypeId) (g:Nat):OwL sz enc e (.slice (some ⟨g,0,none⟩) 0 0) ([]:List α) [(g,#[],e)]:=Or.inr ⟨g,0,[],rfl,rfl,Nat.le_refl _,by unfold maxLen;omega,by simp⟩
end
end Go.Proofs.YtdlcglndhhndpaaGreat
