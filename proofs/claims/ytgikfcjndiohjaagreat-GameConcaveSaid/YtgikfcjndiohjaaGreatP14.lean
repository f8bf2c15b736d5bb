/- Laws and walks; conditions stand in each theorem. -/
import Derived.OrdersHeld
import Derived.Test.YtgikfcjndiohjaaGreatP12
set_option linter.unusedSimpArgs false
set_option linter.unusedVariables false
namespace Go.Proofs.YtgikfcjndiohjaaGreat
open Go.RowKit
def smQ (f:Nat→Rat):Nat→Rat
 | 0=>0
 | n+1=>smQ f n+f n
theorem jaj {f g:Nat→Rat}:∀ {n:Nat},(∀i,i<n→f i=g i)→smQ f n=smQ g n
 | 0,_=>rfl
 | n+1,h=>by rw [smQ,smQ,jaj (fun i hi=>h i ZO),h n ZO]
theorem jea (f g:Nat→Rat):∀n:Nat,smQ (fun i=>f i+g i) n=smQ f n+smQ g n
 | 0=>by rw [smQ,smQ,smQ];grind
 | n+1=>by rw [smQ,smQ,smQ,jea f g n];grind
theorem jec (f g:Nat→Rat):∀n:Nat,smQ (fun i=>f i-g i) n=smQ f n-smQ g n
 | 0=>by rw [smQ,smQ,smQ];grind
 | n+1=>by rw [smQ,smQ,smQ,jec f g n];grind
theorem jeb {f g:Nat→Rat}:∀ {n:Nat},(∀i,i<n→f i≤g i)→smQ f n≤smQ g n
 | 0,_=>by simp [smQ]
 | n+1,h=>by
  have h1:=jeb (fun i hi=>h i ZO) (n:=n)
  have h2:=h n ZO
  rw [smQ,smQ]
  grind
theorem jnr {f g:Nat→Rat}:∀ {n:Nat},(∀i,i<n→f i≤g i)→(∃i,i<n∧f i<g i)→smQ f n<smQ g n
 | 0,_,⟨i,hi,_⟩=>absurd hi (Nat.not_lt_zero i)
 | n+1,h,⟨i,hi,hlt⟩=>by
  have h2:=h n ZO
  rw [smQ,smQ]
  by_cases e:i=n
  ·subst e
   have h1:=jeb (fun j hj=>h j ZO) (n:=i)
   grind
  ·have h1:=jnr (fun j hj=>h j ZO) ⟨i,by omega,hlt⟩ (n:=n)
   grind
theorem jc3 {f g:Nat→Rat} {b:Nat} {c:Rat}:∀ {n:Nat},b<n→g b=f b+c→(∀i,i<n→i≠b→g i=f i)→smQ g n=smQ f n+c
 | 0,hb,_,_=>absurd hb (Nat.not_lt_zero b)
 | n+1,hb,h1,h2=>by
  rw [smQ,smQ]
  by_cases e:b=n
  ·subst e
   rw [jaj (f:=g) (g:=f) (fun i hi=>h2 i ZO ZO),h1]
   grind
  ·rw [jc3 ZO h1 (fun i hi=>h2 i ZO),h2 n ZO (fun e'=>e e'.symm)]
   grind
def FrV (w:World) (q:Rat) (e:Ending) (w':World):Prop :=
 ∃s A n cap l t A' n' cap' m,e=.returned (.agg #[.int .i64 s,.slice A n cap,.int .i64 t,.slice A' n' cap'])∧(RdI w' w'.heap.size A n cap l∧RdI w' w'.heap.size A' n' cap' m)∧StdF s l t m q∧(FrA w.heap.size A∧FrA w.heap.size A')∧Below w.heap.size w w'
theorem jft {x y:Rat} (h:addK x y=true):jaF (x+y)=true:=by
 unfold addK sumK at h
 simp only [Bool.and_eq_true] at h
 rw [←jfn]
 exact jcb (jba x y) h.1.2.2 h.2
theorem St.part {w W:World} {L L':List Blk} {D:List Hl} (h:St w L D W) (hs:L'.Sublist L):St w L' D W :=
 h.pick (fun p hp=>hs.subset hp) (h.2.2.1.sublist hs)
theorem jbW {x:Fv} (h:x.ok=true):StdF x.s x.l x.t x.m x.rat∧jaF x.rat=true:=jay h
theorem jbe:jaF 0=true:=by decide +kernel
def putF {α:Type} (v:Nat→α) (i:Nat) (x:α):Nat→α:=fun k=>if k=i then x else v k
theorem jaf {α:Type} (v:Nat→α) (i:Nat) (x:α):putF v i x i=x:=if_pos rfl
theorem jad {α:Type} {v:Nat→α} {i k:Nat} {x:α} (h:k≠i):putF v i x k=v k:=if_neg h
structure Rw where
 s:Int
 A:Option Addr
 n:Nat
 c:Nat
 l:List Int
 t:Int
 B:Option Addr
 m:Nat
 d:Nat
 k:List Int
def Rw.fv (x:Rw):Fv:=⟨x.s,x.l,x.t,x.k⟩
def Rw.cs (x:Rw):List Value:=[.int .i64 x.s,.slice x.A x.n x.c,.int .i64 x.t,.slice x.B x.m x.d]
def Rw.on (x:Rw) (W:World):Prop:=rdP x.A x.n x.c x.l W∧rdP x.B x.m x.d x.k W
def Rw.S (x:Rw) (b:Nat):Prop:=rdS x.A x.n b∨rdS x.B x.m b
def Rw.zero:Rw:=⟨0,none,0,0,[],0,none,0,0,[]⟩
theorem ja4:jbq 4 Rw.cs:=⟨by omega,fun x=>⟨rfl,by
 intro u hu
 simp [Rw.cs] at hu
 rcases hu with rfl|rfl|rfl|rfl <;> rfl⟩⟩
def rwA (n:Nat) (v:Nat→Rw) (J:List Value:=[]):Array Value:=((ofF n v).flatMap Rw.cs++J).toArray
theorem jd9 {n:Nat} {v:Nat→Rw}:((ofF n v).flatMap Rw.cs).length=n*4:=by rw [ja1 ja4,jag]
theorem jhb {n:Nat} {v:Nat→Rw} {J:List Value}:(rwA n v J).size=n*4+J.length:=by
 unfold rwA
 simp only [List.size_toArray,List.length_append]
 rw [jd9]
theorem jaW {n i j:Nat} {v:Nat→Rw} {J:List Value} (hi:i<n) (hj:j<4):(rwA n v J)[i*4+j]?=(v i).cs[j]?:=by
 unfold rwA
 rw [List.getElem?_toArray,List.getElem?_append_left (by rw [jd9];omega),jbn ja4 _ _ _ hj,jaJ hi]
 rfl
theorem jnn {n i:Nat} {v:Nat→Rw} {J:List Value} (h:n*4≤i):(rwA n v J)[i]?=J[i-n*4]?:=by
 unfold rwA
 rw [List.getElem?_toArray,List.getElem?_append_right (by rw [jd9];exact h),jd9]
theorem jkg {n i:Nat} {v:Nat→Rw} {J:List Value} (hi:i<n) (x:Rw):spl (rwA n v J) (i*4) x.cs=rwA n (putF v i x) J:=by
 apply Array.ext_getElem?
 intro q
 have hsz:(rwA n v J).size=n*4+J.length:=jhb
 have hl:x.cs.length=4:=rfl
 rw [jdz _ _ _ _ (by rw [hsz,hl];omega),hl]
 by_cases hq:q<n*4
 ·have hk:q / 4<n:=by omega
  have hj:q%4<4:=by omega
  have e:q / 4*4+q%4=q:=by omega
  have h1:(rwA n (putF v i x) J)[q]?=(putF v i x (q / 4)).cs[q%4]?:=by rw [←jaW hk hj,e]
  have h2:(rwA n v J)[q]?=(v (q / 4)).cs[q%4]?:=by rw [←jaW hk hj,e]
  rw [h1,h2]
  by_cases hb:q / 4=i
  ·rw [if_pos ZO,hb,jaf]
   congr 1
   omega
  ·rw [if_neg ZO,jad hb]
 ·rw [if_neg ZO,jnn ZO,jnn ZO]
def rwP (n:Nat) (v:Nat→Rw):World→Prop:=fun W=>∀i,i<n→(v i).on W
def rwS (n:Nat) (v:Nat→Rw):Nat→Prop:=fun b=>∃i,i<n∧(v i).S b
theorem jdM (W:World):rdP none 0 0 [] W:=Rd.nil
theorem jg6 {b:Nat}:¬rdS none 0 b:=fun h=>Nat.lt_irrefl 0 h.1
section
variable {w W W':World} {L L':List Blk} {D:List Hl} {n:Nat} {v:Nat→Rw}
theorem St.rwNew (h:St w L D W) (n:Nat):St w L (⟨rwP n (fun _=>Rw.zero),rwS n (fun _=>Rw.zero)⟩::D) W :=
 h.add ⟨fun i _=>⟨jdM W,jdM W⟩,(fun b ⟨i,_,hS⟩=>by
  rcases hS with h|h
  ·exact absurd h jg6
  ·exact absurd h jg6),fun W' _ _ i _=>⟨jdM W',jdM W'⟩⟩
theorem St.rwPut (h:St w L D W) (x:Rw) (i:Nat) (m1:(⟨rwP n v,rwS n v⟩:Hl)∈D) (m2:(⟨rdP x.A x.n x.c x.l,rdS x.A x.n⟩:Hl)∈D) (m3:(⟨rdP x.B x.m x.d x.k,rdS x.B x.m⟩:Hl)∈D):St w L (⟨rwP n (putF v i x),rwS n (putF v i x)⟩::D) W:=by
 have k1:=h.2.2.2 _ m1
 have k2:=h.2.2.2 _ m2
 have k3:=h.2.2.2 _ m3
 refine h.add ⟨fun j hj=>?_,fun b hS=>?_,fun W' h1 h2 j hj=>?_⟩
 ·by_cases e:j=i
  ·subst e;rw [jaf];exact ⟨k2.1,k3.1⟩
  ·rw [jad e];exact k1.1 j hj
 ·obtain ⟨j,hj,hS⟩:=hS
  by_cases e:j=i
  ·subst e
   rw [jaf] at hS
   rcases hS with hS|hS
   ·exact k2.2.1 b hS
   ·exact k3.2.1 b hS
  ·rw [jad e] at hS
   exact k1.2.1 b ⟨j,hj,hS⟩
 ·by_cases e:j=i
  ·exact ZQ97
  ·rw [jad e]
   have k4:=(k1.1 j hj)
   have hS1:=fun b (hS:(v j).S b)=>h2 b ⟨j,hj,by rw [jad e];exact hS⟩
   have key:∀ {A:Option Addr} {n c:Nat} {l:List Int},rdP A n c l W→(∀b,rdS A n b→W'.heap[b]?=W.heap[b]?)→rdP A n c l W':=fun {A n c l} hl hk=>by
    refine ⟨hl.1,hl.2.1,hl.2.2.1,fun hn=>?_⟩
    obtain ⟨b',off,e,hlt,hc⟩:=hl.2.2.2 hn
    refine ⟨b',off,e,Nat.lt_of_lt_of_le hlt h1,fun k hk'=>?_⟩
    obtain ⟨cs,hr,hlen,hj⟩:=hc k hk'
    exact ⟨cs,hr,hlen,fun j u hu=>(jb9 (p:=⟨b',off+k*1+j,none⟩) (hk b' ⟨hn,_,e,rfl⟩)).trans (hj j u hu)⟩
   exact ⟨key k4.1 fun b hS=>hS1 b (Or.inl hS),key k4.2 fun b hS=>hS1 b (Or.inr hS)⟩
end
theorem madeA {z:Array Value} {α:Type} {sz:Nat} {enc:α→List Value} (hs:jbq sz enc) (x:α) (hz:z=(enc x).toArray) (n:Nat):madeCells z (n*sz)=((ofF n fun _=>x).flatMap enc).toArray:=by
 have h:=jda hs x (.agg z) (by rw [hz];rfl) n
 rw [jcs] at h
 rw [←h]
 rfl
section
variable {P:Program} {ops:Array Oper} {rest:List Oper} {o:Oper} {a:Act} {Q:Exit→Act→World→Prop}
variable {w W:World} {L L':List Blk} {D:List Hl}
theorem St.make (K:St w L D W) (hgd:o.guard=none) (l c:Operand) (t e:TypeId) (ho:o.op=Op.makeSlice t l c) (z:Array Value) (sz bytes:Nat) (ht:P.underlying t=some (.slice e)) (hi:(P.info? e).map (fun i=>(i.zero.map (·.cells),i.size,i.bytes))=some (some z,sz,bytes))
 (n:Nat) (hl:a.eval l=.int .i64 (n:Int)) (hc:a.eval c=.int .i64 (n:Int)) (cs:Array Value) (hcs:madeCells z (n*sz)=cs) (hb:bytes*n≤281474976710656) (hn:n≤1000000)
 (h:∀W' b,St w ((b,cs,e)::L) D W'→wpList P ops Q rest (a.put o.dst (.slice (some ⟨b,0,none⟩) n n)) W'):wpList P ops Q (o::rest) a W:=by
 refine wpList_plain hgd fun _ hK=>?_
 obtain ⟨i,h1,h2⟩:=Option.map_eq_some_iff.1 hi
 simp only [Prod.mk.injEq] at h2
 obtain ⟨h2,h3,h4⟩:=h2
 obtain ⟨zv,h5,h6⟩:=Option.map_eq_some_iff.1 h2
 have hb':(i.bytes:Int)*(n:Int)≤281474976710656:=by
  have h:((i.bytes*n:Nat):Int)≤281474976710656:=by rw [h4];omega
  rwa [Int.natCast_mul] at h
 have hr:=run_make (P:=P) W t e i zv ht h1 h5 .i64 .i64 n n ZO (Int.le_refl _) hb' ZO
 simp only [Int.toNat_natCast,h3] at hr
 rw [h6,hcs] at hr
 unfold Oper.wp
 simp [execOp,ho,hl,hc,hr,Result.andThen]
 exact hK _ _ (h _ _ (K.new cs e))
end
theorem jgW:(Tryz.prog.info? 3).map (fun i=>(i.zero.map (·.cells),i.size,i.bytes))=some (some #[.int .i64 0],1,8):=by kernel_rfl
theorem jbF:(Tryz.prog.info? 29).map (fun i=>(i.zero.map (·.cells),i.size,i.bytes))=some (some #[.int .i64 0,.slice none 0 0,.int .i64 0,.slice none 0 0],4,64):=by kernel_rfl
theorem jeB (n:Nat):madeCells #[.int .i64 0,.slice none 0 0,.int .i64 0,.slice none 0 0] (n*4)=rwA n (fun _=>Rw.zero):=by
 rw [madeA (z:=#[.int .i64 0,.slice none 0 0,.int .i64 0,.slice none 0 0]) ja4 Rw.zero rfl n]
 unfold rwA
 rw [List.append_nil]
theorem St.set4Z {w W:World} {L L':List Blk} {D:List Hl} {b:Nat} {t:TypeId} (h:St w L D W) {x0 x1 x2 x3 u0 u1 u2 u3:Value} (hU:Upd b #[x0,x1,x2,x3] t #[u0,u1,u2,u3] L L') :
 St w L' D ((((W.setCell ⟨b,0,none⟩ u0).setCell ⟨b,1,none⟩ u1).setCell ⟨b,2,none⟩ u2).setCell ⟨b,3,none⟩ u3) :=
 h.upd hU ((((jbv.set W b 0 u0).trans (jbv.set _ b 1 u1)).trans (jbv.set _ b 2 u2)).trans (jbv.set _ b 3 u3)) (((((h.blk hU.mem).set (j:=0) u0).set (j:=1) u1).set (j:=2) u2).set (j:=3) u3)
theorem St.perm {w W:World} {L L':List Blk} {D:List Hl} (h:St w L D W) (hp:L'.Perm L):St w L' D W :=
 h.pick (fun p hm=>hp.subset hm) (hp.symm.pairwise h.2.2.1 (fun {a b} hab e=>hab e.symm))
def OwL {α:Type} (sz:Nat) (enc:α→List Value) (e:TypeId) (v:Value) (l:List α) (X:List Blk):Prop :=
 (v=.slice none 0 0∧l=[]∧X=[])∨∃g cap J,v=.slice (some ⟨g,0,none⟩) l.length cap∧X=[(g,(l.flatMap enc++J).toArray,e)]∧l.length≤cap∧cap≤maxLen∧(l.flatMap enc++J).length=cap*sz
section
variable {α:Type} {sz:Nat} {enc:α→List Value} {e:TypeId} {v:Value} {l:List α} {X:List Blk} {w W W':World} {L:List Blk} {D:List Hl}
theorem OwL.nil:OwL sz enc e (.slice none 0 0) ([]:List α) []:=Or.inl ⟨rfl,rfl,rfl⟩
theorem OwL.own (hs:jbq sz enc) (h:OwL sz enc e v l X) (K:St w (X++L) D W):Own sz enc W w.heap.size e v l:=by
 rcases h with ⟨rfl,rfl,rfl⟩|⟨g,cap,J,rfl,rfl,h1,h2,h3⟩
 ·exact Own.nil
 ·have hb:=K.2.1 _ (List.mem_append_left _ (List.mem_singleton.2 rfl))
  refine ⟨ja1 hs l,Or.inr ⟨g,cap,_,rfl,hb.1,hb.2,h1,h2,by simpa using h3,?_⟩⟩
  rw [←ja1 hs l]
  simp
theorem OwL.of (hs:jbq sz enc) (ho:OwL sz enc e v l X) (K:St w (X++L) D W) {v':Value} {l':List α} (h:Own sz enc W' w.heap.size e v' l') (hk:Kept (fun b=>v.ownBlock=some b) W W') (hf:∀g,v'.ownBlock=some g→v.ownBlock=some g∨W.heap.size≤g) :
 ∃X',OwL sz enc e v' l' X'∧St w (X'++L) D W':=by
 have hXb:∀b,v.ownBlock=some b→∃c,(b,c,e)∈X:=fun b hb=>by
  rcases ho with ⟨rfl,rfl,rfl⟩|⟨g,cap,J,rfl,rfl,h1,h2,h3⟩
  ·cases hb
  ·have hb:some g=some b:=hb
   injection hb with hb
   subst hb
   exact ⟨_,List.mem_singleton.2 rfl⟩
 have hpw:=List.pairwise_append.1 K.2.2.1
 have hL:∀p∈L,¬v.ownBlock=some p.1:=fun p hp e=>by
  obtain ⟨c,hc⟩:=hXb _ e
  exact hpw.2.2 _ hc p hp rfl
 have hbase:∀b,v.ownBlock=some b→w.heap.size≤b:=fun b hb=>by
  obtain ⟨c,hc⟩:=hXb _ hb
  exact (K.2.1 _ (List.mem_append_left _ hc)).1
 have hD:∀x∈D,∀b,x.S b→¬v.ownBlock=some b:=fun x hx b hS e=>by
  obtain ⟨c,hc⟩:=hXb _ e
  exact ((K.2.2.2 x hx).2.1 b hS).2 _ (List.mem_append_left _ hc) rfl
 have hbel:Below w.heap.size w W':=K.1.trans ⟨hk.os,hk.tape,hk.output,hk.size,fun i hi=>hk.block i (Nat.lt_of_lt_of_le hi K.1.size) (fun e=>by have:=hbase i e;omega)⟩
 have KL:∀p∈L,w.heap.size≤p.1∧Hb W' p.1 p.2.1 p.2.2:=fun p hp=>by
  have h1:=K.2.1 p (List.mem_append_right _ hp)
  exact ⟨h1.1,h1.2.of (hk.block _ h1.2.lt (hL p hp))⟩
 have KD:∀x∈D,x.P W'∧(∀b,x.S b→b<W'.heap.size)∧(∀W'':World,W'.heap.size≤W''.heap.size→(∀b,x.S b→W''.heap[b]?=W'.heap[b]?)→x.P W''):=fun x hx=>by
  have h1:=K.2.2.2 x hx
  have hb:=fun b hS=>hk.block b ((h1.2.1 b hS).1) (hD x hx b hS)
  refine ⟨h1.2.2 W' hk.size hb,fun b hS=>Nat.lt_of_lt_of_le (h1.2.1 b hS).1 hk.size,fun W'' h2 h3=>h1.2.2 W'' (Nat.le_trans hk.size h2) (fun b hS=>(h3 b hS).trans (hb b hS))⟩
 rcases h.2 with ⟨rfl,h0⟩|⟨g,cap,cur,hv,hg,hh,hnc,hcm,hcs,htake⟩
 ·have:l'=[]:=List.eq_nil_of_length_eq_zero h0
  subst this
  exact ⟨[],OwL.nil,hbel,KL,hpw.2.1,fun x hx=>⟨(KD x hx).1,fun b hS=>⟨(KD x hx).2.1 b hS,fun p hp=>((K.2.2.2 x hx).2.1 b hS).2 p (List.mem_append_right _ hp)⟩,(KD x hx).2.2⟩⟩
 ·subst hv
  have hfg:=hf g rfl
  have hne:∀p∈L,g≠p.1:=fun p hp e=>by
   rcases hfg with h1|h1
   ·exact hL p hp (by rw [h1,e])
   ·have:=(K.2.1 p (List.mem_append_right _ hp)).2.lt
    omega
  have hneD:∀x∈D,∀b,x.S b→g≠b:=fun x hx b hS e=>by
   rcases hfg with h1|h1
   ·exact hD x hx b hS (by rw [h1,e])
   ·have:=((K.2.2.2 x hx).2.1 b hS).1
    omega
  have hcur:cur=(l'.flatMap enc++cur.toList.drop (l'.length*sz)).toArray:=by
   rw [←htake,List.take_append_drop]
  refine ⟨[(g,cur,e)],Or.inr ⟨g,cap,cur.toList.drop (l'.length*sz),rfl,by rw [←hcur],hnc,hcm,?_⟩,hbel,fun p hp=>?_,List.Pairwise.cons (fun p hp=>hne p hp) hpw.2.1,fun x hx=>⟨(KD x hx).1,fun b hS=>⟨(KD x hx).2.1 b hS,fun p hp=>?_⟩,(KD x hx).2.2⟩⟩
  ·rw [←htake,List.take_append_drop]
   simpa using hcs
  ·rcases List.mem_cons.1 hp with rfl|hp
   ·exact ⟨hg,hh⟩
   ·exact KL p hp
  ·rcases List.mem_cons.1 hp with rfl|hp
   ·exact hneD x hx b hS
   ·exact ((K.2.2.2 x hx).2.1 b hS).2 p (List.mem_append_right _ hp)
variable {P:Program} {ops:Array Oper} {rest:List Oper} {o:Oper} {a:Act} {Q:Exit→Act→World→Prop}
theorem St.app1 (K:St w (X++L) D W) (ho:OwL sz enc e v l X) (hs:jbq sz enc) (hgd:o.guard=none) (s x:Operand) (t:TypeId)
 (hop:o.op=.call { callee:=.builtin .append,args:=#[s,x],argTypes:=#[t,t] })
 (z:Array Value) (bytes:Nat) (ht:P.underlying t=some (.slice e)) (hi:(P.info? e).map (fun i=>(i.zero.map (·.cells),i.size,i.bytes))=some (some z,sz,bytes)) (hz:z.size=sz)
 (hv:a.eval s=v) (y:α) (cs:Array Value) (hcs:cs=(enc y).toArray) (H:Nat) (hH:W.heap.size=H) (hx:a.eval x=.slice (some ⟨H,0,none⟩) 1 1)
 (hlen:l.length≤1000000) (hbb:bytes≤1000)
 (h:∀v' X' W',OwL sz enc e v' (l++[y]) X'→St w (X'++L) D W'→wpList P ops Q rest (a.put o.dst v') W'):wpList P ops Q (o::rest) a (W.alloc (.cells cs e)):=by
 obtain ⟨i,h1,h2⟩:=Option.map_eq_some_iff.1 hi
 simp only [Prod.mk.injEq] at h2
 obtain ⟨h2,h3,h4⟩:=h2
 obtain ⟨zv,h5,h6⟩:=Option.map_eq_some_iff.1 h2
 refine jbd hs hgd s x t hop w.heap.size e i zv bytes ht h1 h5 h3 h4 (by rw [h6,hz]) v l hv (ho.own hs K) y cs hcs H hH hx hlen hbb K.1.size ?_
 intro v' w' ho' hk hf _
 obtain ⟨X',hX,K'⟩:=ho.of hs K ho' hk hf
 exact h v' X' w' hX K'
end
def fvQ (q:Rat):Fv:=⟨sgI q.num,digs q.num.natAbs,sgI q.den,digs (q.den:Int).natAbs⟩
theorem StdF.fv {s t:Int} {l m:List Int} {q:Rat} (h:StdF s l t m q):(⟨s,l,t,m⟩:Fv)=fvQ q:=by
 obtain ⟨⟨e1,e2⟩,e3,e4⟩:=h
 subst e1 e2 e3 e4
 rfl
theorem jjx (q:Rat):StdF (fvQ q).s (fvQ q).l (fvQ q).t (fvQ q).m q:=⟨⟨rfl,rfl⟩,rfl,rfl⟩
theorem jga (q:Rat):(fvQ q).rat=q:=(jjx q).rat
theorem jew {q:Rat} (h:jaF q=true):(fvQ q).ok=true:=(jjx q).right h
theorem jnN {x:Fv} (h:x.ok=true):x=fvQ x.rat:=(jay h).1.fv
section
variable {w W W':World} {L X:List Blk} {D:List Hl} {n:Nat} {v:Nat→Rw}
theorem St.rwAdd (h:St w L D W) (x:Rw) (m1:(⟨rwP n v,rwS n v⟩:Hl)∈D) (m2:(⟨rdP x.A x.n x.c x.l,rdS x.A x.n⟩:Hl)∈D) (m3:(⟨rdP x.B x.m x.d x.k,rdS x.B x.m⟩:Hl)∈D):St w L (⟨rwP (n+1) (putF v n x),rwS (n+1) (putF v n x)⟩::D) W:=by
 have k1:=h.2.2.2 _ m1
 have k2:=h.2.2.2 _ m2
 have k3:=h.2.2.2 _ m3
 refine h.add ⟨fun j hj=>?_,fun b hS=>?_,fun W' h1 h2 j hj=>?_⟩
 ·by_cases e:j=n
  ·subst e;rw [jaf];exact ⟨k2.1,k3.1⟩
  ·rw [jad e];exact k1.1 j ZO
 ·obtain ⟨j,hj,hS⟩:=hS
  by_cases e:j=n
  ·subst e
   rw [jaf] at hS
   rcases hS with hS|hS
   ·exact k2.2.1 b hS
   ·exact k3.2.1 b hS
  ·rw [jad e] at hS
   exact k1.2.1 b ⟨j,by omega,hS⟩
 ·by_cases e:j=n
  ·exact ZQ97
  ·rw [jad e]
   exact k1.2.2 W' h1 (fun b hS=>by
    obtain ⟨i,hi,hS⟩:=hS
    exact h2 b ⟨i,by omega,by rw [jad ZO];exact hS⟩) j ZO
theorem jbz {α:Type} {n:Nat} {v:Nat→α} {x:α}:ofF n v++[x]=ofF (n+1) (putF v n x):=by
 rw [jcN,jaf]
 congr 1
 exact jaD fun i hi=>(jad ZO).symm
theorem OwL.rdF {e:TypeId} {val:Value} (h:OwL 4 Rw.cs e val (ofF n v) X) (K:St w (X++L) D W) (hm:(⟨rwP n v,rwS n v⟩:Hl)∈D) (hn:n≤1000000):∃A cap,val=.slice A n cap∧RdF W W.heap.size A n cap (ofF n fun i=>(v i).fv):=by
 rcases h with ⟨rfl,h0,rfl⟩|⟨g,cap,J,rfl,rfl,h1,h2,h3⟩
 ·have:n=0:=by rw [←jag (n:=n) (f:=v),h0];rfl
  subst this
  exact ⟨none,0,rfl,Rd.nil⟩
 ·rw [jag] at h1 ⊢
  have hB:=K.blk (b:=g) (List.mem_append_left _ (List.mem_singleton.2 rfl))
  refine ⟨_,cap,rfl,jag,h1,⟨by unfold maxLen at h2;exact h2,by omega⟩,fun hn=>⟨g,0,rfl,hB.lt,fun k hk=>?_⟩⟩
  rw [jag] at hk
  refine ⟨(v k).cs,?_,rfl,fun j u hu=>?_⟩
  ·have e:(ofF n fun i=>(v i).fv)[k]'(by rw [jag];exact hk)=(v k).fv:=by
    have:=jaJ (f:=fun i=>(v i).fv) hk
    exact ZQ41
   rw [e]
   exact ⟨_,_,_,_,_,_,rfl,(K.at hm k hk).1,(K.at hm k hk).2⟩
  ·have hj:j<4:=(List.getElem?_eq_some_iff.1 hu).1
   rw [Nat.zero_add]
   exact hB.cell ((jaW (J:=J) hk hj).trans hu)
theorem OwL.rdI {e:TypeId} {val:Value} {f:Nat→Int} (h:OwL 1 iEnc e val (ofF n f) X) (K:St w (X++L) D W) (hn:n≤1000000):∃A cap,val=.slice A n cap∧RdI W W.heap.size A n cap (ofF n f):=by
 obtain ⟨A,cap,h1,h2⟩:=(h.own jap K).rd jap Zb3
 rw [jag] at h1 h2
 exact ⟨A,cap,h1,h2⟩
theorem OwL.blk {e:TypeId} {val:Value} {sz:Nat} {α:Type} {enc:α→List Value} {f:Nat→α} (h:OwL sz enc e val (ofF n f) X) (hn:0<n):∃g cap J,val=.slice (some ⟨g,0,none⟩) n cap∧X=[(g,((ofF n f).flatMap enc++J).toArray,e)]∧n≤cap∧cap≤9223372036854775807:=by
 rcases h with ⟨rfl,h0,rfl⟩|⟨g,cap,J,rfl,rfl,h1,h2,h3⟩
 ·have:n=0:=by rw [←jag (n:=n) (f:=f),h0];rfl
  omega
 ·rw [jag] at h1 ⊢
  exact ⟨g,cap,J,rfl,rfl,h1,by unfold maxLen at h2;exact h2⟩
end
def FrK (w w':World) (A:Option Addr) (n cap:Nat) (l:List Fv):Prop:=∀W:World,w'.heap.size≤W.heap.size→(∀b,w.heap.size≤b→b<w'.heap.size→W.heap[b]?=w'.heap[b]?)→RdF W W.heap.size A n cap l
theorem FrK.now {w w':World} {A:Option Addr} {n cap:Nat} {l:List Fv} (h:FrK w w' A n cap l):RdF w' w'.heap.size A n cap l:=h w' (Nat.le_refl _) (fun _ _ _=>rfl)
def rfQ (A:Option Addr) (n cap:Nat) (l:List Fv):World→Prop:=fun W=>RdF W W.heap.size A n cap l
section
variable {w W W':World} {L:List Blk} {D:List Hl}
theorem St.getQ (K:St w L D W) {A:Option Addr} {n cap:Nat} {l:List Fv} {S:Nat→Prop} (hm:(⟨rfQ A n cap l,S⟩:Hl)∈D):RdF W W.heap.size A n cap l:=K.at hm
end
theorem OwL.frK {w W:World} {X L:List Blk} {D:List Hl} {n:Nat} {v:Nat→Rw} {e:TypeId} {val:Value} (h:OwL 4 Rw.cs e val (ofF n v) X) (K:St w (X++L) D W) (hm:(⟨rwP n v,rwS n v⟩:Hl)∈D) (hn:n≤1000000) (hf:∀b,rwS n v b→w.heap.size≤b):∃A cap,val=.slice A n cap∧FrK w W A n cap (ofF n fun i=>(v i).fv):=by
 rcases h with ⟨rfl,h0,rfl⟩|⟨g,cap,J,rfl,rfl,h1,h2,h3⟩
 ·have:n=0:=by rw [←jag (n:=n) (f:=v),h0];rfl
  subst this
  exact ⟨none,0,rfl,fun W' _ _=>Rd.nil⟩
 ·rw [jag] at h1 ⊢
  have hB:=K.2.1 _ (List.mem_append_left _ (List.mem_singleton.2 rfl))
  have hD:=K.2.2.2 _ hm
  refine ⟨_,cap,rfl,fun W' g1 g2=>?_⟩
  have hv:rwP n v W':=hD.2.2 W' g1 (fun b hS=>g2 b (hf b hS) (hD.2.1 b hS).1)
  have hB':Hb W' g (rwA n v J) e:=hB.2.of (g2 g hB.1 hB.2.lt)
  exact ZQ39
def recA {α:Type} (enc:α→List Value) (n:Nat) (v:Nat→α) (J:List Value):Array Value:=((ofF n v).flatMap enc++J).toArray
section
variable {α:Type} {sz:Nat} {enc:α→List Value} {n i j:Nat} {v f g:Nat→α} {J:List Value}
theorem jdf (hs:jbq sz enc):((ofF n v).flatMap enc).length=n*sz:=by rw [ja1 hs,jag]
theorem jd8 (hs:jbq sz enc):(recA enc n v J).size=n*sz+J.length:=by
 unfold recA
 simp only [List.size_toArray,List.length_append]
 rw [jdf hs]
theorem jcL {i n sz:Nat} (h:i<n):i*sz+sz≤n*sz:=by
 have:=Nat.mul_le_mul_right sz (show i+1≤n from h)
 rw [Nat.add_mul] at this
 omega
theorem jcP (hs:jbq sz enc) (hi:i<n) (hj:j<sz):(recA enc n v J)[i*sz+j]?=(enc (v i))[j]?:=by
 unfold recA
 have h1:=jcL (sz:=sz) hi
 rw [List.getElem?_toArray,List.getElem?_append_left (by rw [jdf hs];omega),jbn hs _ _ _ hj,jaJ hi]
 rfl
theorem jkb (hs:jbq sz enc) (h:n*sz≤i):(recA enc n v J)[i]?=J[i-n*sz]?:=by
 unfold recA
 rw [List.getElem?_toArray,List.getElem?_append_right (by rw [jdf hs];exact h),jdf hs]
theorem jg7 (hs:jbq sz enc) (hi:i<n) (x:α):spl (recA enc n v J) (i*sz) (enc x)=recA enc n (putF v i x) J:=by
 apply Array.ext_getElem?
 intro q
 have hsz:=jd8 (n:=n) (v:=v) (J:=J) hs
 have hl:(enc x).length=sz:=(hs.2 x).1
 have hp:=hs.1
 have hin:=jcL (sz:=sz) hi
 rw [jdz _ _ _ _ (by rw [hsz,hl];omega),hl]
 by_cases hq:q<n*sz
 ·obtain ⟨k,j,rfl,hj⟩:∃k j,q=k*sz+j∧j<sz:=⟨q / sz,q%sz,(by rw [Nat.mul_comm];exact (Nat.div_add_mod q sz).symm),Nat.mod_lt _ hp⟩
  have hk:k<n:=by
   apply Nat.lt_of_not_le
   intro h
   have:=Nat.mul_le_mul_right sz h
   omega
  rw [jcP hs hk hj,jcP hs hk hj]
  by_cases e:k=i
  ·subst e
   rw [if_pos ZO,jaf]
   congr 1
   omega
  ·rw [jad e,if_neg]
   rcases Nat.lt_or_gt_of_ne e with h|h
   ·have:=jcL (sz:=sz) h
    omega
   ·have:=jcL (sz:=sz) h
    omega
 ·rw [if_neg ZO,jkb hs ZO,jkb hs ZO]
theorem jhy (h:∀i,i<n→f i=g i):recA enc n f J=recA enc n g J:=by
 unfold recA
 rw [jaD h]
end
structure Hd where
 A:Option Addr
 n:Nat
 c:Nat
section
variable {w W W':World} {L L':List Blk} {D:List Hl}
def famP {ι:Type} (I:ι→Prop) (P:ι→World→Prop) (S:ι→Nat→Prop):World→Prop:=fun W=>∀i,I i→P i W∧∀W':World,W.heap.size≤W'.heap.size→(∀b,S i b→W'.heap[b]?=W.heap[b]?)→P i W'
def famS {ι:Type} (I:ι→Prop) (S:ι→Nat→Prop):Nat→Prop:=fun b=>∃i,I i∧S i b
theorem St.fam {ι:Type} {I:ι→Prop} {P:ι→World→Prop} {S:ι→Nat→Prop} (h:St w L D W) (hx:∀i,I i→(⟨P i,S i⟩:Hl).ok L W):St w L (⟨famP I P S,famS I S⟩::D) W :=
 h.add ⟨fun i hi=>⟨(hx i hi).1,(hx i hi).2.2⟩,fun b ⟨i,hi,hS⟩=>(hx i hi).2.1 b hS,fun W' h1 h2 i hi=>⟨(hx i hi).2.2 W' h1 (fun b hS=>h2 b ⟨i,hi,hS⟩),fun W'' h3 h4=>(hx i hi).2.2 W'' (Nat.le_trans h1 h3) (fun b hS=>(h4 b hS).trans (h2 b ⟨i,hi,hS⟩))⟩⟩
theorem St.famAt {ι:Type} {I:ι→Prop} {P:ι→World→Prop} {S:ι→Nat→Prop} (h:St w L D W) (hm:(⟨famP I P S,famS I S⟩:Hl)∈D) {i:ι} (hi:I i):(⟨P i,S i⟩:Hl).ok L W :=
 have k:=h.2.2.2 _ hm
 ⟨(k.1 i hi).1,fun b hS=>k.2.1 b ⟨i,hi,hS⟩,(k.1 i hi).2⟩
theorem St.okAt (h:St w L D W) {x:Hl} (hm:x∈D):x.ok L W:=h.2.2.2 _ hm
theorem Hl.ok.and {P Q:World→Prop} {S T:Nat→Prop} (h:(⟨P,S⟩:Hl).ok L W) (h':(⟨Q,T⟩:Hl).ok L W):(⟨fun W=>P W∧Q W,fun b=>S b∨T b⟩:Hl).ok L W :=
 ⟨⟨h.1,h'.1⟩,(fun b hS=>by
  rcases hS with hS|hS
  ·exact h.2.1 b hS
  ·exact h'.2.1 b hS),fun W' h1 h2=>⟨h.2.2 W' h1 (fun b hS=>h2 b (Or.inl hS)),h'.2.2 W' h1 (fun b hS=>h2 b (Or.inr hS))⟩⟩
theorem St.okR (h:St w L D W) {x:Rw} (m2:(⟨rdP x.A x.n x.c x.l,rdS x.A x.n⟩:Hl)∈D) (m3:(⟨rdP x.B x.m x.d x.k,rdS x.B x.m⟩:Hl)∈D):(⟨x.on,x.S⟩:Hl).ok L W:=(h.okAt m2).and (h.okAt m3)
theorem Upd.app {b:Nat} {cs cs':Array Value} {t:TypeId} (h:Upd b cs t cs' L L') (X:List Blk):Upd b cs t cs' (L++X) (L'++X):=by
 induction h with
 | head L=>exact Upd.head _
 | tail x h ih=>exact Upd.tail x ih
theorem Upd.pre {b:Nat} {cs cs':Array Value} {t:TypeId} (h:Upd b cs t cs' L L'):∀X:List Blk,Upd b cs t cs' (X++L) (X++L')
 | []=>h
 | x::X=>Upd.tail x (h.pre X)
theorem Upd.ofF {b:Nat} {cs cs':Array Value} {t:TypeId} (F:Nat→Blk) (r:Nat) (hF:F r=(b,cs,t)):∀n:Nat,r<n→Upd b cs t cs' (ofF n F) (ofF n (putF F r (b,cs',t)))
 | n+1,h=>by
  rw [jcN,jcN]
  by_cases e:r=n
  ·subst e
   rw [jaD (f:=putF F r (b,cs',t)) (g:=F) (fun i hi=>jad ZO),jaf,hF]
   exact (Upd.head []).pre _
  ·rw [jad (fun e'=>e e'.symm)]
   exact (Upd.ofF F r hF n ZO).app _
theorem jnf {α:Type} {n i:Nat} {f:Nat→α} (h:i<n):f i∈ofF n f:=List.mem_of_getElem? (jaJ h)
end
theorem St.lessS {w W:World} {L:List Blk} {D D':List Hl} (h:St w L D W) (hs:D'.Sublist D):St w L D' W:=h.less fun x hx=>hs.subset hx
structure Mm where
 N:Nat
 rb:Nat→Nat
 cp:Nat→Nat
 J:Nat→List Value
 V:Nat→Nat→Rw
namespace Mm
def blk (M:Mm) (n i:Nat):Blk:=(M.rb i,rwA M.N (M.V i) (M.J i),29)
def rows (M:Mm) (n:Nat):List Blk:=ofF n (M.blk n)
def hd (M:Mm) (n i:Nat):Hd:=⟨some ⟨M.rb i,0,none⟩,M.N,M.cp i⟩
def fam (M:Mm) (n:Nat):Hl:=⟨famP (fun p:Nat × Nat=>p.1<n∧p.2<M.N) (fun p=>(M.V p.1 p.2).on) (fun p=>(M.V p.1 p.2).S),famS (fun p:Nat × Nat=>p.1<n∧p.2<M.N) (fun p=>(M.V p.1 p.2).S)⟩
def put (M:Mm) (r k:Nat) (x:Rw):Mm:={ M with V:=putF M.V r (putF (M.V r) k x) }
theorem put_at (M:Mm) (r k:Nat) (x:Rw):(M.put r k x).V r k=x:=by
 show putF M.V r (putF (M.V r) k x) r k=x
 rw [jaf,jaf]
theorem put_ne (M:Mm) {r k i j:Nat} (x:Rw) (h:¬(i=r∧j=k)):(M.put r k x).V i j=M.V i j:=by
 show putF M.V r (putF (M.V r) k x) i j=_
 by_cases e:i=r
 ·subst e
  rw [jaf,jad (fun e=>h ⟨rfl,e⟩)]
 ·rw [jad e]
end Mm
section
variable {w W W':World} {L L' L0:List Blk} {D:List Hl} {M:Mm} {n r k:Nat}
theorem Mm.upd (hr:r<n) (x:Rw):Upd (M.rb r) (rwA M.N (M.V r) (M.J r)) 29 (rwA M.N (putF (M.V r) k x) (M.J r)) (M.rows n++L0) ((M.put r k x).rows n++L0):=by
 have h:=(Upd.ofF (cs':=rwA M.N (putF (M.V r) k x) (M.J r)) (M.blk n) r rfl n hr).app L0
 have e:Proofs.YtgikfcjndiohjaaGreat.ofF n (putF (M.blk n) r (M.rb r,rwA M.N (putF (M.V r) k x) (M.J r),29))=(M.put r k x).rows n:=by
  refine jaD fun i hi=>?_
  show _=(M.rb i,rwA M.N (putF M.V r (putF (M.V r) k x) i) (M.J i),29)
  by_cases e:i=r
  ·subst e
   rw [jaf,jaf]
  ·rw [jad e,jad e]
   rfl
 rw [e] at h
 exact h
theorem Mm.mem (hr:r<n):((M.rb r,rwA M.N (M.V r) (M.J r),29):Blk)∈M.rows n++L0:=List.mem_append_left _ (jnf (f:=M.blk n) hr)
theorem St.famPut (K:St w L D W) (hm:M.fam n∈D) (x:Rw) (m2:(⟨rdP x.A x.n x.c x.l,rdS x.A x.n⟩:Hl)∈D) (m3:(⟨rdP x.B x.m x.d x.k,rdS x.B x.m⟩:Hl)∈D) (r k:Nat):St w L ((M.put r k x).fam n::D) W:=by
 refine K.fam fun p hp=>?_
 by_cases e:p.1=r∧p.2=k
 ·rw [e.1,e.2,Mm.put_at]
  exact K.okR m2 m3
 ·rw [Mm.put_ne M x e]
  exact K.famAt hm hp
theorem jbg {A:Option Addr} {n c:Nat} {l:List Int} (h:rdP A n c l W) (hs:W.heap.size≤W'.heap.size) (hb:∀b,rdS A n b→W'.heap[b]?=W.heap[b]?):rdP A n c l W':=by
 refine ⟨h.1,h.2.1,h.2.2.1,fun hn=>?_⟩
 obtain ⟨b',off,e,hlt,hc⟩:=h.2.2.2 hn
 refine ⟨b',off,e,Nat.lt_of_lt_of_le hlt hs,fun k hk=>?_⟩
 obtain ⟨cs,hr,hlen,hj⟩:=hc k hk
 exact ⟨cs,hr,hlen,fun j u hu=>(jb9 (p:=⟨b',off+k*1+j,none⟩) (hb b' ⟨hn,_,e,rfl⟩)).trans (hj j u hu)⟩
theorem St.famRd (K:St w L D W) (hm:M.fam n∈D) {i j:Nat} (hi:i<n) (hj:j<M.N):St w L (⟨rdP (M.V i j).B (M.V i j).m (M.V i j).d (M.V i j).k,rdS (M.V i j).B (M.V i j).m⟩::⟨rdP (M.V i j).A (M.V i j).n (M.V i j).c (M.V i j).l,rdS (M.V i j).A (M.V i j).n⟩::D) W:=by
 have h:=K.famAt (i:=(i,j)) hm ⟨hi,hj⟩
 have h1:(⟨rdP (M.V i j).A (M.V i j).n (M.V i j).c (M.V i j).l,rdS (M.V i j).A (M.V i j).n⟩:Hl).ok L W:=⟨h.1.1,fun b hS=>h.2.1 b (Or.inl hS),fun W' g1 g2=>jbg h.1.1 g1 g2⟩
 have h2:(⟨rdP (M.V i j).B (M.V i j).m (M.V i j).d (M.V i j).k,rdS (M.V i j).B (M.V i j).m⟩:Hl).ok L W:=⟨h.1.2,fun b hS=>h.2.1 b (Or.inr hS),fun W' g1 g2=>jbg h.1.2 g1 g2⟩
 exact (K.add h1).add h2
end
def Pt (k:Nat) (q:Rat):Prop:=(q.num.natAbs:Int)<pw k∧(q.den:Int)<pw k
theorem Pt.mono {j k:Nat} {q:Rat} (h:Pt j q) (hjk:j≤k):Pt k q:=by
 have:=jbY hjk
 exact ⟨by have:=h.1;omega,by have:=h.2;omega⟩
theorem jdL {x y:Int} (hy:0<y):((Rat.divInt x y).num.natAbs:Int)≤x.natAbs∧((Rat.divInt x y).den:Int)≤y:=by
 obtain ⟨e1,e2⟩:=jbT (x:=x) hy
 refine ⟨?_,?_⟩
 ·rw [e1,Int.natAbs_ediv_of_dvd (Int.gcd_dvd_left ..)]
  have:=Nat.div_le_self x.natAbs (Int.gcd x y:Int).natAbs
  omega
 ·rw [e2]
  exact Int.ediv_le_self _ ZO
theorem Pt.mul {j k:Nat} {x y:Rat} (hx:Pt j x) (hy:Pt k y) (hjk:j+k≤60):mulK x y=true∧Pt (j+k) (x*y):=by
 have m1:((x.num*y.num).natAbs:Int)<pw (j+k):=jbQ hx.1 hy.1
 have m2:(((x.den:Int)*(y.den:Int)).natAbs:Int)<pw (j+k):=jbQ (x:=(x.den:Int)) (y:=(y.den:Int)) (by have:=hx.2;omega) (by have:=hy.2;omega)
 have hdp:=jba x y
 have h:=jdL (x:=x.num*y.num) hdp
 rw [jfp] at h
 refine ⟨?_,?_,?_⟩
 ·unfold mulK
  rw [jcn m1 hjk,jcn m2 hjk]
  rfl
 ·omega
 ·have:=h.2
  omega
theorem Pt.add {j k:Nat} {x y:Rat} (hx:Pt j x) (hy:Pt k y) (hjk:j+k+1≤60):addK x y=true∧Pt (j+k+1) (x+y):=by
 have m1:((x.num*(y.den:Int)).natAbs:Int)<pw (j+k):=jbQ hx.1 (y:=(y.den:Int)) (by have:=hy.2;omega)
 have m2:((y.num*(x.den:Int)).natAbs:Int)<pw (j+k):=by
  rw [Nat.add_comm]
  exact jbQ hy.1 (y:=(x.den:Int)) (by have:=hx.2;omega)
 have m3:(((x.den:Int)*(y.den:Int)).natAbs:Int)<pw (j+k):=jbQ (x:=(x.den:Int)) (y:=(y.den:Int)) (by have:=hx.2;omega) (by have:=hy.2;omega)
 have hdp:=jba x y
 have hp:pw (j+k+1)=1048576*pw (j+k):=rfl
 have h:=jdL (x:=x.num*y.den+y.num*x.den) hdp
 rw [jfn] at h
 have m4:((x.num*(y.den:Int)+y.num*(x.den:Int)).natAbs:Int)<pw (j+k+1):=by omega
 refine ⟨?_,?_,?_⟩
 ·unfold addK sumK
  rw [jcn m1 ZO,jcn m2 ZO,jcn m3 ZO,jcn m4 hjk]
  rfl
 ·omega
 ·have:=h.2
  omega
theorem Pt.zero:Pt 1 0:=by
 refine ⟨?_,?_⟩ <;> decide +kernel
theorem jjJ {q:Rat} {D z:Int} (hD:((D:Int):Rat)≠0) (h:q*((D:Int):Rat)=((z:Int):Rat)) {B:Int} (h1:(D.natAbs:Int)<B) (h2:(z.natAbs:Int)<B):(q.num.natAbs:Int)<B∧(q.den:Int)<B:=by
 have hD0:D≠0:=fun e=>hD (by rw [e];rfl)
 by_cases hp:0<D
 ·have e:Rat.divInt z D=q:=by
   rw [Rat.divInt_eq_div,←h]
   grind
  have:=jdL (x:=z) hp
  rw [e] at this
  omega
 ·have e:Rat.divInt (-z) (-D)=q:=by
   rw [Rat.divInt_eq_div,Rat.intCast_neg,Rat.intCast_neg,←h]
   grind
  have:=jdL (x:= -z) (y:= -D) ZO
  rw [e] at this
  omega
theorem Pt.one:Pt 1 1:=by
 refine ⟨?_,?_⟩ <;> decide +kernel
theorem Pt.neg {j:Nat} {q:Rat} (h:Pt j q):Pt j (-q):=by
 unfold Pt
 rw [Rat.neg_num,Rat.neg_den,Int.natAbs_neg]
 exact h
def isQ (x:Rw) (q:Rat):Prop:=StdF x.s x.l x.t x.k q∧jaF q=true
section
variable {P:Program} {ops:Array Oper} {Q:Exit→Act→World→Prop} {md:Region.Mode} {S:World→Prop} {n:Nat}
def jaa (P:Program) (md:Region.Mode) (ops:Array Oper) (Q:Exit→Act→World→Prop) (S:World→Prop) (n:Nat):Nat→Array Bool→Act→World→Prop
 | 0,listed,a,w=>Region.ready md ops listed=[]∧Q .normal a w
 | fuel+1,listed,a,w=>(Region.ready md ops listed=[]→Q .normal a w)∧∀i∈Region.ready md ops listed,wpOp P ops Q i (fun a' w'=>(i≠n→S w')∧jaa P md ops Q S n fuel (listed.setIfInBounds i true) a' w') a w
theorem jaa.any:∀(fuel:Nat) (listed:Array Bool) (a:Act) (w:World),jaa P md ops Q S n fuel listed a w→wpAny P md ops Q fuel listed a w
 | 0,_,_,_,h=>h
 | fuel+1,_,_,_,h=>⟨h.1,fun i hi=>wpOp_mono (fun a' w' h'=>jaa.any fuel _ a' w' h'.2) (h.2 i hi)⟩
theorem jc8 {listed:Array Bool} {i:Nat} (h:listed.getD i true=false):listed.getD i false=false:=by
 rcases Nat.lt_or_ge i listed.size with h' | h'
 ·simp [h'] at h ⊢
  exact h
 ·simp [Array.getElem?_eq_none h'] at h
theorem jaa.first {i:Nat} {oi:Oper} {v:Value} (hi:ops[i]?=some oi) (hin:i≠n) (hwait:∀on,ops[n]?=some on→∃e∈on.after,Region.binds md e=true∧e.on=i)
 (hsel:∀(j:Nat) (o:Oper) cs b,ops[j]?=some o→o.op≠.select cs b) (hQ:∀c a w,Q (.panic c) (a.put oi.dst v) w→Q (.panic c) a w) (fuel:Nat) :
 ∀(listed:Array Bool) (a:Act) (w:World),(∀j oj,ops[j]?=some oj→j≠i→listed.getD j true=false→(∀e∈oj.after,Region.binds md e=true→e.on≠i)→oi.apart ops oj=true) →
  i∈Region.ready md ops listed→YieldsIf P ops S oi v a→S w→jaa P md ops Q S n fuel (listed.setIfInBounds i true) (a.put oi.dst v) w→jaa P md ops Q S n (fuel+1) listed a w:=by
 induction fuel with
 | zero =>
  intro listed a w _ hr hy hS H
  exact ZQ53
 | succ fuel ih =>
  intro listed a w hfree hr hy hS H
  refine ⟨(fun h=>by rw [h] at hr;cases hr),fun j hj=>?_⟩
  by_cases hji:j=i
  ·subst hji
   exact hy.wpOp hi hS ⟨fun _=>hS,H⟩
  obtain ⟨hjun,oj,hoj,hall⟩:=mem_ready.1 hj
  have hiun:=jc8 (mem_ready.1 hr).1
  have hno:∀e∈oj.after,Region.binds md e=true→e.on≠i:=fun e he hb heq=>by
   exact jkE
  have hjn:j≠n:=fun e=>by
   subst e
   obtain ⟨e,he,hb,heq⟩:=hwait oj hoj
   exact hno e he hb heq
  exact ZQ43
def jeM (md:Region.Mode) (ops:Array Oper) (n i:Nat):Bool :=
 match ops[n]? with
 | some o=>o.after.any fun e=>Region.binds md e&&e.on==i
 | none=>true
theorem jaa.take {i:Nat} {oi:Oper} {v:Value} {fuel:Nat} {listed:Array Bool} {a:Act} {w:World} (hi:ops[i]?=some oi) (hB:(decide (i≠n)&&jeM md ops n i&&Region.noSelect ops&&Region.free md ops listed i&&(Region.ready md ops listed).contains i)=true)
 (hQ:∀c a w,Q (.panic c) (a.put oi.dst v) w→Q (.panic c) a w) (hy:YieldsIf P ops S oi v a) (hS:S w) (h:jaa P md ops Q S n fuel (listed.setIfInBounds i true) (a.put oi.dst v) w):jaa P md ops Q S n (fuel+1) listed a w:=by
 simp only [Bool.and_eq_true,decide_eq_true_eq] at hB
 obtain ⟨⟨⟨⟨h1,h2⟩,h3⟩,h4⟩,h5⟩:=hB
 refine jaa.first hi h1 (fun on hon=>?_) (Region.noSelect_spec h3) hQ fuel listed a w (Region.free_spec hi h4) (by simpa using h5) hy hS h
 unfold jeM at h2
 rw [hon] at h2
 obtain ⟨e,he,hb⟩:=Array.any_eq_true'.1 h2
 rw [Bool.and_eq_true,beq_iff_eq] at hb
 exact ⟨e,he,hb⟩
theorem jaa.tk (i:Nat) {oi:Oper} {v:Value} {fuel:Nat} {listed:Array Bool} {a:Act} {w:World} {q:Prop} (hi:ops[i]?=some oi) (k:q) (hB:(decide (i≠n)&&jeM md ops n i&&Region.noSelect ops&&Region.free md ops listed i&&(Region.ready md ops listed).contains i)=true:=by decide +kernel)
 (hQ:∀c a w,Q (.panic c) (a.put oi.dst v) w→Q (.panic c) a w:=by exact fun _ _ _ h=>h) (hy:YieldsIf P ops S oi v a:=by (refine Or.inl ⟨by rfl,?_⟩;intro w hSw;(try dsimp only at hSw);go_simp;try with_reducible rfl)) (hS:S w:=by assumption) (h:q→jaa P md ops Q S n fuel (listed.setIfInBounds i true) (a.put oi.dst v) w:=by (intro hq;(try simp only [Act.put,List.setIfInBounds_toArray,List.set_cons_zero,List.set_cons_succ]);exact hq)):jaa P md ops Q S n (fuel+1) listed a w :=
 jaa.take hi hB hQ hy hS (h k)
theorem jaa.one {i:Nat} {o:Oper} {fuel:Nat} {listed:Array Bool} {a:Act} {w:World} (ho:ops[i]?=some o) (hg:o.guard=none) (hB:(decide (i≠n)&&decide (Region.ready md ops listed=[i]))=true)
 (h:∀K:Act→World→Prop,Hid (∀a' w',S w'→(S w'→jaa P md ops Q S n fuel (listed.setIfInBounds i true) a' w')→K a' w')→o.wp P a w K Q):jaa P md ops Q S n (fuel+1) listed a w:=by
 simp only [Bool.and_eq_true,decide_eq_true_eq] at hB
 refine ⟨(fun h0=>by rw [hB.2] at h0;cases h0),fun j hj=>?_⟩
 rw [hB.2,List.mem_singleton] at hj
 subst hj
 have hw:Region.wanted o (yielded ops a.tmps)=true:=by simp [Region.wanted,hg]
 unfold wpOp
 simp only [ho,hw,if_true]
 exact Or.inl (h _ (jpk fun a' w' hS hW=>⟨fun _=>hS,hW hS⟩))
theorem jaa.on (i:Nat) {o:Oper} {fuel:Nat} {listed:Array Bool} {a:Act} {w:World} (ho:ops[i]?=some o)
 (h:∀K:Act→World→Prop,Hid (∀a' w',S w'→(S w'→jaa P md ops Q S n fuel (listed.setIfInBounds i true) a' w')→K a' w')→o.wp P a w K Q) (hg:o.guard=none:=by rfl) (hB:(decide (i≠n)&&decide (Region.ready md ops listed=[i]))=true:=by kernel_rfl):jaa P md ops Q S n (fuel+1) listed a w :=
 jaa.one ho hg hB h
theorem jaa.last {o:Oper} {fuel:Nat} {listed:Array Bool} {a:Act} {w:World} (ho:ops[n]?=some o) (hB:(decide (Region.ready md ops listed=[n])&&decide (Region.ready md ops (listed.setIfInBounds n true)=[]))=true)
 (h:wpList P ops Q [o] a w):jaa P md ops Q S n (fuel+1) listed a w:=by
 simp only [Bool.and_eq_true,decide_eq_true_eq] at hB
 refine ⟨(fun h0=>by rw [hB.1] at h0;cases h0),fun j hj=>?_⟩
 rw [hB.1,List.mem_singleton] at hj
 subst hj
 have hw:wpOp P ops Q j (wpList P ops Q []) a w:=by
  unfold wpOp
  simp only [ho]
  exact h
 refine wpOp_mono (fun a' w' hK=>⟨fun e=>absurd rfl e,?_⟩) hw
 cases fuel with
 | zero=>exact ⟨hB.2,hK⟩
 | succ fuel=>exact ⟨fun _=>hK,fun i hi=>by rw [hB.2] at hi;cases hi⟩
theorem jak {id:Nat} {a:Act} {w:World} (n:Nat) (S:World→Prop) (hm:P.follows .mixedOrders=true) (hS:S w.drew) (h:S w.drew→jaa P .any ops Q S n ops.size (Array.replicate ops.size false) a w.drew):(Code.region id ops true).wp P Q a w :=
 wp_region_any hm (jaa.any _ _ _ _ (h hS))
end
section
variable {P:Program} {ops:Array Oper} {rest:List Oper} {o:Oper} {a:Act} {Q:Exit→Act→World→Prop}
theorem St.storeR {w W:World} {L L':List Blk} {D:List Hl} (K:St w L D W) (hgd:o.guard=none) (hd:o.dst=none) (ty:TypeId) (x y:Operand) (ho:o.op=.store ty x y) (g i N:Nat) {v:Nat→Rw} {J:List Value} {t:TypeId} (z:Rw)
 (hx:a.eval x=.pointer (some ⟨g,i*4,none⟩)) (hy:a.eval y=.agg #[.int .i64 z.s,.slice z.A z.n z.c,.int .i64 z.t,.slice z.B z.m z.d]) (hi:i<N) (hU:Upd g (rwA N v J) t (rwA N (putF v i z) J) L L') (hz:(P.info? ty).map (·.size)=some 4)
 (h:∀W',St w L' D W'→wpList P ops Q rest a W'):wpList P ops Q (o::rest) a W :=
 K.store (off:=i*4) hgd hd ty x y ho _ hx hy z.cs rfl hU (jkg hi z) hz (by rw [jhb];show i*4+4≤_;omega) (fun u hu=>by
  simp [Rw.cs] at hu
  rcases hu with rfl|rfl|rfl|rfl <;> rfl) h
end
section
variable {P:Program} {o:Oper} {a:Act} {KK:Act→World→Prop} {Q:Exit→Act→World→Prop} {w W:World} {L X:List Blk} {D:List Hl}
theorem St.litOp (K:St w L D W) (ty:TypeId) (x:Operand) (ho:o.op=.buildSlice ty 1 #[(0,x)]) (u:Value) (hx:a.eval x=u) (cs:Array Value) (e:TypeId) (hrun:(Instr.buildSlice ty 1 #[(0,u)]).run P W=.ok (.slice (some ⟨W.heap.size,0,none⟩) 1 1) (W.alloc (.cells cs e)))
 (h:∀b W',St w ((b,cs,e)::L) D W'→KK (a.put o.dst (.slice (some ⟨b,0,none⟩) 1 1)) W'):o.wp P a W KK Q:=by
 unfold Oper.wp execOp
 simp [ho,hx,hrun,Oper.upon]
 exact h _ _ (K.new cs e)
theorem St.appOp {α:Type} {sz:Nat} {enc:α→List Value} {e:TypeId} {v:Value} {l:List α} (K:St w (X++L) D W) (ho:OwL sz enc e v l X) (hs:jbq sz enc) (s x:Operand) (t:TypeId)
 (hop:o.op=.call { callee:=.builtin .append,args:=#[s,x],argTypes:=#[t,t] }) (z:Array Value) (bytes:Nat) (ht:P.underlying t=some (.slice e)) (hi:(P.info? e).map (fun i=>(i.zero.map (·.cells),i.size,i.bytes))=some (some z,sz,bytes)) (hz:z.size=sz)
 (hv:a.eval s=v) (y:α) (b:Nat) (e':TypeId) (hb:((b,(enc y).toArray,e'):Blk)∈L) (hx:a.eval x=.slice (some ⟨b,0,none⟩) 1 1) (hlen:l.length≤1000000) (hbb:bytes≤1000)
 (h:∀v' X' W',OwL sz enc e v' (l++[y]) X'→St w (X'++L) D W'→KK (a.put o.dst v') W'):o.wp P a W KK Q:=by
 obtain ⟨i,h1,h2⟩:=Option.map_eq_some_iff.1 hi
 simp only [Prod.mk.injEq] at h2
 obtain ⟨h2,h3,h4⟩:=h2
 obtain ⟨zv,h5,h6⟩:=Option.map_eq_some_iff.1 h2
 have hB:=K.blk (List.mem_append_right X hb)
 have hr:Rd sz (flat enc) W W.heap.size (some ⟨b,0,none⟩) 1 1 [y]:=⟨rfl,Nat.le_refl _,⟨by omega,by omega⟩,fun _=>⟨b,0,rfl,hB.lt,fun k hk=>by
  have hk0:k=0:=by simp at hk;exact hk
  subst hk0
  exact ⟨enc y,rfl,(hs.2 y).1,fun j u hu=>by
   rw [Nat.zero_add,Nat.zero_mul,Nat.zero_add]
   exact hB.cell (by rw [List.getElem?_toArray];exact hu)⟩⟩⟩
 have hbyt:(l.length+1)*bytes≤(1000000+1)*1000:=Nat.mul_le_mul ZO hbb
 obtain ⟨v',W',hrun,g1,g2,g3⟩:=jkf (P:=P) W hs w.heap.size t o.type e i zv bytes ht h1 h5 h3 h4 (by rw [h6,hz]) v l (ho.own hs K) W.heap.size (some ⟨b,0,none⟩) 1 1 [y] hr Zb2 ZO K.1.size
 obtain ⟨X',hX,K'⟩:=ho.of hs K g1 (jdr g2) (fun g hg=>by
  rcases g3 with g3|g3
  ·exact Or.inl (g3 ▸ hg)
  ·rw [g3] at hg
   injection hg with hg
   right
   omega)
 unfold Oper.wp execOp
 simp only [hop,resolve,invoke,builtin,Sem.run_bind,Sem.run_pure,Result.andThen_ok,List.map_toArray,List.map_cons,List.map_nil,hv,hx,hrun]
 exact h v' X' W' hX K'
theorem St.setOp1 {L':List Blk} (K:St w L D W) (hd:o.dst=none) (ty:TypeId) (x y:Operand) (ho:o.op=.store ty x y) {b off:Nat} {cs cs':Array Value} {t:TypeId} (u:Value) (hx:a.eval x=.pointer (some ⟨b,off,none⟩)) (hy:a.eval y=u) (hu:u.cells=#[u])
 (hU:Upd b cs t cs' L L') (hcs:cs.setIfInBounds off u=cs') (hi:(P.info? ty).map (·.size)=some 1) (hfit:off<cs.size) (h1:u.oneCell'=true) (h:∀W',St w L' D W'→KK a W'):o.wp P a W KK Q:=by
 obtain ⟨W',r1,r2,r3⟩:=jcj (P:=P) (off:=off) ty u (K.blk hU.mem) (by rw [hi,hu];rfl) (by rw [hu];simpa using Nat.succ_le_of_lt hfit) (fun z hz=>by rw [hu] at hz;simp at hz;rw [hz];exact h1)
 have e:spl cs off u.cells.toList=cs':=by rw [hu];exact hcs
 rw [e] at r2
 unfold Oper.wp execOp
 simp only [ho,hx,hy,Instr.storeAt,Instr.sureAddr,Sem.run_bind,Sem.run_pure,Result.andThen_ok,r1]
 have:=h W' (K.upd hU r3 r2)
 have e:a.put o.dst undef=a:=by rw [hd];rfl
 first|exact this|(rw [e];exact this)|(simp only [Oper.upon];first|exact this|(rw [e];exact this))
end
def colA (n:Nat) (A:Nat→Nat→Rat) (u i:Nat):Rat:=if u<n then A i u else if u=n+i then 1 else 0
def D4 (a0 a1 a2 a3 b0 b1 b2 b3 c0 c1 c2 c3 d0 d1 d2 d3:Rat):Rat :=
 a0*(b1*(c2*d3-c3*d2)-b2*(c1*d3-c3*d1)+b3*(c1*d2-c2*d1))-a1*(b0*(c2*d3-c3*d2)-b2*(c0*d3-c3*d0)+b3*(c0*d2-c2*d0))+a2*(b0*(c1*d3-c3*d1)-b1*(c0*d3-c3*d0)+b3*(c0*d1-c1*d0))-a3*(b0*(c1*d2-c2*d1)-b1*(c0*d2-c2*d0)+b2*(c0*d1-c1*d0))
def det4 (M:Nat→Nat→Rat):Rat:=D4 (M 0 0) (M 0 1) (M 0 2) (M 0 3) (M 1 0) (M 1 1) (M 1 2) (M 1 3) (M 2 0) (M 2 1) (M 2 2) (M 2 3) (M 3 0) (M 3 1) (M 3 2) (M 3 3)
theorem jet {M N:Nat→Nat→Rat} (h:∀i k,i<4→k<4→M i k=N i k):det4 M=det4 N:=by
 unfold det4
 rw [h 0 0,h 0 1,h 0 2,h 0 3,h 1 0,h 1 1,h 1 2,h 1 3,h 2 0,h 2 1,h 2 2,h 2 3,h 3 0,h 3 1,h 3 2,h 3 3] <;> decide
theorem cram0 (a0 a1 a2 a3 b0 b1 b2 b3 c0 c1 c2 c3 d0 d1 d2 d3 x y z t:Rat):D4 (a0*x+a1*y+a2*z+a3*t) a1 a2 a3 (b0*x+b1*y+b2*z+b3*t) b1 b2 b3 (c0*x+c1*y+c2*z+c3*t) c1 c2 c3 (d0*x+d1*y+d2*z+d3*t) d1 d2 d3=x*D4 a0 a1 a2 a3 b0 b1 b2 b3 c0 c1 c2 c3 d0 d1 d2 d3:=by
 unfold D4
 grind
theorem cram1 (a0 a1 a2 a3 b0 b1 b2 b3 c0 c1 c2 c3 d0 d1 d2 d3 x y z t:Rat):D4 a0 (a0*x+a1*y+a2*z+a3*t) a2 a3 b0 (b0*x+b1*y+b2*z+b3*t) b2 b3 c0 (c0*x+c1*y+c2*z+c3*t) c2 c3 d0 (d0*x+d1*y+d2*z+d3*t) d2 d3=y*D4 a0 a1 a2 a3 b0 b1 b2 b3 c0 c1 c2 c3 d0 d1 d2 d3:=by
 unfold D4
 grind
theorem cram2 (a0 a1 a2 a3 b0 b1 b2 b3 c0 c1 c2 c3 d0 d1 d2 d3 x y z t:Rat):D4 a0 a1 (a0*x+a1*y+a2*z+a3*t) a3 b0 b1 (b0*x+b1*y+b2*z+b3*t) b3 c0 c1 (c0*x+c1*y+c2*z+c3*t) c3 d0 d1 (d0*x+d1*y+d2*z+d3*t) d3=z*D4 a0 a1 a2 a3 b0 b1 b2 b3 c0 c1 c2 c3 d0 d1 d2 d3:=by
 unfold D4
 grind
theorem cram3 (a0 a1 a2 a3 b0 b1 b2 b3 c0 c1 c2 c3 d0 d1 d2 d3 x y z t:Rat):D4 a0 a1 a2 (a0*x+a1*y+a2*z+a3*t) b0 b1 b2 (b0*x+b1*y+b2*z+b3*t) c0 c1 c2 (c0*x+c1*y+c2*z+c3*t) d0 d1 d2 (d0*x+d1*y+d2*z+d3*t)=t*D4 a0 a1 a2 a3 b0 b1 b2 b3 c0 c1 c2 c3 d0 d1 d2 d3:=by
 unfold D4
 grind
theorem cram {M:Nat→Nat→Rat} {z h:Nat→Rat} (hz:∀i,i<4→h i=M i 0*z 0+M i 1*z 1+M i 2*z 2+M i 3*z 3) {r:Nat} (hr:r<4):det4 (fun i k=>if k=r then h i else M i k)=z r*det4 M:=by
 have h0:=hz 0 ZO
 have h1:=hz 1 ZO
 have h2:=hz 2 ZO
 have h3:=hz 3 ZO
 unfold det4
 match r,hr with
 | 0,_=>simp;rw [h0,h1,h2,h3];exact cram0 ..
 | 1,_=>simp;rw [h0,h1,h2,h3];exact cram1 ..
 | 2,_=>simp;rw [h0,h1,h2,h3];exact cram2 ..
 | 3,_=>simp;rw [h0,h1,h2,h3];exact cram3 ..
def padM (m:Nat) (M:Nat→Nat→Rat) (i k:Nat):Rat:=if i<m∧k<m then M i k else if i=k then 1 else 0
def padV (m:Nat) (z:Nat→Rat) (k:Nat):Rat:=if k<m then z k else 0
theorem smQ4 {m:Nat} (hm:m≤4) (f:Nat→Rat):smQ f m=padV m f 0+padV m f 1+padV m f 2+padV m f 3:=by
 unfold padV
 match m,hm with
 | 0,_=>simp [smQ];grind
 | 1,_=>simp [smQ];grind
 | 2,_=>simp [smQ];grind
 | 3,_=>simp [smQ];grind
 | 4,_=>simp [smQ];grind
theorem pad_eq {m:Nat} (hm:m≤4) (M:Nat→Nat→Rat) (z h:Nat→Rat) (he:∀i,i<m→smQ (fun k=>M i k*z k) m=h i):∀i,i<4→padV m h i=padM m M i 0*padV m z 0+padM m M i 1*padV m z 1+padM m M i 2*padV m z 2+padM m M i 3*padV m z 3:=by
 intro i hi
 by_cases e:i<m
 ·have e1:padV m h i=h i:=if_pos e
  have e2:∀k,padV m (fun k=>M i k*z k) k=padM m M i k*padV m z k:=fun k=>by
   unfold padV padM
   by_cases ek:k<m
   ·rw [if_pos ek,if_pos ⟨e,ek⟩,if_pos ek]
   ·rw [if_neg ek,if_neg ek]
    grind
  rw [e1,←he i e,smQ4 hm,e2,e2,e2,e2]
 ·have e1:padV m h i=0:=if_neg e
  have e2:∀k,padM m M i k*padV m z k=0:=fun k=>by
   unfold padV padM
   rw [if_neg (fun h=>e h.1)]
   by_cases ek:k<m
   ·rw [if_neg ZO]
    grind
   ·rw [if_neg ek]
    grind
  rw [e1,e2,e2,e2,e2]
  grind
theorem jnG {m:Nat} (hm:m≤4) {M:Nat→Nat→Rat} {z h:Nat→Rat} (he:∀i,i<m→smQ (fun k=>M i k*z k) m=h i) {r:Nat} (hr:r<m):det4 (padM m fun i k=>if k=r then h i else M i k)=z r*det4 (padM m M):=by
 have h1:=cram (pad_eq hm M z h he) (r:=r) ZO
 have e:padV m z r=z r:=if_pos hr
 rw [e] at h1
 rw [←h1]
 refine jet fun i k hi hk=>?_
 unfold padM padV
 by_cases ek:k=r
 ·rw [if_pos ek]
  by_cases ei:i<m
  ·rw [if_pos ⟨ei,by omega⟩,if_pos ei]
   exact if_pos ek
  ·rw [if_neg (fun h=>ei h.1),if_neg ZO,if_neg ei]
 ·rw [if_neg ek]
  by_cases ei:i<m∧k<m
  ·rw [if_pos ei,if_pos ei]
   exact if_neg ek
  ·rw [if_neg ei,if_neg ei]
def LstP (w:World) (n:Nat) (x:Nat→Rat) (e:Ending) (w':World):Prop:=∃A c,e=.returned (.slice A n c)∧FrK w w' A n c (ofF n fun i=>fvQ (x i))∧Below w.heap.size w w'
def fvJ (l:List Int):List Fv:=ofF l.length fun i=>fvQ ((gi l i:Int):Rat)
end Go.Proofs.YtgikfcjndiohjaaGreat
