/- Laws and walks; conditions stand in each theorem. -/
import Derived.WalkKit
import Derived.Laws.OwnMore
import Derived.Deep.Draws
import Derived.Deep.AppendLies
import Derived.Lib.Hide
import Derived.ProofKit
import Derived.OpenShut
import Derived.ShutString
import Derived.ChangeOld
import Derived.Below
import Derived.SizedLaws
import Derived.Deep.SlicePairs
import Derived.Deep.Slices
import Derived.ChangeSame
import Derived.Maps.AppendAt
import Derived.RegionTactic
import Derived.OwnWalk
import Derived.Laws.CopyRow
import Derived.Laws.CopyOwn
import Derived.Deep.RegionHeld3
import Derived.Test.YtgikfcjndiohjaaGreatProg
import Derived.LoopTactic
import Derived.Deep.QuietTactic
import Derived.BigQuiet
import Derived.Deep.LoopGhost
import Derived.IntWalk
import Derived.Handy
import Derived.Shelf.Abstract
import Derived.Lib.MinMax
import Derived.ArgAppend
import Derived.Laws.BitsLemmas
import Derived.Laws.BitsAllLaws
import Derived.Lib.LazyBuf
import Derived.Test.YtgikfcjndiohjaaGreatP01
set_option linter.unusedVariables false
set_option maxHeartbeats 1000000
set_option maxRecDepth 100000
namespace Go.Proofs.YtgikfcjndiohjaaGreat
open Go.RowKit
theorem ZMB {p:Prop} (h:p:=by repeat (first|with_reducible exact List.mem_cons_self|with_reducible apply List.mem_cons_of_mem)):p:=h
theorem ZMA {p:Prop} (h:p:=by repeat (first|with_reducible exact List.mem_cons_self|with_reducible apply List.mem_cons_of_mem|with_reducible apply List.mem_append_right)):p:=h
theorem ZUP {p:Prop} (h:p:=by repeat (first|with_reducible exact Upd.head _|with_reducible apply Upd.tail)):p:=h
theorem ZUA {p:Prop} (h:p:=by repeat (first|with_reducible exact Upd.head _|with_reducible apply Upd.tail|with_reducible apply Upd.pre)):p:=h
theorem ZRD {p:Prop} (h:p:=by first|exact Rd.nil|exact K.rda|fail):p:=h
theorem ZPT {p q:Prop} (k:q) (h:q→p:=by
 intro hq
 try simp only [Act.put,List.setIfInBounds_toArray,List.set_cons_zero,List.set_cons_succ]
 exact hq):p:=h k
theorem ZAL {p q:Prop} (k:q) (h:q→p:=by
 intro hq
 first
  | ((first | (apply K.alloc;rfl;rfl;(first | with_reducible exact jkQ | with_reducible exact jbh)) | (apply K.box;rfl;rfl;rfl));intro W b K;have r:=K.rawS;revert W b;exact hq)
  | fail):p:=h k
theorem ZST {p q:Prop} (k:q) (h:q→p:=by
 intro hq
 first
  | (apply K.storeA;rfl;rfl;rfl;rfl;rfl;exact ZUP;(first | with_reducible exact jkP | with_reducible exact jar);rfl;rfl;rfl;intro W K;have r:=K.rawS;revert W;exact hq)
  | fail):p:=h k
def val:List Int→Int
 | []=>0
 | d::l=>d+1048576*val l
def DgOk (l:List Int):Prop:=∀d∈l,0≤d∧d<1048576
def pw:Nat→Int
 | 0=>1
 | n+1=>1048576*pw n
theorem jaX:∀n,0<pw n
 | 0=>by simp [pw]
 | n+1=>by rw [pw];have:=jaX n;omega
theorem jd7:∀m n,pw (m+n)=pw m*pw n
 | 0,n=>by simp [pw]
 | m+1,n=>by rw [show m+1+n=(m+n)+1 by omega,pw,pw,jd7 m n,Int.mul_assoc]
theorem jbY {m n:Nat} (h:m≤n):pw m≤pw n:=by
 obtain ⟨k,rfl⟩:=Nat.exists_eq_add_of_le h
 rw [jd7]
 have h1:=jaX m
 have h2:=jaX k
 have:=Int.mul_le_mul_of_nonneg_left (show 1≤pw k by omega) (show 0≤pw m by omega)
 omega
theorem DgOk.nil:DgOk []:=fun d h=>by cases h
theorem DgOk.cons {d:Int} {l:List Int}:DgOk (d::l)↔(0≤d∧d<1048576)∧DgOk l:=by
 unfold DgOk
 simp
theorem DgOk.append {a b:List Int} (ha:DgOk a) (hb:DgOk b):DgOk (a++b):=fun d h=>by
 rcases List.mem_append.1 h with h|h
 ·exact ha d h
 ·exact hb d h
theorem jas:∀ {l:List Int},DgOk l→0≤val l
 | [],_=>by simp [val]
 | d::l,h=>by
  obtain ⟨h1,h2⟩:=DgOk.cons.1 h
  rw [val]
  have:=jas h2
  omega
theorem ja7:∀ {l:List Int},DgOk l→val l<pw l.length
 | [],_=>by simp [val,pw]
 | d::l,h=>by
  obtain ⟨h1,h2⟩:=DgOk.cons.1 h
  rw [val,List.length_cons,pw]
  have:=ja7 h2
  omega
theorem jeL:∀(a b:List Int),val (a++b)=val a+pw a.length*val b
 | [],b=>by simp [val,pw]
 | d::a,b=>by
  rw [List.cons_append,val,val,jeL a b,List.length_cons,pw,Int.mul_add,Int.mul_assoc,Int.add_assoc]
theorem jhh (a:List Int) (d:Int):val (a++[d])=val a+pw a.length*d:=by
 rw [jeL]
 simp [val]
def Trm (l:List Int):Prop:=∀d,l.getLast?=some d→d≠0
def Cn (l:List Int):Prop:=DgOk l∧Trm l
theorem Cn.nil:Cn []:=⟨DgOk.nil,fun d h=>by cases h⟩
theorem Cn.tail {d:Int} {l:List Int} (h:Cn (d::l)):Cn l:=by
 refine ⟨(DgOk.cons.1 h.1).2,fun x hx=>h.2 x ?_⟩
 cases l with
 | nil=>cases hx
 | cons y l=>simpa using hx
theorem Cn.ge:∀ {l:List Int},Cn l→l≠[]→pw (l.length-1)≤val l
 | [],_,h=>absurd rfl h
 | [d],h,_=>by
  obtain ⟨h1,h2⟩:=h
  have h3:=(DgOk.cons.1 h1).1
  have h4:=h2 d rfl
  simp [val,pw]
  omega
 | d::e::l,h,_=>by
  have h1:=Cn.ge (l:=e::l) h.tail Zb0
  have h2:=(DgOk.cons.1 h.1).1
  rw [val]
  simp only [List.length_cons,Nat.add_sub_cancel] at h1 ⊢
  rw [pw]
  omega
theorem Cn.pos {l:List Int} (h:Cn l) (hn:l≠[]):0<val l:=by
 have:=h.ge hn
 have:=jaX (l.length-1)
 omega
theorem Cn.zero {l:List Int} (h:Cn l):val l=0↔l=[]:=⟨fun e=>by
 refine Classical.byContradiction fun hn=>?_
 have:=h.pos hn
 omega,fun e=>by subst e;rfl⟩
theorem Cn.unique:∀ {a b:List Int},Cn a→Cn b→val a=val b→a=b
 | [],b,ha,hb,h=>((hb.zero).1 h.symm).symm
 | d::a,[],ha,hb,h=>(ha.zero).1 h
 | d::a,e::b,ha,hb,h=>by
  have h1:=(DgOk.cons.1 ha.1).1
  have h2:=(DgOk.cons.1 hb.1).1
  rw [val,val] at h
  have h3:d=e:=by omega
  subst h3
  rw [Cn.unique ha.tail hb.tail ZO]
def digs (n:Nat):List Int:=if h:n=0 then [] else ((n%1048576:Nat):Int)::digs (n / 1048576)
termination_by n
decreasing_by omega
theorem jax:digs 0=[]:=by rw [digs];rfl
theorem je2 {n:Nat} (h:n≠0):digs n=((n%1048576:Nat):Int)::digs (n / 1048576):=by rw [digs,dif_neg h]
theorem jau (n:Nat):val (digs n)=(n:Int):=by
 induction n using Nat.strongRecOn with
 | ind n ih =>
  by_cases h:n=0
  ·subst h;rw [jax];rfl
  ·rw [je2 h,val,ih (n / 1048576) ZO]
   omega
theorem jcD {n:Nat}:digs n=[]↔n=0:=⟨fun h=>by
 have:=jau n
 rw [h] at this
 have h2:(0:Int)=n:=this
 omega,fun h=>by subst h;exact jax⟩
theorem jat (n:Nat):Cn (digs n):=by
 induction n using Nat.strongRecOn with
 | ind n ih =>
  by_cases h:n=0
  ·subst h;rw [jax];exact Cn.nil
  ·rw [je2 h]
   have h1:=ih (n / 1048576) ZO
   refine ⟨DgOk.cons.2 ⟨by omega,h1.1⟩,fun d hd=>?_⟩
   by_cases e:n / 1048576=0
   ·rw [e,jax] at hd
    simp at hd
    omega
   ·have hne:digs (n / 1048576)≠[]:=fun e2=>e (jcD.1 e2)
    obtain ⟨y,l,hy⟩:=List.exists_cons_of_ne_nil hne
    refine h1.2 d ?_
    rw [hy] at hd ⊢
    simpa using hd
theorem Cn.digs {l:List Int} (h:Cn l):l=Go.Proofs.YtgikfcjndiohjaaGreat.digs (val l).toNat:=by
 refine h.unique (jat _) ?_
 rw [jau]
 have:=jas h.1
 omega
theorem je1 {l:List Int} (h:Cn l) {n:Nat} (he:val l=(n:Int)):l=Go.Proofs.YtgikfcjndiohjaaGreat.digs n:=h.unique (jat _) (by rw [jau];exact he)
theorem jbs {n k:Nat}:(digs n).length≤k↔(n:Int)<pw k:=by
 have h1:=ja7 (jat n).1
 rw [jau] at h1
 refine ⟨fun h=>by have:=jbY h;omega,fun h=>?_⟩
 refine Classical.byContradiction fun hc=>?_
 have hne:digs n≠[]:=fun e=>by rw [e] at hc;exact hc (Nat.zero_le _)
 have h2:=(jat n).ge hne
 rw [jau] at h2
 have h3:=jbY (show k≤(digs n).length-1 by omega)
 omega
def jbK (l:List Int):List Int:=(l.reverse.dropWhile (· == 0)).reverse
theorem jcy (l:List Int):jbK (l++[0])=jbK l:=by
 unfold jbK
 rw [List.reverse_append]
 simp
theorem jeK {l:List Int} {d:Int} (h:d≠0):jbK (l++[d])=l++[d]:=by
 unfold jbK
 rw [List.reverse_append]
 simp [h]
theorem jhH (l:List Int) (h:DgOk l):Cn (jbK l)∧val (jbK l)=val l∧∃k,k≤l.length∧jbK l=l.take k:=by
 induction hn:l.length generalizing l with
 | zero =>
  have:l=[]:=List.eq_nil_of_length_eq_zero hn
  subst this
  exact ⟨Cn.nil,rfl,0,Nat.le_refl _,rfl⟩
 | succ n ih =>
  obtain ⟨d,l',rfl⟩:∃d l',l=l'++[d]:=by
   have hne:l≠[]:=fun e=>by rw [e] at hn;cases hn
   exact ⟨l.getLast hne,l.dropLast,(List.dropLast_concat_getLast hne).symm⟩
  have hl':l'.length=n:=by simpa using hn
  have hd':DgOk l':=fun x hx=>h x (List.mem_append_left _ hx)
  by_cases e:d=0
  ·subst e
   obtain ⟨h1,h2,k,h3,h4⟩:=ih l' hd' hl'
   rw [jcy]
   refine ⟨h1,by rw [h2,jhh];omega,k,by omega,?_⟩
   rw [h4,List.take_append_of_le_length ZO]
  ·rw [jeK e]
   refine ⟨⟨h,fun x hx=>?_⟩,rfl,n+1,by simp,?_⟩
   ·rw [List.getLast?_append] at hx
    simp at hx
    subst hx;exact e
   ·rw [List.take_of_length_le (by simp;omega)]
theorem jbC {l:List Int} (h:DgOk l):jbK l=digs (val l).toNat:=by
 obtain ⟨h1,h2,-⟩:=jhH l h
 rw [←h2]
 exact h1.digs
section
open Go.RowKit
abbrev Enc (α:Type):=World→Nat→α→List Value→Prop
def Rd {α:Type} (sz:Nat) (R:Enc α) (w:World) (B:Nat) (A:Option Addr) (n cap:Nat) (l:List α):Prop :=
 l.length=n∧n≤cap∧(cap≤9223372036854775807∧n≤140737488351232)∧(0<n→∃b off,A=some ⟨b,off,none⟩∧b<B ∧
  ∀k (h:k<l.length),∃cs,R w B l[k] cs∧cs.length=sz∧∀j u,cs[j]?=some u→w.cell? ⟨b,off+k*sz+j,none⟩=some u)
def jf1 {α:Type} (R:Enc α):Prop:=∀w w' B B' x cs,R w B x cs→B≤B'→(∀p:Addr,p.block<B→w'.cell? p=w.cell? p)→R w' B' x cs
def flat {α:Type} (enc:α→List Value):Enc α:=fun _ _ x cs=>cs=enc x
theorem jab {α:Type} (enc:α→List Value):jf1 (flat enc):=fun _ _ _ _ _ _ h _ _=>h
section
variable {α:Type} {sz:Nat} {R:Enc α} {w w':World} {B B' C:Nat} {A:Option Addr} {n cap:Nat} {l:List α}
theorem Rd.keep (hR:jf1 R) (h:Rd sz R w B A n cap l) (hB:B≤B') (hk:∀p:Addr,p.block<B→w'.cell? p=w.cell? p):Rd sz R w' B' A n cap l:=by
 refine ⟨h.1,h.2.1,h.2.2.1,fun hn=>?_⟩
 obtain ⟨b,off,rfl,hb,hc⟩:=h.2.2.2 hn
 refine ⟨b,off,rfl,by omega,fun k hk'=>?_⟩
 obtain ⟨cs,hr,hl,hj⟩:=hc k hk'
 exact ⟨cs,hR _ _ _ _ _ _ hr hB hk,hl,fun j u hu=>(hk _ hb).trans (hj j u hu)⟩
theorem Rd.below (hR:jf1 R) (h:Rd sz R w B A n cap l) (hb:Below C w w') (hC:B≤C) (hB:B≤B'):Rd sz R w' B' A n cap l :=
 h.keep hR hB fun _ hp=>hb.cell ZO
theorem Rd.up (hR:jf1 R) (h:Rd sz R w w.heap.size A n cap l) (hb:Below w.heap.size w w'):Rd sz R w' w'.heap.size A n cap l :=
 h.below hR hb (Nat.le_refl _) hb.size
theorem Rd.nil:Rd sz R w B none 0 0 ([]:List α):=⟨rfl,by omega,⟨by omega,by omega⟩,fun h=>absurd h ZO⟩
theorem Rd.len (h:Rd sz R w B A n cap l):l.length=n:=h.1
theorem Rd.caps (h:Rd sz R w B A n cap l):n≤cap∧cap≤9223372036854775807∧n≤140737488351232:=⟨h.2.1,h.2.2.1⟩
theorem Rd.take (h:Rd sz R w B A n cap l) {k:Nat} (hk:k≤n):Rd sz R w B A k cap (l.take k):=by
 refine ⟨by rw [List.length_take,h.1];omega,by have:=h.2.1;omega,⟨h.2.2.1.1,by have:=h.2.2.1;omega⟩,fun hn=>?_⟩
 obtain ⟨b,off,rfl,hb,hc⟩:=h.2.2.2 ZO
 refine ⟨b,off,rfl,hb,fun j hj=>?_⟩
 simp only [List.length_take] at hj
 obtain ⟨cs,hr,hl,hj'⟩:=hc j ZO
 exact ⟨cs,by rw [List.getElem_take];exact hr,hl,hj'⟩
end
def iEnc:Int→List Value:=fun x=>[.int .i64 x]
abbrev RdI:=Rd 1 (flat iEnc)
theorem Rd.atI {w:World} {B:Nat} {A:Option Addr} {n cap:Nat} {l:List Int} (h:RdI w B A n cap l) {k:Nat} (hk:k<n) :
 ∃b off x,A=some ⟨b,off,none⟩∧b<B∧l[k]?=some x∧w.cell? ⟨b,off+k,none⟩=some (.int .i64 x):=by
 obtain ⟨b,off,rfl,hb,hc⟩:=h.2.2.2 ZO
 have hl:=h.1
 obtain ⟨cs,rfl,hl,hj⟩:=hc k ZO
 exact ⟨b,off,l[k],rfl,hb,List.getElem?_eq_getElem ZO,by simpa [iEnc] using hj 0 _ rfl⟩
end
section
open Go.ChangeShapes Go.WideShapes Go.ChangeAt Go.RowKit Go.Deep
section
variable {H:Type} {enc:TypeId × Value→H} {P:Program} {w:World}
end
end
section
open Go.ChangeShapes Go.WideShapes Go.ChangeAt Go.RowKit Go.Deep
theorem jgt (b off k:Nat):(⟨b,off,none⟩:Addr).add k=⟨b,off+k,none⟩:=by
 unfold Addr.add;split
 ·rename_i h0;rw [h0];rfl
 ·rfl
def slE {α:Type} (sz:Nat) (R:Enc α):Enc (List α):=fun w B l cs=>∃A n cap,cs=[.slice A n cap]∧Rd sz R w B A n cap l
def prE {α β:Type} (s:Nat) (R:Enc α) (S:Enc β):Enc (α × β):=fun w B x cs=>R w B x.1 (cs.take s)∧S w B x.2 (cs.drop s)
section
variable {H:Type} (enc:TypeId × Value→H) (P:Program) (w:World)
def jdk {α:Type} (t:TypeId) (sz:Nat) (R:Enc α) (Wp:α→Prop):Prop :=
 ∀fuel cs y,DataW.trod enc P w 0 (fun _=>true) true fuel t cs=some y→(∀n∈y.1.weights P t,n≤reachBytes)→cs.length=sz∧∃x,R w w.heap.size x cs∧Wp x
def jeN {α:Type} (fs:List Field) (off sz:Nat) (R:Enc α) (Wp:α→Prop):Prop :=
 ∀n (cs:List Value) (ys:List (DataW H × List MemPlace)),ys.length=fs.length→(∀(j:Nat) (f:Field),fs[j]?=some f→DataW.trod enc P w 0 (fun _=>true) true n f.type ((cs.drop f.offset).take (P.cellsOf f.type))=ys[j]?) →
  (∀k∈DataW.weightsEach P (fs.map (·.type)) (ys.map (·.1)),k≤reachBytes)→((cs.drop off).take sz).length=sz∧∃x,R w w.heap.size x ((cs.drop off).take sz)∧Wp x
variable {enc P w}
theorem jcv {t:TypeId} {k:IntKind} (ht:P.underlying t=some (.int k)):jdk enc P w t 1 (flat fun x=>[.int k x]) (fun x=>(Lit.int k x).wf=true):=fun fuel cs y h _=>by
 obtain ⟨n,rfl,_,hw⟩:=DataW.trod_int ht h
 exact ⟨rfl,n,rfl,hw⟩
theorem jcU {e:TypeId} {d:DataW H} {n:Nat} (hn:n∈d.weights P e):∀ {l:List (DataW H)},d∈l→n∈DataW.weightsAll P e l
 | [],h=>by cases h
 | x::l,h=>by
  simp only [DataW.weightsAll,List.mem_append]
  rcases List.mem_cons.1 h with rfl|h
  ·exact Or.inl hn
  ·exact Or.inr (jcU hn h)
theorem jcd {α:Type} [Inhabited α] {t e:TypeId} {sz:Nat} {R:Enc α} {Wp:α→Prop} (he:jdk enc P w e sz R Wp) (ht:P.underlying t=some (.slice e)) (hc:P.cellsOf e=sz) (hsz:0<sz) (hby:0<P.bytesOf e) :
 jdk enc P w t 1 (slE sz R) (fun l=>∀x∈l,Wp x):=fun fuel cs y h hwt=>by
 rcases open_slice ht h with ⟨rfl,_⟩|⟨a,len,cap,m,n,D,Pl,rfl,hb,hl,hm,hmm,rfl,hx⟩
 ·exact ⟨rfl,[],⟨none,0,0,rfl,Rd.nil⟩,by simp⟩
 ·simp only [if_true] at hmm
  subst hmm
  simp only [DataW.weights,ht] at hwt
  have hlen:len≤140737488351232:=by
   have h1:=hwt _ (List.mem_cons_self ..)
   simp only [List.length_map,List.length_range,reachBytes] at h1
   have h2:len*1≤(len+(m-len))*P.bytesOf e:=Nat.mul_le_mul ZO hby
   omega
  have each:∀i,i<len→∃q:α × List Value,(w.cells? 0 (a.add (i*P.cellsOf e)) (P.cellsOf e)=some q.2∧q.2.length=sz)∧R w w.heap.size q.1 q.2∧Wp q.1:=fun i hi=>by
   obtain ⟨cs',h1,h2⟩:=hx i ZO
   obtain ⟨hl',x,hr,hw⟩:=he _ _ _ h2 (fun k hk=>hwt k (List.mem_cons_of_mem _ (List.mem_append.2 (Or.inl (jcU hk (List.mem_map.2 ⟨i,List.mem_range.2 hi,rfl⟩))))))
   exact ⟨(x,cs'),⟨h1,hl'⟩,hr,hw⟩
  obtain ⟨q,hq⟩:=choose_lt each
  refine ⟨rfl,(List.range len).map fun i=>(q i).1,⟨some a,len,m,rfl,by simp,hl,⟨by unfold maxLen at hm;exact hm,hlen⟩,fun hn=>?_⟩,fun x hx=>?_⟩
  ·obtain ⟨b,off,spot⟩:=a
   have hat:∀i,i<len→∀j u,(q i).2[j]?=some u→w.cell? ((⟨b,off,spot⟩:Addr).add (i*sz+j))=some u:=fun i hi j u hu=>by
    obtain ⟨_,hcl,hat⟩:=World.cells?_some (hq i hi).1.1
    have hj:j<(q i).2.length:=(List.getElem?_eq_some_iff.1 hu).1
    have h1:=hat j ZO
    rw [hu,hc,add_add] at h1
    exact h1
   have h0:∃u,(q 0).2[0]?=some u:=⟨(q 0).2[0]'(by rw [(hq 0 hn).1.2];exact hsz),List.getElem?_eq_getElem _⟩
   obtain ⟨u,hu⟩:=h0
   have hs:spot=none:=by
    have h2:=World.cell?_spot (hat 0 hn 0 u hu)
    simpa [Addr.add] using h2
   subst hs
   have hcell:∀i,i<len→∀j u,(q i).2[j]?=some u→w.cell? ⟨b,off+i*sz+j,none⟩=some u:=fun i hi j u hu=>by
    have h1:=hat i hi j u hu
    rw [jgt] at h1
    rw [Nat.add_assoc];exact h1
   have h1:=hcell 0 hn 0 u hu
   refine ⟨b,off,rfl,World.block_lt_of_cell? w _ h1,fun k hk=>?_⟩
   simp only [List.length_map,List.length_range] at hk
   refine ⟨(q k).2,?_,(hq k hk).1.2,fun j u hu=>hcell k hk j u hu⟩
   simp only [List.getElem_map,List.getElem_range]
   exact (hq k hk).2.1
  ·obtain ⟨i,hi,rfl⟩:=List.mem_map.1 hx
   exact (hq i (List.mem_range.1 hi)).2.2
theorem jc1 {α:Type} {f:Field} {off s:Nat} {R:Enc α} {Wp:α→Prop} (h:jdk enc P w f.type s R Wp) (ho:f.offset=off) (hc:P.cellsOf f.type=s):jeN enc P w [f] off s R Wp:=fun n cs ys hy hf hw=>by
 obtain ⟨y,rfl⟩:∃y,ys=[y]:=List.length_eq_one_iff.1 hy
 have h1:=hf 0 f rfl
 rw [ho,hc] at h1
 exact h _ _ _ h1 (fun k hk=>hw k (by simpa [DataW.weightsEach] using hk))
theorem jcu {α β:Type} {f:Field} {fs:List Field} {off s s':Nat} {R:Enc α} {S:Enc β} {Wp:α→Prop} {Wq:β→Prop} (h:jdk enc P w f.type s R Wp) (ho:f.offset=off) (hc:P.cellsOf f.type=s) (hs:jeN enc P w fs (off+s) s' S Wq) :
 jeN enc P w (f::fs) off (s+s') (prE s R S) (fun x=>Wp x.1∧Wq x.2):=fun n cs ys hy hf hw=>by
 match ys,hy with
 | y::ys,hy =>
  have h1:=hf 0 f rfl
  rw [ho,hc] at h1
  simp only [List.map_cons,DataW.weightsEach,List.mem_append] at hw
  obtain ⟨a1,x,a2,a3⟩:=h _ _ _ h1 (fun k hk=>hw k (Or.inl hk))
  obtain ⟨b1,z,b2,b3⟩:=hs n cs ys (by simpa using hy) (fun j g hg=>by have:=hf (j+1) g (by simpa using hg);simpa using this) (fun k hk=>hw k (Or.inr hk))
  have e1:((cs.drop off).take (s+s')).take s=(cs.drop off).take s:=by rw [List.take_take,Nat.min_eq_left ZO]
  have e2:((cs.drop off).take (s+s')).drop s=(cs.drop (off+s)).take s':=by rw [List.drop_take,List.drop_drop,Nat.add_sub_cancel_left]
  refine ⟨?_,(x,z),⟨by rw [e1];exact a2,by rw [e2];exact b2⟩,a3,b3⟩
  simp only [List.length_take,List.length_drop] at a1 b1 ⊢
  omega
theorem jcw {α:Type} {t:TypeId} {fs:Array Field} {sz:Nat} {R:Enc α} {Wp:α→Prop} (ht:P.underlying t=some (.struct fs)) (hc:P.cellsOf t=sz) (h:jeN enc P w fs.toList 0 sz R Wp):jdk enc P w t sz R Wp:=fun fuel cs y hy hw=>by
 obtain ⟨xs,n,rfl,rfl,hl,hxl,hf⟩:=DataW.trod_struct ht hy
 simp only [DataW.weights,ht] at hw
 have h1:=h n cs xs (by simpa using hxl) (fun j f hj=>hf j f (by simpa using hj)) hw
 have e:(cs.drop 0).take sz=cs:=by rw [List.drop_zero,List.take_of_length_le ZO]
 rw [e] at h1
 exact h1
theorem jct {α:Type} {t:TypeId} {sz:Nat} {R:Enc α} {Wp:List α→Prop} {e:TypeId} {r:Reach} {b0:Nat} {v:Value} {d:DataW H} {p:List MemPlace} (h:jdk enc P w t 1 (slE sz R) Wp) (ht:P.underlying t=some (.slice e)) (hv:Value.okWide P w r b0 t v)
 (hd:DataW.Trod enc P w 0 (fun _=>true) true t v d p) (hw:∀n∈d.weights P t,n≤reachBytes):∃A n cap l,v=.slice A n cap∧Rd sz R w w.heap.size A n cap l∧Wp l:=by
 obtain ⟨A,n,cap,rfl⟩:=okWide_slice ht hv
 obtain ⟨fuel,hf⟩:=hd
 obtain ⟨_,l,⟨A',n',cap',he,hr⟩,hwp⟩:=h _ _ _ hf hw
 simp [Value.cells] at he
 obtain ⟨rfl,rfl,rfl⟩:=he
 exact ⟨A,n,cap,l,rfl,hr,hwp⟩
theorem jdF {α:Type} {t:TypeId} {sz:Nat} {R:Enc α} {Wp:α→Prop} {fs:Array Field} {r:Reach} {b0:Nat} {v:Value} {d:DataW H} {p:List MemPlace} (h:jdk enc P w t sz R Wp) (ht:P.underlying t=some (.struct fs)) (hv:Value.okWide P w r b0 t v)
 (hd:DataW.Trod enc P w 0 (fun _=>true) true t v d p) (hw:∀n∈d.weights P t,n≤reachBytes):∃cs x,v=.agg cs∧R w w.heap.size x cs.toList∧Wp x:=by
 obtain ⟨cs,rfl,_⟩:=okWide_struct ht hv
 obtain ⟨fuel,hf⟩:=hd
 obtain ⟨_,x,hr,hwp⟩:=h _ _ _ hf hw
 exact ⟨cs,x,rfl,hr,hwp⟩
theorem jdN {t:TypeId} {W':World} {v:Value} {d:DataW H} {p:List MemPlace} (hl:laidOutB P=true) (hr:P.readableRec t=true) (hrow:t<P.types.size) (h:DataW.Trod enc P w 0 (fun _=>true) true t v d p) (hb:Below w.heap.size w W') :
 DataW.Trod enc P W' 0 (fun b=>decide (b<w.heap.size)) true t v d p :=
 Below.trod hl hr hrow h hb (by obtain ⟨m,hm⟩:=h;exact DataW.trod_lt m _ _ _ hm)
end
end
section
open Go.RowKit
def jbq {α:Type} (sz:Nat) (enc:α→List Value):Prop:=0<sz∧∀x,(enc x).length=sz∧∀u∈enc x,u.oneCell'=true
section
variable {α:Type} {sz:Nat} {enc:α→List Value}
theorem ja1 (hs:jbq sz enc):∀l:List α,(l.flatMap enc).length=l.length*sz
 | []=>by simp
 | x::l=>by rw [List.flatMap_cons,List.length_append,ja1 hs l,(hs.2 x).1,List.length_cons,Nat.add_mul];omega
theorem jbn (hs:jbq sz enc):∀(l:List α) (k j:Nat),j<sz→(l.flatMap enc)[k*sz+j]?=(l[k]?).bind fun x=>(enc x)[j]?
 | [],k,j,_=>by simp
 | x::l,0,j,hj=>by
  rw [List.flatMap_cons,List.getElem?_append_left (by rw [(hs.2 x).1];omega)]
  simp
 | x::l,k+1,j,hj=>by
  rw [List.flatMap_cons,List.getElem?_append_right (by rw [(hs.2 x).1,Nat.add_mul];omega),(hs.2 x).1,show (k+1)*sz+j-sz=k*sz+j by rw [Nat.add_mul];omega,jbn hs l k j hj]
  simp
theorem jd0 (hs:jbq sz enc):∀(l:List α) (k:Nat) (x:α) (j:Nat) (u:Value),l[k]?=some x→j<sz→∀y,enc y=(enc x).set j u→(l.flatMap enc).set (k*sz+j) u=(l.set k y).flatMap enc
 | [],k,x,j,u,h,_,y,_=>by simp at h
 | z::l,0,x,j,u,h,hj,y,hy=>by
  simp at h;subst h
  rw [List.flatMap_cons,List.set_cons_zero,List.flatMap_cons,List.set_append_left _ _ (by rw [(hs.2 z).1];omega),hy]
  simp
 | z::l,k+1,x,j,u,h,hj,y,hy=>by
  rw [List.flatMap_cons,List.set_cons_succ,List.flatMap_cons,List.set_append_right _ _ (by rw [(hs.2 z).1,Nat.add_mul];omega),(hs.2 z).1,show (k+1)*sz+j-sz=k*sz+j by rw [Nat.add_mul];omega,
   jd0 hs l k x j u (by simpa using h) hj y hy]
theorem jap:jbq 1 iEnc:=⟨by omega,fun x=>⟨rfl,by intro u hu;simp [iEnc] at hu;subst hu;rfl⟩⟩
theorem Rd.cells (hs:jbq sz enc) {w:World} {B:Nat} {A:Option Addr} {n cap:Nat} {l:List α} (h:Rd sz (flat enc) w B A n cap l) (hn:0<n) :
 ∃b off,A=some ⟨b,off,none⟩∧b<B∧∀j u,(l.flatMap enc)[j]?=some u→w.cell? ⟨b,off+j,none⟩=some u:=by
 obtain ⟨b,off,rfl,hb,hc⟩:=h.2.2.2 hn
 refine ⟨b,off,rfl,hb,fun j u hu=>?_⟩
 have hsz:=hs.1
 have hjl:j<(l.flatMap enc).length:=by rw [List.getElem?_eq_some_iff] at hu;exact hu.1
 rw [ja1 hs] at hjl
 have hdm:=Nat.div_add_mod j sz
 have hml:=Nat.mod_lt j hsz
 have hk:j / sz<l.length:=Nat.div_lt_of_lt_mul (by rw [Nat.mul_comm];exact hjl)
 obtain ⟨cs,rfl,hl,hj⟩:=hc (j / sz) hk
 have e:j / sz*sz+j%sz=j:=by rw [Nat.mul_comm];exact hdm
 rw [←e,jbn hs l _ _ hml,List.getElem?_eq_getElem hk] at hu
 have h2:=hj (j%sz) u (by simpa using hu)
 rw [show off+j / sz*sz+j%sz=off+j by omega] at h2
 exact h2
def Own (sz:Nat) (enc:α→List Value) (w:World) (base:Nat) (e:TypeId) (v:Value) (l:List α):Prop:=w.ownsRow base e sz v l.length (l.flatMap enc)
section
variable {w w':World} {base:Nat} {e:TypeId} {v:Value} {l:List α}
theorem Own.nil:Own sz enc w base e (.slice none 0 0) ([]:List α):=World.ownsRow_nil _ _ _ _
theorem Own.alloc (h:Own sz enc w base e v l) (o:Obj):Own sz enc (w.alloc o) base e v l:=World.ownsRow.alloc h o
theorem Own.below (h:Own sz enc w base e v l) (hb:Below w.heap.size w w'):Own sz enc w' base e v l:=by
 refine ⟨h.1,?_⟩
 rcases h.2 with h0|⟨g,cap,cur,hv,hg,hh,h2⟩
 ·exact .inl h0
 ·refine .inr ⟨g,cap,cur,hv,hg,(hb.block g ?_).trans hh,h2⟩
  exact (Array.getElem?_eq_some_iff.1 hh).1
theorem Own.mono {base':Nat} (h:Own sz enc w base e v l) (hb:base'≤base):Own sz enc w base' e v l:=by
 refine ⟨h.1,?_⟩
 rcases h.2 with h0|⟨g,cap,cur,hv,hg,h2⟩
 ·exact .inl h0
 ·exact .inr ⟨g,cap,cur,hv,by omega,h2⟩
theorem Own.lt (h:Own sz enc w base e v l):∀k,v.ownBlock=some k→base≤k∧k<w.heap.size:=World.ownsRow.lt h
theorem Own.grow (h:Own sz enc w base e v l) {w0:World} {C:Nat} (hC:C≤base) (hb:Below C w0 w) (hB:C≤w.heap.size) (hg:w.grownBy w' v.ownBlock):Below C w0 w' :=
 hb.grown hg hB fun k hk=>Nat.le_trans hC (h.lt k hk).1
theorem Own.rd (hs:jbq sz enc) (h:Own sz enc w base e v l) (hn:l.length≤140737488351232):∃A cap,v=.slice A l.length cap∧Rd sz (flat enc) w w.heap.size A l.length cap l:=by
 rcases h.2 with ⟨rfl,h0⟩|⟨g,cap,cur,hv,hg,hh,hnc,hcm,hcs,htake⟩
 ·have:l=[]:=List.eq_nil_of_length_eq_zero h0
  subst this
  exact ⟨none,0,rfl,Rd.nil⟩
 ·subst hv
  refine ⟨_,cap,rfl,rfl,hnc,⟨by unfold maxLen at hcm;exact hcm,hn⟩,fun _=>⟨g,0,rfl,(Array.getElem?_eq_some_iff.1 hh).1,fun k hk=>⟨enc l[k],rfl,(hs.2 _).1,fun j u hu=>?_⟩⟩⟩
  have hj:j<sz:=by rw [←(hs.2 l[k]).1];exact (List.getElem?_eq_some_iff.1 hu).1
  have hkl:k*sz+j<l.length*sz:=by
   have h1:=Nat.mul_le_mul_right sz (show k+1≤l.length from hk)
   rw [Nat.add_mul] at h1;omega
  have h1:=World.ownsRow.cellAt h (k*sz+j) hkl
  rw [Nat.zero_add,h1,jbn hs l k j hj,List.getElem?_eq_getElem hk]
  simpa using hu
theorem Own.form (h:Own sz enc w base e v l) (hn:0<l.length):∃g cap,v=.slice (some ⟨g,0,none⟩) l.length cap∧base≤g∧g<w.heap.size∧l.length≤cap∧cap≤9223372036854775807∧(∀j,w.frozen? ⟨g,j,none⟩=false)∧v.ownBlock=some g:=by
 rcases h.2 with ⟨rfl,h0⟩|⟨g,cap,cur,hv,hg,hh,hnc,hcm,hcs,htake⟩
 ·omega
 ·subst hv
  exact ⟨g,cap,rfl,hg,(Array.getElem?_eq_some_iff.1 hh).1,hnc,by unfold maxLen at hcm;exact hcm,fun j=>World.ownsRow.frozenAt h j,rfl⟩
theorem Own.stored (hs:jbq sz enc) {g cap n:Nat} (h:Own sz enc w base e (.slice (some ⟨g,0,none⟩) n cap) l) (hln:l.length=n) {k j:Nat} {x y:α} {u:Value} (hk:l[k]?=some x) (hj:j<sz) (hy:enc y=(enc x).set j u) :
 Own sz enc (w.setCell ⟨g,k*sz+j,none⟩ u) base e (.slice (some ⟨g,0,none⟩) n cap) (l.set k y)∧w.grownBy (w.setCell ⟨g,k*sz+j,none⟩ u) (some g):=by
 subst hln
 have h1:=World.ownsRow.stored h (k*sz+j) u
 rw [jd0 hs l k x j u hk hj y hy] at h1
 refine ⟨?_,h1.2⟩
 unfold Own
 rw [List.length_set]
 exact h1.1
end
theorem Own.lit (hs:jbq sz enc) {w:World} {base n:Nat} {e:TypeId} (hb:base≤w.heap.size) (l:List α) (cs:Array Value) (hcs:cs=(l.flatMap enc).toArray) (hn:l.length=n) (hm:n≤140737488351232) :
 Own sz enc (w.alloc (.cells cs e)) base e (.slice (some ⟨w.heap.size,0,none⟩) n n) l:=by
 subst hn
 have h:=World.ownsRow_lit (e:=e) (size:=sz) w cs l.length hb Zb2 (by rw [hcs];simp only [List.size_toArray];exact ja1 hs l)
 unfold Own
 rw [hcs] at h ⊢
 simpa using h
theorem Rd.new1 (hs:jbq sz enc) (w:World) (x:α) (cs:Array Value) (hcs:cs=(enc x).toArray) (t:TypeId):Rd sz (flat enc) (w.alloc (.cells cs t)) (w.heap.size+1) (some ⟨w.heap.size,0,none⟩) 1 1 [x]:=by
 subst hcs
 refine ⟨rfl,by omega,⟨by omega,by omega⟩,fun _=>⟨w.heap.size,0,rfl,by omega,fun k hk=>⟨enc x,?_,(hs.2 x).1,fun j u hu=>?_⟩⟩⟩
 ·have:k=0:=by simpa using hk
  subst this
  rfl
 ·have:k=0:=by simpa using hk
  subst this
  simpa using hu
section
variable {P:Program} (w:World)
theorem jep (base:Nat) (t ty e:TypeId) (i:TypeInfo) (size:Nat) (ht:P.underlying t=some (.slice e)) (hi:P.info? e=some i)
 (v:Value) (n:Nat) (xs:List Value) (hown:w.ownsRow base e size v n xs) (A:Option Addr) (c:Nat) (hA:A=none):(Builtin.append_ #[t,t] ty #[v,.slice A 0 c]).run P w=.ok v w:=by
 subst hA
 rcases hown.2 with ⟨rfl,rfl⟩|⟨g,cap,cur,rfl,_,_,hnc,_⟩
 ·simp [Builtin.append_,run_underlying ht,sizeOf,typeInfo,hi,Builtin.lenOf,Builtin.firstCells]
 ·simp [Builtin.append_,run_underlying ht,sizeOf,typeInfo,hi,Builtin.lenOf,Builtin.firstCells,hnc,storeCells]
theorem jkf (hs:jbq sz enc) (base:Nat) (t ty e:TypeId) (i:TypeInfo) (z:Value) (bytes:Nat) (ht:P.underlying t=some (.slice e)) (hi:P.info? e=some i) (hz:i.zero=some z)
 (hsize:i.size=sz) (hby:i.bytes=bytes) (hzs:z.cells.size=sz)
 (v:Value) (l:List α) (hown:Own sz enc w base e v l) (B:Nat) (A:Option Addr) (m c:Nat) (l2:List α) (hr:Rd sz (flat enc) w B A m c l2)
 (h63:l.length+m≤maxLen) (hbytes:(l.length+m)*bytes≤140737488355328) (hbase:base≤w.heap.size) :
 ∃v' w',(Builtin.append_ #[t,t] ty #[v,.slice A m c]).run P w=.ok v' w'∧Own sz enc w' base e v' (l++l2)∧w.grownBy w' v.ownBlock∧(v'.ownBlock=v.ownBlock∨v'.ownBlock=some w.heap.size):=by
 have hl2:=hr.len
 rcases A with _|ad
 ·have hm:m=0:=by
   rcases Nat.eq_zero_or_pos m with h0|h0
   ·exact h0
   ·obtain ⟨b,off,h,_⟩:=hr.2.2.2 h0
    cases h
  subst hm
  have hn:l2=[]:=List.eq_nil_of_length_eq_zero hl2
  subst hn
  exact ⟨v,w,jep w base t ty e i sz ht hi v _ _ hown none c rfl,by simpa using hown,World.grownBy.refl w _,.inl rfl⟩
 ·have hcells:∀j u,(l2.flatMap enc)[j]?=some u→w.cell? (ad.add j)=some u:=by
   intro j u hu
   rcases Nat.eq_zero_or_pos m with h0|h0
   ·have hn:l2=[]:=List.eq_nil_of_length_eq_zero (hl2.trans h0)
    subst hn
    simp at hu
   ·obtain ⟨b,off,h,_,hc⟩:=hr.cells hs h0
    injection h with h
    subst h
    have h2:=hc j u hu
    simp only [Addr.add]
    split
    ·rename_i hj0
     subst hj0
     simpa using h2
    ·exact h2
  obtain ⟨v',w',hrun,h2,h3,_,h5⟩:=run_append_own_at (P:=P) w base t ty e i z sz bytes ht hi hz hsize hby hzs hs.1 v l.length _ hown ad m c (l2.flatMap enc) (by rw [ja1 hs,hl2]) hcells
   (by intro u hu;obtain ⟨x,_,hx⟩:=List.mem_flatMap.1 hu;exact (hs.2 x).2 u hx) h63 hbytes hbase
  refine ⟨v',w',hrun,?_,h3,h5⟩
  unfold Own
  rw [List.length_append,hl2,List.flatMap_append]
  exact h2
theorem jbN (hs:jbq sz enc) {ops:Array Oper} {rest:List Oper} {o:Oper} {a:Act} {Q:Exit→Act→World→Prop} (hgd:o.guard=none) (s x:Operand) (t:TypeId)
 (ho:o.op=.call { callee:=.builtin .append,args:=#[s,x],argTypes:=#[t,t] })
 (base:Nat) (e:TypeId) (i:TypeInfo) (z:Value) (bytes:Nat) (ht:P.underlying t=some (.slice e)) (hi:P.info? e=some i) (hz:i.zero=some z)
 (hsize:i.size=sz) (hby:i.bytes=bytes) (hzs:z.cells.size=sz)
 (v:Value) (l:List α) (hv:a.eval s=v) (hown:Own sz enc w base e v l) (B:Nat) (A:Option Addr) (m c:Nat) (l2:List α) (hx:a.eval x=.slice A m c) (hr:Rd sz (flat enc) w B A m c l2)
 (h63:l.length+m≤maxLen) (hbytes:(l.length+m)*bytes≤140737488355328) (hbase:base≤w.heap.size)
 (h:∀v' w',Own sz enc w' base e v' (l++l2)→w.grownBy w' v.ownBlock→(v'.ownBlock=v.ownBlock∨v'.ownBlock=some w.heap.size)→wpList P ops Q rest (a.put o.dst v') w'):wpList P ops Q (o::rest) a w:=by
 refine wpList_plain hgd fun _ hK=>?_
 obtain ⟨v',w',hrun,h2,h3,h4⟩:=jkf (P:=P) w hs base t o.type e i z bytes ht hi hz hsize hby hzs v l hown B A m c l2 hr h63 hbytes hbase
 unfold Oper.wp execOp
 simp only [ho,resolve,invoke,builtin,Sem.run_bind,Sem.run_pure,Result.andThen_ok,List.map_toArray,List.map_cons,List.map_nil,hv,hx,hrun]
 exact hK _ _ (h v' w' h2 h3 h4)
theorem jda (hs:jbq sz enc) (x:α) (z:Value) (hz:z.cells=(enc x).toArray) (n:Nat):(madeCells z.cells (n*sz)).toList=(List.replicate n x).flatMap enc:=by
 have hsz:=hs.1
 have hlen:=(hs.2 x).1
 apply List.ext_getElem?
 intro j
 by_cases hj:j<n*sz
 ·have hdm:=Nat.div_add_mod j sz
  have hml:=Nat.mod_lt j hsz
  have hk:j / sz<n:=Nat.div_lt_of_lt_mul (by rw [Nat.mul_comm];exact hj)
  have e:j / sz*sz+j%sz=j:=by rw [Nat.mul_comm];exact hdm
  have h2:=jbn hs (List.replicate n x) (j / sz) (j%sz) hml
  rw [e] at h2
  rw [h2]
  simp only [madeCells,hz]
  simp [hj,hlen,hk]
  rw [List.getElem?_eq_getElem (by rw [hlen];exact hml)]
  rfl
 ·rw [List.getElem?_eq_none (by simp [madeCells];omega),List.getElem?_eq_none (by rw [ja1 hs];simp;omega)]
theorem jbS (hs:jbq sz enc) (zx:α) {ops:Array Oper} {rest:List Oper} {o:Oper} {a:Act} {Q:Exit→Act→World→Prop}
 (hg:o.guard=none) (l c:Operand) (t:TypeId) (hop:o.op=Op.makeSlice t l c)
 (base:Nat) (e:TypeId) (i:TypeInfo) (z:Value) (h1:P.underlying t=some (.slice e)) (h2:P.info? e=some i) (h3:i.zero=some z) (h4:i.size=sz) (hzz:z.cells=(enc zx).toArray)
 (kl kc:IntKind) (L C:Int) (n:Nat) (hl:a.eval l=.int kl L) (hc:a.eval c=.int kc C) (hL:L=(n:Int)) (hC:C=(n:Int)) (b2:i.bytes*n≤281474976710656) (b3:n≤maxLen) (b4:base≤w.heap.size)
 (hK:∀w',Own sz enc w' base e (.slice (some ⟨w.heap.size,0,none⟩) n n) (List.replicate n zx)→w.grownBy w' none→wpList P ops Q rest (a.put o.dst (.slice (some ⟨w.heap.size,0,none⟩) n n)) w') :
 wpList P ops Q (o::rest) a w :=
 wpList_make_full w hg l c t hop base e i z sz h1 h2 h3 h4 kl kc L C n hl hc hL hC b2 b3 b4 fun w' r1 r2=>hK w' (by
  unfold Own;rw [List.length_replicate,←jda hs zx z hzz];exact r1) r2
end
end
def ofF {α:Type} (n:Nat) (f:Nat→α):List α:=(List.range n).map f
section
variable {α:Type} {n:Nat} {f g:Nat→α}
theorem jag:(ofF n f).length=n:=by simp [ofF]
theorem jaJ {i:Nat} (h:i<n):(ofF n f)[i]?=some (f i):=by
 unfold ofF;rw [List.getElem?_map,List.getElem?_range h];rfl
theorem jne {i:Nat} {x:α} (h:(ofF n f)[i]?=some x):i<n∧x=f i:=by
 by_cases hi:i<n
 ·rw [jaJ hi] at h;exact ⟨hi,(Option.some.inj h).symm⟩
 ·rw [List.getElem?_eq_none Zb3] at h;cases h
theorem jaD (h:∀i,i<n→f i=g i):ofF n f=ofF n g:=List.map_congr_left fun i hi=>h i (List.mem_range.1 hi)
theorem jn4 (i:Nat) (x:α):(ofF n f).set i x=ofF n (fun j=>if j=i then x else f j):=by
 apply List.ext_getElem?
 intro j
 rw [List.getElem?_set]
 by_cases hj:j<n
 ·rw [jaJ hj,jaJ hj,jag]
  by_cases h:i=j
  ·subst h;simp [hj]
  ·rw [if_neg h,if_neg (fun e=>h e.symm)]
 ·rw [List.getElem?_eq_none (l:=ofF n fun j=>if j=i then x else f j) Zb3,List.getElem?_eq_none (l:=ofF n f) Zb3]
  rw [jag]
  split
  ·rename_i h;subst h;rw [if_neg hj]
  ·rfl
theorem jcs (x:α):List.replicate n x=ofF n (fun _=>x):=by
 apply List.ext_getElem?
 intro j
 by_cases hj:j<n
 ·rw [jaJ hj];simp [hj]
 ·rw [List.getElem?_eq_none (by simpa using hj),List.getElem?_eq_none Zb3]
theorem jcN:ofF (n+1) f=ofF n f++[f n]:=by simp [ofF,List.range_succ]
theorem jn3 {x:α} (h:x∈ofF n f):∃i,i<n∧x=f i:=by
 obtain ⟨i,hi,rfl⟩:=List.mem_map.1 h
 exact ⟨i,List.mem_range.1 hi,rfl⟩
end
section
variable {w:World} {base:Nat} {e:TypeId} {g n cap:Nat}
theorem Own.cellI {f:Nat→Int} (h:Own 1 iEnc w base e (.slice (some ⟨g,0,none⟩) n cap) (ofF n f)) {i:Nat} (hi:i<n):w.cell? ⟨g,i,none⟩=some (.int .i64 (f i))∧w.frozen? ⟨g,i,none⟩=false:=by
 unfold Own at h
 rw [jag] at h
 refine ⟨?_,World.ownsRow.frozenAt h i⟩
 have h1:=World.ownsRow.cellAt h i ZO
 have h2:=jbn jap (ofF n f) i 0 ZO
 rw [jaJ hi] at h2
 rw [show i*1+0=i by omega] at h2
 rw [h1,h2]
 rfl
theorem Own.setI {f:Nat→Int} (h:Own 1 iEnc w base e (.slice (some ⟨g,0,none⟩) n cap) (ofF n f)) {i:Nat} (hi:i<n) (x:Int) :
 Own 1 iEnc (w.setCell ⟨g,i,none⟩ (.int .i64 x)) base e (.slice (some ⟨g,0,none⟩) n cap) (ofF n (fun j=>if j=i then x else f j)):=by
 have h1:=(Own.stored (k:=i) (j:=0) (y:=x) (u:=.int .i64 x) jap h jag (jaJ hi) ZO rfl).1
 rw [jn4] at h1
 simpa using h1
end
end
section
open Go.RowKit
section
variable {α:Type} {sz:Nat} {enc:α→List Value}
variable {P:Program} {w:World}
end
end
section
open Go.RowKit
section
variable {P:Program} {α:Type} {sz:Nat} {enc:α→List Value} (w:World)
end
end
section
open Go.RowKit
theorem jjE (w:World) (g j:Nat) (u:Value):w.grownBy (w.setCell ⟨g,j,none⟩ u) (some g) :=
 ⟨rfl,rfl,rfl,by simp [World.setCell],fun i _ hne=>Below.heap_setCell w ⟨g,j,none⟩ u i (fun e=>hne (by rw [e]))⟩
structure Kept (S:Nat→Prop) (w w':World):Prop where
 os:w'.os=w.os
 tape:w'.tape=w.tape
 output:w'.output=w.output
 size:w.heap.size≤w'.heap.size
 block:∀i,i<w.heap.size→¬S i→w'.heap[i]?=w.heap[i]?
section
variable {S T:Nat→Prop} {w w' w'':World}
theorem Kept.refl (S:Nat→Prop) (w:World):Kept S w w:=⟨rfl,rfl,rfl,Nat.le_refl _,fun _ _ _=>rfl⟩
theorem Kept.trans (h:Kept S w w') (k:Kept T w' w'') (hT:∀i,i<w.heap.size→T i→S i):Kept S w w'' :=
 ⟨k.os.trans h.os,k.tape.trans h.tape,k.output.trans h.output,Nat.le_trans h.size k.size,fun i hi hs=>(k.block i (Nat.lt_of_lt_of_le hi h.size) (fun ht=>hs (hT i hi ht))).trans (h.block i hi hs)⟩
theorem jeP (h:Below w.heap.size w w'):Kept (fun _=>False) w w':=⟨h.os,h.tape,h.output,h.size,fun i hi _=>h.block i hi⟩
theorem Kept.below {C:Nat} (h:Kept S w w') (hC:C≤w.heap.size) (hS:∀i,S i→C≤i):Below C w w':=⟨h.os,h.tape,h.output,h.size,fun i hi=>h.block i ZO (fun hs=>by have:=hS i hs;omega)⟩
theorem jdr {o:Option Nat} (h:w.grownBy w' o):Kept (fun i=>o=some i) w w':=⟨h.os,h.tape,h.output,h.size,fun i hi hs=>h.block i hi (fun e=>hs e.symm)⟩
theorem Kept.setCell (h:Kept S w w') {b o:Nat} (v:Value) (hb:S b∨w.heap.size≤b):Kept S w (w'.setCell ⟨b,o,none⟩ v):=by
 have hg:=jjE w' b o v
 exact h.trans (jdr hg) (fun i hi e=>by
  injection e with e;subst e
  rcases hb with hb|hb
  ·exact hb
  ·omega)
theorem Kept.alloc (h:Kept S w w') (o:Obj):Kept S w (w'.alloc o) :=
 h.trans (jeP ((Below.refl w'.heap.size w').alloc (Nat.le_refl _) o)) (fun _ _ h=>False.elim h)
theorem Kept.cell (h:Kept S w w') {p:Addr} (hp:p.block<w.heap.size) (hs:¬S p.block):w'.cell? p=w.cell? p:=by
 have:=h.block p.block hp hs
 unfold World.cell?
 rw [this]
variable {α:Type} {sz:Nat} {enc:α→List Value} {base:Nat} {e:TypeId} {v:Value} {l:List α}
theorem Own.keptS (h:Own sz enc w base e v l) (hk:Kept S w w') (hv:∀g,v.ownBlock=some g→¬S g):Own sz enc w' base e v l:=by
 refine ⟨h.1,?_⟩
 rcases h.2 with h0|⟨g,cap,cur,rfl,hg,hh,h2⟩
 ·exact .inl h0
 ·exact .inr ⟨g,cap,cur,rfl,hg,(hk.block g (Array.getElem?_eq_some_iff.1 hh).1 (hv g rfl)).trans hh,h2⟩
theorem Rd.keptS {B B':Nat} {A:Option Addr} {n cap:Nat} (h:Rd sz (flat enc) w B A n cap l) (hk:Kept S w w') (hB:B≤w.heap.size) (hB':B≤B') (hA:0<n→∀b off,A=some ⟨b,off,none⟩→¬S b):Rd sz (flat enc) w' B' A n cap l:=by
 refine ⟨h.1,h.2.1,h.2.2.1,fun hn=>?_⟩
 obtain ⟨b,off,rfl,hb,hc⟩:=h.2.2.2 hn
 refine ⟨b,off,rfl,by omega,fun k hk'=>?_⟩
 obtain ⟨cs,hr,hl,hj⟩:=hc k hk'
 exact ⟨cs,hr,hl,fun j u hu=>(hk.cell (p:=⟨b,off+k*sz+j,none⟩) (by show b<_;omega) (hA hn b off rfl)).trans (hj j u hu)⟩
end
end
section
open Go.RowKit
theorem jaH {B:Nat} {a w:World} (h:Below B a w) (n:Nat):Below B a (w.drewN n):=⟨h.os,h.tape,h.output,h.size,h.block⟩
theorem jaN {o:Option TypeInfo} {z:Value} {s b:Nat} (h:o.map (fun i=>(i.zero,i.size,i.bytes))=some (some z,s,b)):∃i,o=some i∧i.zero=some z∧i.size=s∧i.bytes=b:=by
 cases o with
 | none=>cases h
 | some i=>simp at h;exact ⟨i,rfl,h.1,h.2.1,h.2.2⟩
theorem jaY {w:World} {cs:Array Value} {T:TypeId} {H j:Nat} {u:Value} (hH:w.heap.size=H) (hu:cs[j]?=some u):(w.alloc (.cells cs T)).cell? ⟨H,j,none⟩=some u:=by
 subst hH;simp [hu]
theorem Own.drewN {α:Type} {sz:Nat} {enc:α→List Value} {w:World} {base:Nat} {e:TypeId} {v:Value} {l:List α} (h:Own sz enc w base e v l) (n:Nat):Own sz enc (w.drewN n) base e v l:=h
theorem Rd.drewN {α:Type} {sz:Nat} {R:Enc α} {w:World} {B:Nat} {A:Option Addr} {n cap:Nat} {l:List α} (hR:jf1 R) (h:Rd sz R w B A n cap l) (k:Nat):Rd sz R (w.drewN k) B A n cap l :=
 h.keep hR (Nat.le_refl _) fun _ _=>rfl
theorem jfk {α:Type} {n:Nat} {f:Nat→α} {x:α}:ofF n f++[x]=ofF (n+1) (fun j=>if j<n then f j else x):=by
 rw [jcN,if_neg (Nat.lt_irrefl n),jaD (g:=f) (fun i hi=>if_pos hi)]
theorem je3 {w wr:World} (h:∃q,wr=w.drewN q) (r:Nat):∃q,wr.drewN r=w.drewN q:=by
 obtain ⟨q,rfl⟩:=h
 exact ⟨q+r,by rw [World.drewN_drewN]⟩
theorem jcZ {w wr:World} (h:∃q,wr=w.drewN q) (a:Addr):wr.cell? a=w.cell? a:=by
 obtain ⟨q,rfl⟩:=h;rfl
theorem jjb (w:World):∃q,w=w.drewN q:=⟨0,rfl⟩
theorem Rd.litG {α:Type} {sz:Nat} {enc:α→List Value} (hs:jbq sz enc) {w:World} (e:TypeId) (l:List α) (cs:Array Value) (n H:Nat) (hH:w.heap.size=H) (hcs:cs=(l.flatMap enc).toArray) (hn:l.length=n) (hm:n≤140737488351232):Rd sz (flat enc) (w.alloc (.cells cs e)) (w.alloc (.cells cs e)).heap.size (some ⟨H,0,none⟩) n n l:=by
 subst hH
 obtain ⟨A,c,h1,h2⟩:=(Own.lit (e:=e) hs (Nat.le_refl w.heap.size) l cs hcs hn hm).rd hs (by rw [hn];exact hm)
 injection h1 with h1 h3 h4
 subst h1 h4
 rw [hn] at h2
 exact h2
def gi (l:List Int) (k:Nat):Int:=l.getD k 0
theorem jaS {l:List Int} {k:Nat} {x:Int} (h:l[k]?=some x):gi l k=x:=by simp [gi,List.getD,h]
def fs (D:Nat→Nat→Int) (i k:Nat) (x:Int):Nat→Nat→Int:=fun a b=>if a=i∧b=k then x else D a b
def inB (lo hi x:Int):Bool:=decide (lo≤x)&&decide (x≤hi)
theorem jbf:(Tryz.prog.info? 3).map (fun i=>(i.zero,i.size,i.bytes))=some (some (.int .i64 0),1,8):=by kernel_rfl
end
section
open Go.RowKit
section
variable {P:Program} {α:Type} {sz:Nat} {enc:α→List Value}
theorem jbd (hs:jbq sz enc) {ops:Array Oper} {rest:List Oper} {o:Oper} {a:Act} {Q:Exit→Act→World→Prop} (hgd:o.guard=none) (s x:Operand) (t:TypeId)
 (ho:o.op=.call { callee:=.builtin .append,args:=#[s,x],argTypes:=#[t,t] })
 (base:Nat) (e:TypeId) (i:TypeInfo) (z:Value) (bytes:Nat) (ht:P.underlying t=some (.slice e)) (hi:P.info? e=some i) (hz:i.zero=some z)
 (hsize:i.size=sz) (hby:i.bytes=bytes) (hzs:z.cells.size=sz)
 {w:World} (v:Value) (l:List α) (hv:a.eval s=v) (hown:Own sz enc w base e v l) (y:α) (cs:Array Value) (hcs:cs=(enc y).toArray) (H:Nat) (hH:w.heap.size=H) (hx:a.eval x=.slice (some ⟨H,0,none⟩) 1 1)
 (hlen:l.length≤1000000) (hbb:bytes≤1000) (hbase:base≤w.heap.size)
 (h:∀v' w',Own sz enc w' base e v' (l++[y])→Kept (fun b=>v.ownBlock=some b) w w'→(∀g,v'.ownBlock=some g→v.ownBlock=some g∨w.heap.size≤g)→(∀B w0,B≤base→Below B w0 w→Below B w0 w')→wpList P ops Q rest (a.put o.dst v') w'):wpList P ops Q (o::rest) a (w.alloc (.cells cs e)):=by
 subst hH
 refine jbN (w.alloc (.cells cs e)) hs hgd s x t ho base e i z bytes ht hi hz hsize hby hzs v l hv (hown.alloc _) _ _ 1 1 [y] hx (Rd.new1 hs w y cs hcs e) Zb2 ?_ (by simp;omega) ?_
 ·have:(l.length+1)*bytes≤(1000000+1)*1000:=Nat.mul_le_mul ZO hbb
  omega
 ·intro v' w' ho' hg' hx'
  have hk:Kept (fun b=>v.ownBlock=some b) w w':=((Kept.refl (fun b=>v.ownBlock=some b) w).alloc _).trans (jdr hg') (fun _ _ h=>h)
  refine h v' w' ho' hk (fun g hg=>?_) (fun B w0 hB hb=>?_)
  ·rcases hx' with hx' | hx'
   ·exact Or.inl (hx' ▸ hg)
   ·rw [hx'] at hg;injection hg with hg;right;rw [←hg];simp
  ·exact Own.grow (hown.alloc _) hB (hb.alloc ZO _) (by simp;omega) hg'
end
end
section
open Go.RowKit
section
variable {P:Program} {α:Type} {sz:Nat} {enc:α→List Value}
end
end
def vF (f:Nat→Int):Nat→Int
 | 0=>0
 | n+1=>vF f n+pw n*f n
theorem jaR {f g:Nat→Int}:∀n,(∀i,i<n→f i=g i)→vF f n=vF g n
 | 0,_=>rfl
 | n+1,h=>by rw [vF,vF,jaR n (fun i hi=>h i ZO),h n ZO]
theorem jdQ (f:Nat→Int):∀n,vF f (n+1)=f 0+1048576*vF (fun i=>f (i+1)) n
 | 0=>by simp [vF,pw]
 | n+1=>by
  rw [vF,jdQ f n,vF,pw,Int.mul_add,Int.mul_assoc]
  omega
theorem jgs {f:Nat→Int} {n:Nat}:val (ofF n f)=vF f n:=by
 induction n generalizing f with
 | zero=>rfl
 | succ n ih =>
  have h:ofF (n+1) f=f 0::ofF n (fun i=>f (i+1)):=by simp [ofF,List.range_succ_eq_map,Function.comp_def]
  rw [h,val,ih,jdQ]
theorem jjU {l:List Int} {n:Nat} (h:l.length=n):ofF n (gi l)=l:=by
 apply List.ext_getElem?
 intro i
 by_cases hi:i<n
 ·rw [jaJ hi,List.getElem?_eq_getElem ZO]
  congr 1
  exact jaS (List.getElem?_eq_getElem ZO)
 ·rw [List.getElem?_eq_none Zb3,List.getElem?_eq_none ZO]
theorem ja0 {l:List Int} {n:Nat} (h:l.length=n):val l=vF (gi l) n:=by rw [←jgs,jjU h]
def Dg (f:Nat→Int) (n:Nat):Prop:=∀i,i<n→0≤f i∧f i<1048576
theorem Dg.ok {f:Nat→Int} {n:Nat} (h:Dg f n):DgOk (ofF n f):=fun d hd=>by
 obtain ⟨i,hi,rfl⟩:=jn3 hd
 exact h i hi
theorem DgOk.at {l:List Int} (h:DgOk l) {n:Nat} (hn:l.length=n):Dg (gi l) n:=fun i hi=>by
 have h1:=List.getElem?_eq_getElem (show i<l.length by omega)
 rw [jaS h1]
 exact h _ (List.getElem_mem _)
theorem jaV {f:Nat→Int}:∀ {n},Dg f n→0≤vF f n
 | 0,_=>Int.le_refl _
 | n+1,h=>by
  rw [vF]
  have h1:=jaV (n:=n) (fun i hi=>h i ZO)
  have h2:=(h n ZO).1
  have:=Int.mul_nonneg (Int.le_of_lt (jaX n)) h2
  omega
theorem jcz {f:Nat→Int}:∀ {n},Dg f n→vF f n<pw n
 | 0,_=>by simp [vF,pw]
 | n+1,h=>by
  rw [vF,pw]
  have h1:=jcz (n:=n) (fun i hi=>h i ZO)
  have h2:=(h n ZO).2
  have h3:=Int.mul_le_mul_of_nonneg_left (show f n≤1048575 by omega) (Int.le_of_lt (jaX n))
  omega
theorem jfq {p c x r q:Int} (h:c+x=r+1048576*q):p*r+(1048576*p)*q=p*c+p*x:=by
 have:p*r+(1048576*p)*q=p*(r+1048576*q):=by
  rw [Int.mul_add,Int.mul_comm 1048576 p,Int.mul_assoc]
 rw [this,←h,Int.mul_add]
theorem dm (x:Int):x=x%1048576+1048576*(x / 1048576):=by have:=Int.emod_add_mul_ediv x 1048576;omega
def padF (n:Nat) (f:Nat→Int) (i:Nat):Int:=if i<n then f i else 0
theorem jeg {f:Nat→Int} {n:Nat}:∀m,n≤m→vF (padF n f) m=vF f n
 | 0,h=>by rw [show n=0 by omega];rfl
 | m+1,h=>by
  by_cases e:n=m+1
  ·subst e
   exact jaR _ fun i hi=>if_pos hi
  ·rw [vF,jeg m ZO,padF,if_neg ZO]
   omega
def AddI (a b o:Nat→Int) (i:Nat) (c:Int):Prop:=vF o i+pw i*c=vF a i+vF b i∧Dg o i∧0≤c∧c≤1
theorem AddI.zero {a b o:Nat→Int}:AddI a b o 0 0:=⟨by simp [vF,pw],fun i h=>absurd h ZO,by omega,by omega⟩
theorem AddI.step {a b o:Nat→Int} {i:Nat} {c:Int} (h:AddI a b o i c) (ha:0≤a i∧a i<1048576) (hb:0≤b i∧b i<1048576) (ho:o i=(c+a i+b i)%1048576):AddI a b o (i+1) ((c+a i+b i) / 1048576):=by
 obtain ⟨h1,h2,h3,h4⟩:=h
 refine ⟨?_,fun j hj=>?_,by omega,by omega⟩
 ·rw [vF,vF,vF,pw,ho,Int.add_assoc,jfq (c:=c) (x:=a i+b i) (by rw [←Int.add_assoc];exact dm _),Int.mul_add]
  omega
 ·exact jnA
theorem AddI.congr {a b o o':Nat→Int} {i:Nat} {c:Int} (h:AddI a b o i c) (he:∀j,j<i→o' j=o j):AddI a b o' i c :=
 ⟨by rw [jaR i he];exact h.1,fun j hj=>by rw [he j hj];exact h.2.1 j hj,h.2.2⟩
theorem AddI.fin {a b o:Nat→Int} {n:Nat} {c:Int} (h:AddI a b o n c) (ho:o n=c):vF o (n+1)=vF a n+vF b n∧Dg o (n+1):=by
 refine ⟨by rw [vF,ho];exact h.1,fun j hj=>?_⟩
 by_cases e:j=n
 ·subst e;rw [ho];have:=h.2.2;omega
 ·exact h.2.1 j ZO
def SubI (a b o:Nat→Int) (i:Nat) (c:Int):Prop:=vF o i=vF a i-vF b i+pw i*c∧Dg o i∧0≤c∧c≤1
theorem SubI.zero {a b o:Nat→Int}:SubI a b o 0 0:=⟨by simp [vF,pw],fun i h=>absurd h ZO,by omega,by omega⟩
theorem SubI.step {a b o:Nat→Int} {i:Nat} {c:Int} (h:SubI a b o i c) (ha:0≤a i∧a i<1048576) (hb:0≤b i∧b i<1048576) (ho:o i=(a i-c-b i)%1048576):SubI a b o (i+1) (-((a i-c-b i) / 1048576)):=by
 obtain ⟨h1,h2,h3,h4⟩:=h
 refine ⟨?_,fun j hj=>?_,by omega,by omega⟩
 ·have h5:=jfq (p:=pw i) (c:= -c) (x:=a i-b i) (r:=(a i-c-b i)%1048576) (q:=(a i-c-b i) / 1048576) (by have:=dm (a i-c-b i);omega)
  rw [vF,vF,vF,pw,ho,h1,Int.mul_neg]
  rw [Int.mul_neg,Int.mul_sub] at h5
  omega
 ·exact jnA
theorem SubI.congr {a b o o':Nat→Int} {i:Nat} {c:Int} (h:SubI a b o i c) (he:∀j,j<i→o' j=o j):SubI a b o' i c :=
 ⟨by rw [jaR i he];exact h.1,fun j hj=>by rw [he j hj];exact h.2.1 j hj,h.2.2⟩
theorem SubI.fin {a b o:Nat→Int} {n:Nat} {c:Int} (h:SubI a b o n c) (hle:vF b n≤vF a n):vF o n=vF a n-vF b n:=by
 have h1:=jcz h.2.1
 have h2:=h.2.2
 have h3:=jaX n
 by_cases e:c=0
 ·subst e;have:=h.1;omega
 ·have e1:c=1:=by omega
  subst e1
  have:=h.1
  omega
theorem jkv {f:Nat→Int} {p:Nat} {x:Int}:∀n,vF (fun j=>if j=p then x else f j) n=if p<n then vF f n+pw p*(x-f p) else vF f n
 | 0=>by simp [vF]
 | n+1=>by
  rw [vF,jkv n,vF]
  by_cases h:p<n
  ·rw [if_pos h,if_neg ZO,if_pos ZO];omega
  ·by_cases e:n=p
   ·subst e;rw [if_neg ZO,if_pos rfl,if_pos ZO,Int.mul_sub];omega
   ·rw [if_neg h,if_neg e,if_neg ZO]
theorem jef {f g:Nat→Int} {i:Nat}:∀n,i<n→Dg f n→Dg g n→f i<g i→(∀j,i<j→j<n→f j=g j)→vF f n<vF g n
 | 0,h,_,_,_,_=>absurd h ZO
 | n+1,h,hf,hg,hl,he=>by
  rw [vF,vF]
  by_cases e:i=n
  ·subst e
   have h1:=jcz (n:=i) (fun j hj=>hf j ZO)
   have h2:=jaV (n:=i) (fun j hj=>hg j ZO)
   have h3:=Int.mul_le_mul_of_nonneg_left (show f i+1≤g i by omega) (Int.le_of_lt (jaX i))
   rw [Int.mul_add,Int.mul_one] at h3
   omega
  ·have h1:=jef n ZO (fun j hj=>hf j ZO) (fun j hj=>hg j ZO) hl (fun j h1 h2=>he j h1 ZO)
   rw [he n ZO ZO]
   omega
def cmpI (x y:Int):Int:=if x<y then -1 else if y<x then 1 else 0
theorem jc6 {a b:List Int} (ha:DgOk a) (hb:Cn b) (h:a.length<b.length):val a<val b:=by
 have h1:=ja7 ha
 have h2:=hb.ge (fun e=>by rw [e] at h;simp at h)
 have h3:=jbY (show a.length≤b.length-1 by omega)
 omega
def updF (f:Nat→Int) (p:Nat) (x:Int):Nat→Int:=fun j=>if j=p then x else f j
def MulI (x:Int) (b o0 o:Nat→Int) (M i nb k:Nat) (c:Int):Prop:=vF o M+pw (i+k)*c=vF o0 M+pw i*(x*vF b k)∧Dg o M∧(0≤c∧c<1048576)∧∀j,i+k≤j→o j=o0 j
theorem MulI.zero {x:Int} {b o:Nat→Int} {M i nb:Nat} (h:Dg o M):MulI x b o o M i nb 0 0:=⟨by simp [vF],h,by omega,fun _ _=>rfl⟩
theorem jeC {a b:Int} (ha:0≤a∧a<1048576) (hb:0≤b∧b<1048576):0≤a*b∧a*b≤1099509530625:=by
 have h1:=Int.mul_nonneg ha.1 hb.1
 have h2:a*b≤1048575*1048575:=Int.mul_le_mul ZO ZO hb.1 ZO
 omega
theorem MulI.step {x:Int} {b o0 o:Nat→Int} {M i nb k:Nat} {c:Int} (h:MulI x b o0 o M i nb k c) (hx:0≤x∧x<1048576) (hb:0≤b k∧b k<1048576) (hM:i+k<M) :
 MulI x b o0 (updF o (i+k) ((o (i+k)+x*b k+c)%1048576)) M i nb (k+1) ((o (i+k)+x*b k+c) / 1048576):=by
 obtain ⟨h1,h2,h3,h4⟩:=h
 have h5:=h2 (i+k) hM
 have h6:=jeC hx hb
 refine ⟨?_,fun j hj=>?_,by omega,fun j hj=>?_⟩
 ·have h7:vF (updF o (i+k) ((o (i+k)+x*b k+c)%1048576)) M=vF o M+pw (i+k)*((o (i+k)+x*b k+c)%1048576-o (i+k)):=by
   unfold updF
   rw [jkv,if_pos hM]
  rw [h7,vF,show i+(k+1)=(i+k)+1 by omega,pw,Int.mul_add x,Int.mul_add (pw i)]
  have h8:pw i*(x*(pw k*b k))=pw (i+k)*(x*b k):=by
   rw [jd7,Int.mul_assoc,Int.mul_left_comm x]
  rw [h8]
  have h9:=jfq (p:=pw (i+k)) (c:=o (i+k)) (x:=x*b k+c) (r:=(o (i+k)+x*b k+c)%1048576) (q:=(o (i+k)+x*b k+c) / 1048576) (by have:=dm (o (i+k)+x*b k+c);omega)
  rw [Int.mul_sub]
  rw [Int.mul_add (pw (i+k)) (x*b k)] at h9
  omega
 ·unfold updF
  by_cases e:j=i+k
  ·rw [if_pos e];omega
  ·rw [if_neg e];exact h2 j hj
 ·unfold updF
  rw [if_neg ZO]
  exact h4 j ZO
theorem MulI.fin {x:Int} {b o0 o:Nat→Int} {M i nb:Nat} {c:Int} (h:MulI x b o0 o M i nb nb c) (hM:i+nb<M) (h0:o0 (i+nb)=0):vF (updF o (i+nb) (o (i+nb)+c)) M=vF o0 M+pw i*(x*vF b nb)∧Dg (updF o (i+nb) (o (i+nb)+c)) M∧∀j,i+nb<j→updF o (i+nb) (o (i+nb)+c) j=o0 j:=by
 obtain ⟨h1,h2,h3,h4⟩:=h
 have h5:=h4 (i+nb) (Nat.le_refl _)
 rw [h5,h0]
 refine ⟨?_,fun j hj=>?_,fun j hj=>?_⟩
 ·unfold updF
  rw [jkv,if_pos hM,h5,h0]
  rw [←h1]
  congr 2
  omega
 ·unfold updF
  by_cases e:j=i+nb
  ·rw [if_pos e];omega
  ·rw [if_neg e];exact h2 j hj
 ·unfold updF
  rw [if_neg ZO]
  exact h4 j ZO
def vT (f:Nat→Int) (n i:Nat):Int:=vF (fun j=>f (i+j)) (n-i)
theorem jkw (f:Nat→Int) (n:Nat):vT f n 0=vF f n:=by
 unfold vT
 rw [Nat.sub_zero]
 exact jaR n fun i _=>by rw [Nat.zero_add]
theorem jkx (f:Nat→Int) (n:Nat):vT f n n=0:=by unfold vT;rw [Nat.sub_self];rfl
theorem jgr (f:Nat→Int) {n i:Nat} (h:i<n):vT f n i=f i+1048576*vT f n (i+1):=by
 unfold vT
 rw [show n-i=(n-(i+1))+1 by omega,jdQ]
 congr 2
 exact jaR _ fun j _=>by rw [show i+1+j=i+(j+1) by omega]
def ShI (a o:Nat→Int) (n i:Nat) (d r:Int):Prop:=d*vT o n i+r=vT a n i∧(0≤r∧r<d)∧∀j,i≤j→j<n→0≤o j∧o j<1048576
theorem ShI.zero {a o:Nat→Int} {n:Nat} {d:Int} (hd:0<d):ShI a o n n d 0:=⟨by rw [jkx,jkx];omega,by omega,fun j h1 h2=>absurd h2 ZO⟩
theorem ShI.step {a o:Nat→Int} {n i:Nat} {d r:Int} (h:ShI a o n (i+1) d r) (hi:i<n) (hd:0<d) (ha:0≤a i∧a i<1048576) (ho:o i=(r*1048576+a i) / d):ShI a o n i d ((r*1048576+a i)%d):=by
 obtain ⟨h1,h2,h3⟩:=h
 have h4:=Int.emod_add_mul_ediv (r*1048576+a i) d
 have h5:=Int.emod_nonneg (r*1048576+a i) (b:=d) ZO
 have h6:=Int.emod_lt_of_pos (r*1048576+a i) hd
 have h7:0≤(r*1048576+a i) / d:=Int.ediv_nonneg ZO ZO
 have h8:(r*1048576+a i) / d<1048576:=Int.ediv_lt_of_lt_mul hd (by
  have:(r+1)*1048576≤d*1048576:=Int.mul_le_mul_of_nonneg_right ZO ZO
  rw [Int.mul_comm 1048576 d]
  omega)
 refine ⟨?_,⟨h5,h6⟩,fun j h9 h10=>?_⟩
 ·rw [jgr o hi,jgr a hi,←h1,ho,Int.mul_add,Int.mul_left_comm d 1048576]
  omega
 ·by_cases e:j=i
  ·subst e;rw [ho];exact ⟨h7,h8⟩
  ·exact h3 j ZO h10
theorem ShI.congr {a o o':Nat→Int} {n i:Nat} {d r:Int} (h:ShI a o n i d r) (he:∀j,i≤j→j<n→o' j=o j):ShI a o' n i d r:=by
 refine ⟨?_,h.2.1,fun j h1 h2=>by rw [he j h1 h2];exact h.2.2 j h1 h2⟩
 have:vT o' n i=vT o n i:=jaR _ fun j hj=>he (i+j) ZO ZO
 rw [this];exact h.1
theorem ShI.fin {a o:Nat→Int} {n:Nat} {d r:Int} (h:ShI a o n 0 d r):vF o n=vF a n / d∧r=vF a n%d∧Dg o n:=by
 obtain ⟨h1,h2,h3⟩:=h
 rw [jkw,jkw] at h1
 have h4:=Int.ediv_emod_unique (a:=vF a n) (b:=d) (r:=r) (q:=vF o n) ZO
 obtain ⟨h5,h6⟩:=h4.2 ⟨by omega,h2.1,h2.2⟩
 exact ⟨h5.symm,h6.symm,fun i hi=>h3 i ZO hi⟩
structure Kn (W V q P top u3 v1 v2:Int):Prop where
 hP:0<P
 hu:0≤u3∧u3<1048576
 hv:0≤v2∧v2<1048576
 h1:1≤v1
 ht:0≤top
 hq:0≤q∧q<1048576
 wl:(top*1048576+u3)*P≤W
 wu:W<(top*1048576+u3+1)*P
 vl:(v1*1048576+v2)*P≤V
 vu:V<(v1*1048576+v2+1)*P
 ql:q*V≤W
 qu:W<(q+1)*V
theorem Kn.start {W V q P top u3 v1 v2:Int} (h:Kn W V q P top u3 v1 v2):q≤top / v1:=by
 have h1:=h.h1
 refine (Int.le_ediv_iff_mul_le ZO).2 ?_
 have hP:=h.hP
 have e1:q*((v1*1048576+v2)*P)≤q*V:=Int.mul_le_mul_of_nonneg_left h.vl h.hq.1
 have e2:q*((v1*1048576)*P)≤q*((v1*1048576+v2)*P):=Int.mul_le_mul_of_nonneg_left (Int.mul_le_mul_of_nonneg_right (by have:=h.hv;omega) ZO) h.hq.1
 have e3:(top*1048576+u3+1)*P≤((top+1)*1048576)*P:=Int.mul_le_mul_of_nonneg_right (by have:=h.hu;omega) ZO
 have e4:=h.ql
 have e5:=h.wu
 have e6:q*((v1*1048576)*P)=(q*v1*1048576)*P:=by rw [Int.mul_assoc q v1,Int.mul_assoc q]
 have e7:(q*v1*1048576)*P<((top+1)*1048576)*P:=by omega
 have e8:=Int.lt_of_mul_lt_mul_right e7 ZO
 omega
theorem Kn.dec {W V q P top u3 v1 v2 g r:Int} (h:Kn W V q P top u3 v1 v2) (hg:g*v1+r=top) (hq:q≤g) (hc:1048576≤g∨r*1048576+u3<g*v2):q≤g-1:=by
 have hq2:=h.hq
 rcases hc with hc|hc
 ·omega
 ·have hP:=h.hP
  have e1:top*1048576+u3+1≤g*(v1*1048576+v2):=by
   rw [Int.mul_add,←Int.mul_assoc]
   omega
  have e2:=Int.mul_le_mul_of_nonneg_right e1 (Int.le_of_lt hP)
  have e3:g*((v1*1048576+v2)*P)≤g*V:=Int.mul_le_mul_of_nonneg_left h.vl ZO
  rw [←Int.mul_assoc] at e3
  have e4:=h.wu
  refine Classical.byContradiction fun hn=>?_
  have e5:g=q:=by omega
  subst e5
  have:=h.ql
  omega
theorem Kn.stop {W V q P top u3 v1 v2 g r:Int} (h:Kn W V q P top u3 v1 v2) (hg:g*v1+r=top) (hr:0≤r) (hb:g<1048576) (hc:1048576≤r∨g*v2≤r*1048576+u3) (h1:1≤g):(g-1)*V≤W:=by
 have hP:=h.hP
 have hv1:=h.h1
 have e1:(g-1)*V≤(g-1)*((v1*1048576+v2+1)*P):=Int.mul_le_mul_of_nonneg_left (by have:=h.vu;omega) ZO
 rw [←Int.mul_assoc] at e1
 have e2:(g-1)*(v1*1048576+v2+1)≤top*1048576+u3:=by
  have hu:=h.hu
  have hv:=h.hv
  have f0:(g-1)*(v1*1048576+v2+1)=g*v1*1048576-v1*1048576+(g-1)*(v2+1):=by
   rw [Int.add_assoc (v1*1048576),Int.mul_add,Int.sub_mul,Int.one_mul,Int.mul_assoc]
  rw [f0]
  rcases hc with hc|hc
  ·have f1:(g-1)*(v2+1)≤(g-1)*1048576:=Int.mul_le_mul_of_nonneg_left ZO ZO
   have f2:g*v1*1048576+r*1048576=top*1048576:=by rw [←hg,Int.add_mul]
   omega
  ·have f1:(g-1)*(v2+1)=g*v2-v2+(g-1):=by rw [Int.mul_add,Int.sub_mul,Int.one_mul,Int.mul_one]
   have f2:g*v1*1048576+r*1048576=top*1048576:=by rw [←hg,Int.add_mul]
   omega
 have e3:=Int.mul_le_mul_of_nonneg_right e2 (Int.le_of_lt hP)
 have:=h.wl
 omega
def StI (U V O:Nat→Int) (g:Int) (i:Nat) (c:Int):Prop:=vF O i=vF U i-g*vF V i+pw i*c∧Dg O i∧0≤c∧c≤1048576
theorem StI.zero {U V O:Nat→Int} {g:Int}:StI U V O g 0 0:=⟨by simp [vF,pw],fun i h=>absurd h ZO,by omega,by omega⟩
theorem StI.step {U V O:Nat→Int} {g:Int} {i:Nat} {c:Int} (h:StI U V O g i c) (hg:0≤g∧g<1048576) (ha:0≤U i∧U i<1048576) (hb:0≤V i∧V i<1048576) (ho:O i=(U i-c-g*V i)%1048576):StI U V O g (i+1) (-((U i-c-g*V i) / 1048576)):=by
 obtain ⟨h1,h2,h3,h4⟩:=h
 have h6:=jeC hg hb
 have h7:g*V i≤1048575*1048575:=Int.mul_le_mul ZO ZO hb.1 ZO
 refine ⟨?_,fun j hj=>?_,by omega,by omega⟩
 ·have h5:=jfq (p:=pw i) (c:= -c) (x:=U i-g*V i) (r:=(U i-c-g*V i)%1048576) (q:=(U i-c-g*V i) / 1048576) (by have:=dm (U i-c-g*V i);omega)
  have h8:g*(pw i*V i)=pw i*(g*V i):=Int.mul_left_comm ..
  rw [vF,vF,vF,pw,ho,h1,Int.mul_neg,Int.mul_add,h8]
  rw [Int.mul_neg,Int.mul_sub] at h5
  omega
 ·exact jnA
theorem StI.congr {U V O O':Nat→Int} {g:Int} {i:Nat} {c:Int} (h:StI U V O g i c) (he:∀j,j<i→O' j=O j):StI U V O' g i c :=
 ⟨by rw [jaR i he];exact h.1,fun j hj=>by rw [he j hj];exact h.2.1 j hj,h.2.2⟩
theorem StI.fin {U V O:Nat→Int} {g:Int} {m:Nat} {c:Int} (h:StI U V O g m c) (hU:Dg U m) (hV:0≤vF V m) (hg:0≤g):(c=0↔g*vF V m≤vF U m)∧(c=0→vF O m=vF U m-g*vF V m):=by
 obtain ⟨h1,h2,h3,h4⟩:=h
 have h5:=jcz h2
 have h6:=jaV h2
 have h7:=jaX m
 have h8:=jcz hU
 have h9:=Int.mul_nonneg hg hV
 refine ⟨⟨fun e=>by subst e;omega,fun hle=>?_⟩,fun e=>by subst e;omega⟩
 refine Classical.byContradiction fun hc=>?_
 have:=Int.mul_le_mul_of_nonneg_left (show 1≤c by omega) (Int.le_of_lt h7)
 omega
theorem jpf {O V B:Nat→Int} {m:Nat} {c:Int} (h:AddI O V B m c) {X:Int} (hX:vF O m=X+pw m) (hX2:0≤X+vF V m):vF B m=X+vF V m:=by
 have h1:=jcz h.2.1
 have h2:=jaV h.2.1
 have h3:=h.1
 have h4:=h.2.2
 have h5:=jaX m
 by_cases e:c=0
 ·subst e;omega
 ·have e1:c=1:=by omega
  subst e1
  omega
theorem jfZ:∀n,vF (fun _=>0) n=0
 | 0=>rfl
 | n+1=>by rw [vF,jfZ n];omega
theorem jdR (f:Nat→Int) (a:Nat):∀b,vF f (a+b)=vF f a+pw a*vF (fun j=>f (a+j)) b
 | 0=>by simp [vF]
 | b+1=>by
  rw [←Nat.add_assoc,vF,jdR f a b,vF,jd7,Int.mul_add,Int.mul_assoc]
  omega
theorem top2 {v:Nat→Int} {p:Nat} (h:Dg v (p+2)):(v (p+1)*1048576+v p)*pw p≤vF v (p+2)∧vF v (p+2)<(v (p+1)*1048576+v p+1)*pw p:=by
 have h1:=jcz (n:=p) (fun i hi=>h i ZO)
 have h2:=jaV (n:=p) (fun i hi=>h i ZO)
 have e:vF v (p+2)=vF v p+(v (p+1)*1048576+v p)*pw p:=by
  rw [vF,vF,pw,Int.add_mul,Int.mul_comm (v p),Int.mul_right_comm (v (p+1)),Int.mul_comm (v (p+1)*pw p),Int.mul_comm (v (p+1)),Int.mul_assoc]
  omega
 rw [Int.add_mul _ 1,Int.one_mul,e]
 omega
theorem top3 {v:Nat→Int} {p:Nat} (h:Dg v (p+3)):((v (p+2)*1048576+v (p+1))*1048576+v p)*pw p≤vF v (p+3)∧vF v (p+3)<((v (p+2)*1048576+v (p+1))*1048576+v p+1)*pw p:=by
 have h1:=jcz (n:=p) (fun i hi=>h i ZO)
 have h2:=jaV (n:=p) (fun i hi=>h i ZO)
 have e:vF v (p+3)=vF v p+((v (p+2)*1048576+v (p+1))*1048576+v p)*pw p:=by
  have e1:pw (p+2)*v (p+2)=(v (p+2)*1048576*1048576)*pw p:=by
   rw [pw,pw,Int.mul_comm _ (v (p+2)),Int.mul_assoc (v (p+2)),Int.mul_assoc (v (p+2)),Int.mul_assoc 1048576]
  have e2:pw (p+1)*v (p+1)=(v (p+1)*1048576)*pw p:=by
   rw [pw,Int.mul_comm _ (v (p+1)),Int.mul_assoc (v (p+1))]
  rw [vF,vF,vF,e1,e2,Int.mul_comm (pw p),Int.add_mul,Int.add_mul _ _ 1048576,Int.add_mul]
  omega
 rw [Int.add_mul _ 1,Int.one_mul,e]
 omega
structure DivI (X Y:Int) (n:Nat) (f:Nat→Int) (N:Nat) (q:Nat→Int) (M k:Nat):Prop where
 tot:vF f N+Y*(pw k*vT q M k)=X
 dg:Dg f N
 zero:∀j,k+n≤j→j<N→f j=0
 less:vF (fun j=>f (k+j)) n<Y
 qd:∀j,k≤j→j<M→0≤q j∧q j<1048576
section
variable {X Y:Int} {n N M:Nat} {f f' q q':Nat→Int}
theorem DivI.start (hN:N=M+n) (hn:1≤n) (hf:Dg f N) (hX:vF f N=X) (h0:f (N-1)=0) (hY:pw (n-1)≤Y):DivI X Y n f N q M M where
 tot:=by rw [jkx,Int.mul_zero,Int.mul_zero,Int.add_zero];exact hX
 dg:=hf
 zero:=fun j h1 h2=>by omega
 less:=by
  obtain ⟨p,rfl⟩:∃p,n=p+1:=⟨n-1,by omega⟩
  rw [vF,show M+p=N-1 by omega,h0,Int.mul_zero,Int.add_zero]
  have:=jcz (f:=fun j=>f (M+j)) (n:=p) (fun j hj=>hf (M+j) ZO)
  rw [Nat.add_sub_cancel] at hY
  omega
 qd:=fun j h1 h2=>by omega
def winV (f:Nat→Int) (i n:Nat):Int:=vF (fun j=>f (i+j)) (n+1)
theorem DivI.win {i:Nat} (h:DivI X Y n f N q M (i+1)) (hN:N=M+n) (hi:i<M):0≤winV f i n∧winV f i n<1048576*Y:=by
 have h1:winV f i n=f i+1048576*vF (fun j=>f (i+1+j)) n:=by
  unfold winV
  rw [jdQ]
  congr 2
  exact jaR n fun j _=>by rw [show i+(j+1)=i+1+j by omega]
 have h2:=h.dg i ZO
 have h3:=h.less
 have h4:=jaV (f:=fun j=>f (i+1+j)) (n:=n) (fun j hj=>h.dg (i+1+j) ZO)
 rw [h1]
 omega
theorem DivI.step {i:Nat} {x:Int} (h:DivI X Y n f N q M (i+1)) (hN:N=M+n) (hi:i<M) (hY:0<Y) (hYn:Y<pw n) (hx:x=winV f i n / Y) (hw:vF (fun j=>f' (i+j)) (n+1)=winV f i n-x*Y) (hd:Dg (fun j=>f' (i+j)) (n+1))
 (ho:∀p,p<i∨i+(n+1)≤p→f' p=f p) (hq:q' i=x) (hqo:∀j,i+1≤j→q' j=q j):DivI X Y n f' N q' M i:=by
 obtain ⟨w0,w1⟩:=h.win hN hi
 have hx0:0≤x:=by rw [hx];exact Int.ediv_nonneg w0 ZO
 have hx1:x<1048576:=by rw [hx];exact Int.ediv_lt_of_lt_mul hY w1
 have hr0:0≤winV f i n-x*Y∧winV f i n-x*Y<Y:=by
  have e:=Int.emod_add_mul_ediv (winV f i n) Y
  have e1:=Int.emod_nonneg (winV f i n) (b:=Y) ZO
  have e2:=Int.emod_lt_of_pos (winV f i n) hY
  rw [hx,Int.mul_comm]
  omega
 have hdg:Dg f' N:=fun j hj=>by
  by_cases e:j<i∨i+(n+1)≤j
  ·rw [ho j e];exact h.dg j hj
  ·have:=hd (j-i) ZO
   simp only [show i+(j-i)=j by omega] at this
   exact this
 have htop:f' (i+n)=0:=by
  have h1:vF (fun j=>f' (i+j)) (n+1)=vF (fun j=>f' (i+j)) n+pw n*f' (i+n):=rfl
  have h2:=jaV (f:=fun j=>f' (i+j)) (n:=n) (fun j hj=>hd j ZO)
  have h3:=(hd n ZO).1
  simp only at h3
  refine Classical.byContradiction fun hne=>?_
  have h4:=Int.mul_le_mul_of_nonneg_left (show 1≤f' (i+n) by omega) (Int.le_of_lt (jaX n))
  omega
 refine ⟨?_,hdg,fun j h1 h2=>?_,?_,fun j h1 h2=>?_⟩
 ·have e0:N=i+((n+1)+(M-i-1)):=by omega
  have s1:∀g:Nat→Int,vF g N=vF g i+pw i*(vF (fun j=>g (i+j)) (n+1)+pw (n+1)*vF (fun j=>g (i+(n+1+j))) (M-i-1)):=fun g=>by
   rw [e0,jdR g i,jdR (fun j=>g (i+j)) (n+1)]
  have s2:=s1 f
  have s3:=s1 f'
  rw [jaR (g:=f) i (fun j hj=>ho j ZO),hw,jaR (f:=fun j=>f' (i+(n+1+j))) (g:=fun j=>f (i+(n+1+j))) _ (fun j hj=>ho _ ZO)] at s3
  have s4:vF f' N=vF f N-pw i*(x*Y):=by
   rw [s3,s2]
   unfold winV
   rw [show ∀a b c:Int,a-b+c=(a+c)-b from fun a b c=>by omega,Int.mul_sub]
   omega
  have s5:vT q' M i=x+1048576*vT q M (i+1):=by
   rw [jgr q' hi,hq]
   congr 2
   exact jaR _ fun j hj=>hqo _ ZO
  have s6:=h.tot
  rw [pw] at s6
  rw [s4,s5,Int.mul_add (pw i),Int.mul_add Y]
  have s7:Y*(pw i*x)=pw i*(x*Y):=by rw [Int.mul_comm x Y,←Int.mul_assoc,←Int.mul_assoc,Int.mul_comm Y]
  have s8:Y*(pw i*(1048576*vT q M (i+1)))=Y*(1048576*pw i*vT q M (i+1)):=by rw [←Int.mul_assoc (pw i),Int.mul_comm (pw i) 1048576]
  rw [s7,s8]
  omega
 ·by_cases e:j=i+n
  ·subst e;exact htop
  ·rw [ho j ZO]
   exact h.zero j ZO h2
 ·have h1:vF (fun j=>f' (i+j)) (n+1)=vF (fun j=>f' (i+j)) n+pw n*f' (i+n):=rfl
  rw [htop,Int.mul_zero,Int.add_zero] at h1
  omega
 ·by_cases e:j=i
  ·subst e;rw [hq];exact ⟨hx0,hx1⟩
  ·rw [hqo j ZO];exact h.qd j ZO h2
theorem DivI.fin (h:DivI X Y n f N q M 0) (hN:N=M+n) (hY:0<Y):vF q M=X / Y∧vF f N=X%Y∧Dg q M:=by
 have h1:=h.tot
 rw [pw,Int.one_mul,jkw] at h1
 have h2:vF f N=vF f n:=by
  rw [hN,Nat.add_comm,jdR]
  have:vF (fun j=>f (n+j)) M=0:=by
   rw [jaR (g:=fun _=>0) M (fun j hj=>h.zero _ ZO ZO)]
   exact jfZ M
  rw [this,Int.mul_zero,Int.add_zero]
 have h3:=h.less
 have h4:vF (fun j=>f (0+j)) n=vF f n:=jaR n fun j _=>by rw [Nat.zero_add]
 rw [h4] at h3
 have h5:=jaV h.dg
 have h6:=Int.ediv_emod_unique (a:=X) (b:=Y) (r:=vF f N) (q:=vF q M) hY
 obtain ⟨h7,h8⟩:=h6.2 ⟨by omega,h5,by omega⟩
 exact ⟨h7.symm,h8.symm,fun j hj=>h.qd j (Nat.zero_le _) hj⟩
end
theorem jf8 {z:Int} {k:Nat} (h1:pw (k-1)≤z) (h2:z<pw k) (hk:1≤k):(digs z.toNat).length=k:=by
 have hz:=jaX (k-1)
 have e:((z.toNat:Nat):Int)=z:=by omega
 have h3:(digs z.toNat).length≤k:=jbs.2 (by rw [e];exact h2)
 refine Classical.byContradiction fun hne=>?_
 have h4:(digs z.toNat).length≤k-1:=by omega
 have:=jbs.1 h4
 omega
theorem jmT {b:List Int} {n:Nat} {e:Nat} {sh:Int} (cb:Cn b) (hl:b.length=n) (hn:1≤n) (hs:sh=2 ^ e) (he:e≤20) (ht:gi b (n-1)*sh<1048576):pw (n-1)≤val b*sh∧val b*sh<pw n:=by
 obtain ⟨p,rfl⟩:∃p,n=p+1:=⟨n-1,by omega⟩
 rw [Nat.add_sub_cancel] at ht ⊢
 have hsp:1≤sh:=by
  rw [hs]
  have:(0:Int)<2 ^ e:=Int.pow_pos Zb4
  omega
 have hne:b≠[]:=fun h=>by rw [h] at hl;simp at hl
 have h1:=cb.ge hne
 rw [hl,Nat.add_sub_cancel] at h1
 have hd:=cb.1.at hl
 have hv:val b=vF (gi b) p+pw p*gi b p:=ja0 hl
 have hlow:=jcz (f:=gi b) (n:=p) (fun i hi=>hd i ZO)
 have hlow0:=jaV (f:=gi b) (n:=p) (fun i hi=>hd i ZO)
 have hpp:=jaX p
 constructor
 ·have:=Int.mul_le_mul_of_nonneg_left hsp (show 0≤val b by omega)
  omega
 ·have hdiv:sh*2 ^ (20-e)=1048576:=by
   rw [hs,←Int.pow_add,show e+(20-e)=20 by omega]
   rfl
  have h2:(gi b p+1)*sh≤1048576:=by
   have h3:gi b p<2 ^ (20-e):=by
    refine Int.lt_of_mul_lt_mul_right (a:=sh) ?_ ZO
    rw [Int.mul_comm (2 ^ (20-e)) sh,hdiv]
    exact ht
   have h4:=Int.mul_le_mul_of_nonneg_right (show gi b p+1≤2 ^ (20-e) by omega) (show 0≤sh by omega)
   rw [Int.mul_comm (2 ^ (20-e)) sh,hdiv] at h4
   exact h4
  have h5:val b+1≤pw p*(gi b p+1):=by rw [Int.mul_add,Int.mul_one];omega
  have h6:=Int.mul_le_mul_of_nonneg_right h5 (show 0≤sh by omega)
  have h7:=Int.mul_le_mul_of_nonneg_left h2 (show 0≤pw p by omega)
  rw [←Int.mul_assoc] at h7
  rw [Int.add_mul,Int.one_mul] at h6
  rw [pw,Int.mul_comm 1048576]
  omega
theorem jkj {a b s:Int} (hs:0<s):(a*s) / (b*s)=a / b:=Int.mul_ediv_mul_of_pos_left a b hs
theorem jkk {a b s:Int} (hs:0<s):(a*s)%(b*s)=(a%b)*s:=by rw [Int.mul_comm a,Int.mul_comm b,Int.mul_emod_mul_of_pos _ _ hs,Int.mul_comm]
theorem jbL (n:Int):bits .and .i64 n 1048575=n%1048576:=by
 have h127:(BitVec.ofInt 64 1048575).toNat=2 ^ 20-1:=by decide
 have key:(BitVec.ofInt 64 n &&& BitVec.ofInt 64 1048575).toNat=(n%((2 ^ 64:Nat):Int)).toNat%2 ^ 20:=by
  exact jnz
 show IntKind.i64.wrap ((BitVec.ofInt 64 n &&& BitVec.ofInt 64 1048575).toNat:Nat)=n%1048576
 rw [key,IntKind.wrap_i64]
 omega
theorem jhQ (n:Int):bits .and .i64 n 1=n%2:=by
 have h127:(BitVec.ofInt 64 1).toNat=2 ^ 1-1:=by decide
 have key:(BitVec.ofInt 64 n &&& BitVec.ofInt 64 1).toNat=(n%((2 ^ 64:Nat):Int)).toNat%2 ^ 1:=by
  exact jnz
 show IntKind.i64.wrap ((BitVec.ofInt 64 n &&& BitVec.ofInt 64 1).toNat:Nat)=n%2
 rw [key,IntKind.wrap_i64]
 omega
theorem jkA (n:Int) (h₀:0≤n) (h₁:n<2 ^ 63):IntKind.i64.wrap n=n:=by rw [IntKind.wrap_i64];omega
theorem jgj (r a:Int) (h1:0≤r) (h2:r<1099511627776) (h3:0≤a) (h4:a<1048576):bits .or .i64 (r*1048576) a=r*1048576+a :=
 bits_join .i64 63 Zb4 jkA 20 (r*1048576) a ZO ZO ZO h3 ZO ZO
theorem jdB {l:List Int} {k:Nat} (hz:∀j,k≤j→j<l.length→gi l j=0) (hk:k≤l.length):jbK l=jbK (l.take k):=by
 induction hn:l.length-k generalizing k with
 | zero=>rw [List.take_of_length_le ZO]
 | succ n ih =>
  have h1:=ih (k:=k+1) (fun j h1 h2=>hz j ZO h2) ZO ZO
  have h2:l.take (k+1)=l.take k++[0]:=by
   rw [List.take_succ_eq_append_getElem ZO]
   congr 2
   have:=hz k (Nat.le_refl _) ZO
   rw [jaS (List.getElem?_eq_getElem ZO)] at this
   exact this
  rw [h1,h2,jcy]
theorem jhJ {l:List Int} {k:Nat} (hk:k≤l.length) (h:0<k→gi l (k-1)≠0):jbK (l.take k)=l.take k:=by
 by_cases h0:k=0
 ·subst h0;rfl
 ·have h2:l.take k=l.take (k-1)++[gi l (k-1)]:=by
   have e:k=(k-1)+1:=by omega
   have h3:=List.take_succ_eq_append_getElem (l:=l) (i:=k-1) ZO
   rw [←e] at h3
   rw [h3]
   congr 2
   exact (jaS (List.getElem?_eq_getElem ZO)).symm
  rw [h2,jeK (h ZO)]
theorem jdP (A:Option Addr) (n cap:Nat) (l:List Int) (w:World) (hl:RdI w w.heap.size A n cap l) :
 Calls Tryz.prog 128 #[.slice A n cap] w fun e w'=>(∃k,k≤n∧e=.returned (.slice A k cap)∧jbK l=l.take k)∧w=w':=by
 have hln:=hl.len
 have hcap:=hl.caps
 go_enter Tryz.func128,Tryz.ntmps128
 go_wp2
 go_loopg [3] n (fun gk a wr=>∃k:Nat,k≤n∧k=gk∧a=.int .i64 k∧(∀j,k≤j→j<n→gi l j=0)∧w=wr)
 case atStart=>exact ⟨n,Nat.le_refl _,rfl,rfl,(fun j h1 h2=>absurd h2 ZO),rfl⟩
 case round =>
  obtain ⟨k,hk,rfl,rfl,hz,rfl⟩:=hrel
  have Hz:=jpk hz
  clear hz
  rcases Nat.eq_zero_or_pos k with hk0|hk0
  ·subst hk0
   have hd:decide ((0:Int)<((0:Nat):Int))=false:=by simp
   have Hfin:=jpk (show jbK l=l.take 0 from by
    rw [jdB (k:=0) (fun j h1 h2=>Hz.out j h1 ZO) ZO];rfl)
   go_wp2
   go_ret
   exact ⟨⟨0,by omega,rfl,Hfin.out⟩,rfl⟩
  ·obtain ⟨m,rfl⟩:∃m,k=m+1:=⟨k-1,by omega⟩
   obtain ⟨b,off,x,rfl,hb,hx,c0⟩:=hl.atI (k:=m) ZO
   have Hx:=jpk (jaS hx)
   have h1:(m:Int)<(n:Int):=by omega
   have h2:(0:Int)≤(m:Int):=by omega
   have h3:(0:Int)<(m:Int)+1:=by omega
   have h4:((m:Int)+1)≤(cap:Int):=by omega
   clear hx
   by_cases hx0:x=0
   ·exact ZQ62
   ·have hd:(x==0)=false:=by simp [hx0]
    have Hfin:=jpk (show jbK l=l.take (m+1) from by
     exact ZQ110)
    clear hx0
    go_wp2
    go_ret
    exact ⟨⟨m+1,by omega,rfl,Hfin.out⟩,rfl⟩
def jae (s:Int) (l:List Int):Bool:=l.all (inB 0 1048575)&&(if l.length=0 then decide (s=0) else ((decide (s=1)||decide (s= -1))&&(decide (l.length≤60)&&decide (gi l (l.length-1)≠0))))
theorem jff (x y:Int) (w:World):Calls Tryz.prog 99 #[.int .i64 x,.int .i64 y] w fun e w'=>e=.returned (.int .i64 (cmpI x y))∧w=w':=by
 have hnan:∀z,Calls Tryz.prog 131 #[.int .i64 z] w fun e w'=>e=.returned (.bool false)∧w=w':=fun z=>by
  have hz:(z !=z)=false:=by simp
  go_enter Tryz.func131,Tryz.ntmps131
  go_wp2
  go_ret
  exact ⟨rfl,rfl⟩
 have Hn:=jpk hnan
 clear hnan
 have hc:(decide (x<y)=true∧cmpI x y= -1)∨(decide (x<y)=false∧decide (y<x)=true∧cmpI x y=1)∨(decide (x<y)=false∧decide (y<x)=false∧cmpI x y=0):=by
  unfold cmpI
  by_cases h1:x<y
  ·exact Or.inl ⟨by simpa using h1,if_pos h1⟩
  ·by_cases h2:y<x
   ·exact Or.inr (Or.inl ⟨by simpa using h1,by simpa using h2,by rw [if_neg h1,if_pos h2]⟩)
   ·exact Or.inr (Or.inr ⟨by simpa using h1,by simpa using h2,by rw [if_neg h1,if_neg h2]⟩)
 rcases hc with ⟨h1,h2⟩|⟨h1,h2,h3⟩|⟨h1,h2,h3⟩
 all_goals
  first|rw [h3]|rw [h2]
  first|clear h3|clear h2
  go_enter Tryz.func99,Tryz.ntmps99
  go_wp2_with fail
  refine (Hn.out _).mono ?_
  rintro e _ ⟨rfl,rfl⟩
  go_wp2_with fail
  refine (Hn.out _).mono ?_
  rintro e _ ⟨rfl,rfl⟩
  go_wp2
  go_ret
  exact ⟨rfl,rfl⟩
theorem jjH {lo hi x:Int}:inB lo hi x=true↔lo≤x∧x≤hi:=by
 unfold inB;rw [Bool.and_eq_true,decide_eq_true_eq,decide_eq_true_eq]
theorem jm1 {l:List Int}:l.all (inB 0 1048575)=true↔DgOk l:=by
 rw [List.all_eq_true]
 refine ⟨fun h d hd=>?_,fun h d hd=>?_⟩
 ·have:=jjH.1 (h d hd);omega
 ·have:=h d hd;exact jjH.2 ZO
theorem jeE {s:Int} {l:List Int}:jae s l=true↔DgOk l∧((l=[]∧s=0)∨(l≠[]∧(s=1∨s= -1)∧l.length≤60∧gi l (l.length-1)≠0)):=by
 unfold jae
 rw [Bool.and_eq_true,jm1]
 refine and_congr_right fun _=>?_
 by_cases h:l.length=0
 ·have e:l=[]:=List.eq_nil_of_length_eq_zero h
  subst e
  simp
 ·have hne:l≠[]:=fun e=>by subst e;exact h rfl
  rw [if_neg h]
  simp [hne]
theorem jfa {l:List Int} (h:l≠[]):l.getLast?=some (gi l (l.length-1)):=by
 have h1:0<l.length:=List.length_pos_iff.2 h
 rw [List.getLast?_eq_getElem?]
 have h2:=List.getElem?_eq_getElem (show l.length-1<l.length by omega)
 rw [h2,jaS h2]
def bval (s:Int) (l:List Int):Int:=s*val l
theorem jah {s:Int} {l:List Int} (h:jae s l=true):Cn l∧l.length≤60∧((l=[]∧s=0)∨(l≠[]∧(s=1∨s= -1))):=by
 obtain ⟨h1,h2⟩:=jeE.1 h
 rcases h2 with ⟨rfl,rfl⟩|⟨h3,h4,h5,h6⟩
 ·exact ⟨Cn.nil,by simp,Or.inl ⟨rfl,rfl⟩⟩
 ·refine ⟨⟨h1,fun d hd=>?_⟩,h5,Or.inr ⟨h3,h4⟩⟩
  rw [jfa h3] at hd
  exact (Option.some.inj hd) ▸ h6
def sgI (x:Int):Int:=if x<0 then -1 else if x=0 then 0 else 1
theorem jke {s:Int} {l:List Int} (h1:Cn l) (h2:l.length≤60) (h3:(l=[]∧s=0)∨(l≠[]∧(s=1∨s= -1))):jae s l=true:=by
 refine jeE.2 ⟨h1.1,?_⟩
 rcases h3 with h|⟨h3,h4⟩
 ·exact Or.inl h
 ·exact Or.inr ⟨h3,h4,h2,h1.2 _ (jfa h3)⟩
theorem jeF {s:Int} {l:List Int} (h:jae s l=true):s=sgI (bval s l)∧l=digs (bval s l).natAbs:=by
 obtain ⟨h1,h2,h3⟩:=jah h
 unfold bval sgI
 rcases h3 with ⟨rfl,rfl⟩|⟨h3,h4⟩
 ·simp [jax]
 ·have h5:=h1.pos h3
  rcases h4 with rfl|rfl
  ·rw [Int.one_mul,if_neg ZO,if_neg ZO]
   exact ⟨rfl,je1 h1 ZO⟩
  ·rw [show -1*val l= -val l by omega,if_pos ZO]
   exact ⟨rfl,je1 h1 ZO⟩
theorem jkd {z:Int} (hlt:(z.natAbs:Int)<pw 60):jae (sgI z) (digs z.natAbs)=true∧bval (sgI z) (digs z.natAbs)=z:=by
 refine ⟨jke (jat _) (jbs.2 hlt) ?_,?_⟩
 ·unfold sgI
  by_cases h1:z<0
  ·exact Or.inr ⟨fun e=>by have:=jcD.1 e;omega,by rw [if_pos h1];exact Or.inr rfl⟩
  ·by_cases h2:z=0
   ·subst h2;exact Or.inl ⟨jax,by simp⟩
   ·exact Or.inr ⟨fun e=>by have:=jcD.1 e;omega,by rw [if_neg h1,if_neg h2];exact Or.inl rfl⟩
 ·unfold bval sgI
  rw [jau]
  by_cases h1:z<0
  ·rw [if_pos h1];omega
  ·by_cases h2:z=0
   ·subst h2;simp
   ·rw [if_neg h1,if_neg h2];omega
theorem jaE (s:Int) (A:Option Addr) (n cap:Nat) (l:List Int) (w:World) (hl:RdI w w.heap.size A n cap l) :
 Calls Tryz.prog 88 #[.agg #[.int .i64 s,.slice A n cap]] w fun e w'=>e=.returned (.bool (jae s l))∧Below w.heap.size w w':=by
 have hln:=hl.len
 have hcap:=hl.caps
 have hb0:=(Below.refl w.heap.size w).alloc (Nat.le_refl _) (.cells #[.int .i64 s,.slice A n cap] 27)
 have c0:(w.alloc (.cells #[.int .i64 s,.slice A n cap] 27)).cell? ⟨w.heap.size,0,none⟩=some (.int .i64 s):=jaY rfl rfl
 have c1:(w.alloc (.cells #[.int .i64 s,.slice A n cap] 27)).cell? ⟨w.heap.size,1,none⟩=some (.slice A n cap):=jaY rfl rfl
 have hl0:=hl.up (jab _) hb0
 have HF:=jpk (show (∃i,i<n∧(gi l i<0∨1048575<gi l i))→jae s l=false from fun ⟨i,hi,h⟩=>by
  cases hr:jae s l
  ·rfl
  ·have:=(jah hr).1.1.at hln i hi
   omega)
 have HT:=jpk (show (∀i,i<n→0≤gi l i∧gi l i≤1048575)→jae s l=(if n=0 then decide (s=0) else ((decide (s=1)||decide (s= -1))&&(decide (n≤60)&&decide (gi l (n-1)≠0)))) from fun h=>by
  exact ZQ78)
 generalize jae s l=RB at *
 go_enter Tryz.func88,Tryz.ntmps88
 go_wp2_with fail
 generalize w.alloc (.cells #[.int .i64 s,.slice A n cap] 27)=w0 at *
 obtain ⟨g,hg⟩:∃g,g=w.heap.size:=⟨_,rfl⟩
 have HB0:=jpk hb0
 rw [←hg] at c0 c1 ⊢
 clear hg hb0
 go_loopg [12] n (fun gk i wr=>∃k:Nat,k≤n∧gk=n-k∧i=.int .i64 k∧(∀j,j<k→0≤gi l j∧gi l j≤1048575)∧w0=wr)
 case atStart=>exact ⟨0,Nat.zero_le _,rfl,rfl,(fun j hj=>absurd hj ZO),rfl⟩
 case round =>
  obtain ⟨k,hk,rfl,rfl,hall,rfl⟩:=hrel
  have Hall:=jpk hall
  clear hall
  by_cases hlt:k<n
  ·obtain ⟨b,off,x,rfl,hb,hx,d0⟩:=hl0.atI hlt
   have Hx:=jpk (jaS hx)
   have hki:(k:Int)<(n:Int):=by omega
   have hk0:(0:Int)≤(k:Int):=by omega
   clear hx
   by_cases h1:x<0
   ·exact ZQ98
   ·have hd:decide (x<0)=false:=by simpa using h1
    by_cases h2:1048575<x
    ·have hd2:decide (1048575<x)=true:=by simpa using h2
     exact ZQ121
    ·have hd2:decide (1048575<x)=false:=by simpa using h2
     have Hn:=jpk (show ∀j,j<k+1→0≤gi l j∧gi l j≤1048575 from fun j hj=>by
      by_cases e:j=k
      ·subst e;rw [Hx.out];omega
      ·exact Hall.out j ZO)
     clear h1 h2
     exact ZQ84
  ·have ee:k=n:=by omega
   subst ee
   have hRB:=HT.out Hall.out
   by_cases hk0:k=0
   ·rw [if_pos hk0] at hRB
    have hd:((k:Int)==0)=true:=by simp [hk0]
    by_cases hs:s=0
    ·have hd2:(s==0)=true:=by simp [hs]
     rw [decide_eq_true hs] at hRB
     have HR:=jpk hRB
     clear hRB hs hk0
     exact ZQ74
    ·have hd2:(s==0)=false:=by simp [hs]
     rw [decide_eq_false hs] at hRB
     have HR:=jpk hRB
     clear hRB hs hk0
     exact ZQ74
   ·rw [if_neg hk0] at hRB
    have hd:((k:Int)==0)=false:=by simp [hk0]
    obtain ⟨m,rfl⟩:∃m,k=m+1:=⟨k-1,by omega⟩
    obtain ⟨b,off,x,rfl,hb,hx,d0⟩:=hl0.atI (k:=m) ZO
    rw [Nat.add_sub_cancel,jaS hx] at hRB
    have hm0:(0:Int)≤(m:Int):=by omega
    have hm1:(m:Int)<(m:Int)+1:=by omega
    clear hx hk0
    have hsc:((s==1)=true∧(decide (s=1)||decide (s= -1))=true)∨((s==1)=false∧(s== -1)=true∧(decide (s=1)||decide (s= -1))=true)∨((s==1)=false∧(s== -1)=false∧(decide (s=1)||decide (s= -1))=false):=by
     by_cases h1:s=1
     ·exact Or.inl ⟨by simp [h1],by simp [h1]⟩
     ·by_cases h2:s= -1
      ·exact Or.inr (Or.inl ⟨by simp [h2],by simp [h2],by simp [h2]⟩)
      ·exact Or.inr (Or.inr ⟨by simp [h1],by simp [h2],by simp [h1,h2]⟩)
    rcases hsc with ⟨s1,s3⟩|⟨s1,s2,s3⟩|⟨s1,s2,s3⟩
    case inr.inr =>
     rw [s3,Bool.false_and] at hRB
     have HR:=jpk hRB
     clear hRB s3
     exact ZQ74
    all_goals
     rw [s3,Bool.true_and] at hRB
     by_cases h60:m+1≤60
     ·have hd6:decide ((m:Int)+1≤60)=true:=by simp;omega
      rw [decide_eq_true h60,Bool.true_and] at hRB
      by_cases hx0:x=0
      ·have hd7:(x !=0)=false:=by simp [hx0]
       rw [decide_eq_false (by simpa using hx0)] at hRB
       have HR:=jpk hRB
       clear hRB s3 hx0 h60
       exact ZQ74
      ·have hd7:(x !=0)=true:=by simp [hx0]
       rw [decide_eq_true hx0] at hRB
       have HR:=jpk hRB
       clear hRB s3 hx0 h60
       exact ZQ74
     ·have hd6:decide ((m:Int)+1≤60)=false:=by simp;omega
      rw [decide_eq_false h60,Bool.false_and] at hRB
      have HR:=jpk hRB
      clear hRB s3 h60
      exact ZQ74
theorem ja9 {x y:Int} (h:x<y):cmpI x y= -1:=if_pos h
theorem jbm {x y:Int} (h:y<x):cmpI x y=1:=by unfold cmpI;rw [if_neg ZO,if_pos h]
theorem jf5 (x:Int):cmpI x x=0:=by unfold cmpI;rw [if_neg ZO,if_neg ZO]
theorem cmp_at {a b:List Int} {n m:Nat} (ha:DgOk a) (hb:DgOk b) (la:a.length=n) (lb:b.length=n) (hm:m<n) (he:∀j,m<j→j<n→gi a j=gi b j) (hne:gi a m≠gi b m):cmpI (val a) (val b)=cmpI (gi a m) (gi b m):=by
 rw [ja0 la,ja0 lb]
 have h1:=ha.at la
 have h2:=hb.at lb
 rcases Int.lt_or_gt_of_ne hne with h|h
 ·rw [ja9 h,ja9 (jef n hm h1 h2 h he)]
 ·rw [jbm h,jbm (jef n hm h2 h1 h (fun j h3 h4=>(he j h3 h4).symm))]
theorem jfu (A A2:Option Addr) (n cap n2 cap2:Nat) (a b:List Int) (w:World) (ha:RdI w w.heap.size A n cap a) (hb:RdI w w.heap.size A2 n2 cap2 b) (ca:Cn a) (cb:Cn b) :
 Calls Tryz.prog 100 #[.slice A n cap,.slice A2 n2 cap2] w fun e w'=>e=.returned (.int .i64 (cmpI (val a) (val b)))∧∃q,w'=w.drewN q:=by
 have hla:=ha.len
 have hlb:=hb.len
 have hcap:=ha.caps
 have hcap2:=hb.caps
 by_cases hnn:n=n2
 case neg =>
  have hd:((n:Int) !=(n2:Int))=true:=by simp;omega
  have hc:cmpI (val a) (val b)=cmpI (n:Int) (n2:Int):=by
   by_cases h:n<n2
   ·rw [ja9 (show (n:Int)<n2 by omega),ja9 (jc6 ca.1 cb ZO)]
   ·rw [jbm (show (n2:Int)<n by omega),jbm (jc6 cb.1 ca ZO)]
  rw [hc]
  clear hc hnn hla hlb
  go_enter Tryz.func100,Tryz.ntmps100
  go_wp2_with fail
  refine (jff _ _ _).mono ?_
  rintro e _ ⟨rfl,rfl⟩
  go_wp2
  go_ret
  exact ⟨rfl,jjb w⟩
 subst hnn
 have hd:((n:Int) !=(n:Int))=false:=by simp
 have Hat:=jpk (fun m (hm:m<n) (he:∀j,m<j→j<n→gi a j=gi b j) hne=>cmp_at ca.1 cb.1 hla hlb hm he hne)
 have Heq:=jpk (show (∀j,j<n→gi a j=gi b j)→cmpI (val a) (val b)=0 from fun h=>by
  rw [ja0 hla,ja0 hlb,jaR n h,jf5])
 generalize cmpI (val a) (val b)=C at *
 have hwn:IntKind.i64.wrap ((n:Int)-1)=(n:Int)-1:=IntWalk.i64_in _ ZO
 clear hla hlb
 go_enter Tryz.func100,Tryz.ntmps100
 go_wp2
 go_loopg [5] n (fun gk i wr=>∃k:Nat,k≤n∧k=gk∧i=.int .i64 ((k:Int)-1)∧(∀j,k≤j→j<n→gi a j=gi b j)∧∃q,wr=w.drewN q)
 case atStart=>exact ⟨n,Nat.le_refl _,rfl,rfl,(fun j h1 h2=>absurd h2 ZO),jjb w⟩
 case round =>
  obtain ⟨k,hk,rfl,rfl,he,hq⟩:=hrel
  have He:=jpk he;have Hq:=jpk hq
  clear he hq
  rcases Nat.eq_zero_or_pos k with hk0|hk0
  ·subst hk0
   have Hf:=jpk (Heq.out fun j hj=>He.out j ZO hj)
   go_wp2
   go_ret
   exact ⟨by rw [Hf.out];rfl,Hq.out⟩
  ·obtain ⟨m,rfl⟩:∃m,k=m+1:=⟨k-1,by omega⟩
   obtain ⟨b1,o1,x,rfl,hb1,hx,c0⟩:=ha.atI (k:=m) ZO
   obtain ⟨b2,o2,y,rfl,hb2,hy,d0⟩:=hb.atI (k:=m) ZO
   have Hx:=jpk (jaS hx);have Hy:=jpk (jaS hy)
   have c0':=(jcZ Hq.out ⟨b1,o1+m,none⟩).trans c0
   have d0':=(jcZ Hq.out ⟨b2,o2+m,none⟩).trans d0
   have h1:(m:Int)<(n:Int):=by omega
   have h2:(0:Int)≤(m:Int):=by omega
   clear hx hy
   by_cases hxy:x=y
   ·have hdd:(x !=y)=false:=by simp [hxy]
    have Hn:=jpk (show ∀j,m≤j→j<n→gi a j=gi b j from fun j h1 h2=>by
     by_cases e:j=m
     ·subst e;rw [Hx.out,Hy.out];exact hxy
     ·exact He.out j ZO h2)
    clear hxy
    go_wp2_with fail
    go_quiet (fail)
    go_wp2
    go_roundg m
    case rel=>exact ⟨m,by omega,rfl,by go_num,Hn.out,je3 Hq.out _⟩
    case measure=>omega
   ·have hdd:(x !=y)=true:=by simp [hxy]
    have Hf:=jpk (Hat.out m ZO (fun j h1 h2=>He.out j ZO h2) (by rw [Hx.out,Hy.out];exact hxy))
    clear hxy
    go_wp2_with fail
    go_quiet (fail)
    rename_i nq
    have hq2:=je3 Hq.out nq
    have c1':=(jcZ hq2 ⟨b1,o1+m,none⟩).trans c0
    have d1':=(jcZ hq2 ⟨b2,o2+m,none⟩).trans d0
    have Hq2:=jpk hq2
    clear hq2 c0 d0 c0' d0' Hq
    generalize wr.drewN nq=w5 at *
    have Hcmp:=jpk (fun q=>(jff x y (w5.drewN q)).mono fun e w'' ⟨h1,h2⟩=>(⟨h1,q,h2.symm⟩:e=Ending.returned (.int .i64 (cmpI x y))∧∃s,w''=w5.drewN s))
    have Hxy:=jpk (show cmpI x y=C by rw [Hf.out,Hx.out,Hy.out])
    generalize cmpI x y=C' at *
    go_wp2_with fail
    go_quiet ((go_at_call 99;exact Hcmp.out _))
    go_wp2
    go_ret
    exact ⟨by rw [←Hxy.out];rfl,je3 Hq2.out _⟩
theorem jgx (A A2:Option Addr) (n cap n2 cap2:Nat) (a b:List Int) (w:World) (ha:RdI w w.heap.size A n cap a) (hb:RdI w w.heap.size A2 n2 cap2 b) (ca:Cn a) (cb:Cn b) :
 Calls Tryz.prog 100 #[.slice A n cap,.slice A2 n2 cap2] w fun e w'=>e=.returned (.int .i64 (cmpI (val a) (val b)))∧Below w.heap.size w w' :=
 (jfu A A2 n cap n2 cap2 a b w ha hb ca cb).mono fun e w' ⟨h1,q,h2⟩=>⟨h1,by rw [h2];exact jaH (Below.refl _ _) q⟩
def sgOf (s:Int) (l:List Int):Int:=if jbK l=[] then 0 else s
theorem jhB (s:Int) (A:Option Addr) (n cap:Nat) (l:List Int) (w:World) (hl:RdI w w.heap.size A n cap l) :
 Calls Tryz.prog 93 #[.int .i64 s,.slice A n cap] w fun e w'=>(∃A' n' cap',e=.returned (.agg #[.int .i64 (sgOf s l),.slice A' n' cap'])∧RdI w' w'.heap.size A' n' cap' (jbK l)∧(A'=none∨A'=A))∧Below w.heap.size w w':=by
 have hln:=hl.len
 have hb0:=(Below.refl w.heap.size w).alloc (Nat.le_refl _) (.cells #[.int .i64 0,.slice none 0 0] 27)
 have hl0:=hl.up (jab _) hb0
 have Hl:=jpk hl
 have HB:=jpk (fun o=>(Below.refl w.heap.size w).alloc (Nat.le_refl _) o)
 go_enter Tryz.func93,Tryz.ntmps93
 go_wp2_with fail
 refine (jdP A n cap l _ hl0).mono ?_
 rintro e _ ⟨⟨k,hk,rfl,htr⟩,rfl⟩
 rcases Nat.eq_zero_or_pos k with hk0|hk0
 ·subst hk0
  have Ht:=jpk htr
  clear htr hl0
  go_wp2
  refine bodyPost_ret (v:=.agg #[.int .i64 0,.slice none 0 0]) (by simp [results,Tryz.results93,go_sem]) rfl ⟨⟨none,0,0,?_,?_,Or.inl rfl⟩,HB.out _⟩
  ·rw [sgOf,Ht.out,List.take_zero,if_pos rfl]
  ·rw [Ht.out,List.take_zero];exact Rd.nil
 ·have hne:l.take k≠[]:=fun e=>by
   have h1:(l.take k).length=0:=by rw [e];rfl
   rw [List.length_take] at h1
   omega
  have hd:((k:Int)==0)=false:=by simp;omega
  have Ht:=jpk htr
  have Hne:=jpk hne
  clear htr hne hl0
  go_wp2
  refine bodyPost_ret (v:=.agg #[.int .i64 s,.slice A k cap]) (by simp [results,Tryz.results93,go_sem]) rfl ⟨⟨A,k,cap,?_,?_,Or.inr rfl⟩,HB.out _⟩
  ·rw [sgOf,Ht.out,if_neg Hne.out]
  ·rw [Ht.out];exact (Hl.out.up (jab _) (HB.out _)).take hk
end Go.Proofs.YtgikfcjndiohjaaGreat
