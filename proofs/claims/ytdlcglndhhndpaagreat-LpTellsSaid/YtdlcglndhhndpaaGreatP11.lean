/- Laws and walks; conditions stand in each theorem. -/
import Derived.Outline
import Derived.Test.YtdlcglndhhndpaaGreatP06
set_option linter.unusedSimpArgs false
set_option linter.unusedVariables false
set_option maxRecDepth 100000
namespace Go.Proofs.YtdlcglndhhndpaaGreat
open Go.RowKit
structure Fv where
 s:Int
 l:List Int
 t:Int
 m:List Int
def Fv.ok (x:Fv):Bool:=jap x.s x.l x.t x.m
def Fv.rat (x:Fv):Rat:=ratF x.s x.l x.t x.m
def fE:Enc Fv:=fun w B x cs=>∃A n c A' n' c',cs=[.int .i64 x.s,.slice A n c,.int .i64 x.t,.slice A' n' c']∧RdI w B A n c x.l∧RdI w B A' n' c' x.m
theorem jan:jfX fE:=fun w w' B B' x cs ⟨A,n,c,A',n',c',h,h1,h2⟩ hB hk=>⟨A,n,c,A',n',c',h,h1.keep (jab _) hB hk,h2.keep (jab _) hB hk⟩
abbrev RdF:=Rd 4 fE
theorem Rd.atF {w:World} {B:Nat} {A:Option Addr} {n cap:Nat} {l:List Fv} (h:RdF w B A n cap l) {k:Nat} (hk:k<n) :
 ∃b off A1 n1 c1 A2 n2 c2 x,A=some ⟨b,off,none⟩∧b<B∧l[k]?=some x∧(w.cell? ⟨b,off+k*4,none⟩=some (.int .i64 x.s)∧w.cell? ⟨b,off+k*4+1,none⟩=some (.slice A1 n1 c1)∧w.cell? ⟨b,off+k*4+2,none⟩=some (.int .i64 x.t)∧w.cell? ⟨b,off+k*4+3,none⟩=some (.slice A2 n2 c2))∧RdI w B A1 n1 c1 x.l∧RdI w B A2 n2 c2 x.m:=by
 obtain ⟨b,off,rfl,hb,hc⟩:=h.2.2.2 ZO;have hl:=h.1;obtain ⟨cs,⟨A1,n1,c1,A2,n2,c2,rfl,h1,h2⟩,_,hj⟩:=hc k ZO;exact ⟨b,off,A1,n1,c1,A2,n2,c2,l[k],rfl,hb,List.getElem?_eq_getElem ZO,⟨by simpa using hj 0 _ rfl,by simpa using hj 1 _ rfl,by simpa using hj 2 _ rfl,by simpa using hj 3 _ rfl⟩,h1,h2⟩
structure Rv where
 a:List Fv
 b:Fv
def rE:Enc Rv:=fun w B x cs=>∃A n c cs',cs=.slice A n c::cs'∧RdF w B A n c x.a∧fE w B x.b cs'
theorem ja7:jfX rE:=fun w w' B B' x cs ⟨A,n,c,cs',h,h1,h2⟩ hB hk=>⟨A,n,c,cs',h,h1.keep jan hB hk,jan _ _ _ _ _ _ h2 hB hk⟩
abbrev RdR:=Rd 5 rE
theorem Rd.atR {w:World} {B:Nat} {A:Option Addr} {n cap:Nat} {l:List Rv} (h:RdR w B A n cap l) {k:Nat} (hk:k<n) :
 ∃b off A0 n0 c0 A1 n1 c1 A2 n2 c2 x,A=some ⟨b,off,none⟩∧b<B∧l[k]?=some x∧(w.cell? ⟨b,off+k*5,none⟩=some (.slice A0 n0 c0)∧w.cell? ⟨b,off+k*5+1,none⟩=some (.int .i64 x.b.s)∧w.cell? ⟨b,off+k*5+2,none⟩=some (.slice A1 n1 c1)∧w.cell? ⟨b,off+k*5+3,none⟩=some (.int .i64 x.b.t)∧w.cell? ⟨b,off+k*5+4,none⟩=some (.slice A2 n2 c2))∧RdF w B A0 n0 c0 x.a∧RdI w B A1 n1 c1 x.b.l∧RdI w B A2 n2 c2 x.b.m:=by
 obtain ⟨b,off,rfl,hb,hc⟩:=h.2.2.2 ZO;have hl:=h.1;obtain ⟨cs,⟨A0,n0,c0,cs',rfl,h0,A1,n1,c1,A2,n2,c2,rfl,h1,h2⟩,_,hj⟩:=hc k ZO;exact ⟨b,off,A0,n0,c0,A1,n1,c1,A2,n2,c2,l[k],rfl,hb,List.getElem?_eq_getElem ZO,⟨by simpa using hj 0 _ rfl,by simpa using hj 1 _ rfl,by simpa using hj 2 _ rfl,by simpa using hj 3 _ rfl,by simpa using hj 4 _ rfl⟩,h0,h1,h2⟩
def IdxF (w:World) (b:Bool) (e:Ending) (w':World):Prop:=∃i:Int,e=.returned (.int .i64 i)∧ -1≤i∧i≤140737488351232∧decide (0≤i)= !b∧Below w.heap.size w w'
def rowF (N:Int) (x:Rv):Bool:=(decide ((x.a.length:Int)=N)&&x.b.ok)&&x.a.all Fv.ok
def rightL (N:Int) (l:List Rv):Bool:=decide (0≤N∧N≤40∧(l.length:Int)=N)&&l.all (rowF N)
open Go.ChangeShapes Go.WideShapes Go.ChangeAt Go.RowKit Go.Deep
theorem Rd.mapC {α β:Type} {sz:Nat} {R:Enc α} {S:Enc β} {w:World} {B:Nat} {A:Option Addr} {n cap:Nat} {l:List α} (f:α→β) (h:Rd sz R w B A n cap l) (hc:∀x cs,cs.length=sz→R w B x cs→S w B (f x) cs):Rd sz S w B A n cap (l.map f):=by
 refine ⟨by rw [List.length_map];exact h.1,h.2.1,h.2.2.1,fun hn=>?_⟩;obtain ⟨b,off,rfl,hb,hk⟩:=h.2.2.2 hn;refine ⟨b,off,rfl,hb,fun k hk'=>?_⟩;have hl:k<l.length:=by simpa using hk'
 obtain ⟨cs,hr,hl2,hj⟩:=hk k hl;refine ⟨cs,?_,hl2,hj⟩;rw [List.getElem_map];exact hc _ _ hl2 hr
section
variable {H:Type} {enc:TypeId × Value→H} {w:World}
theorem jjc:jc8 enc Tryz.prog w 48 2 (prE 1 (flat fun x=>[.int .i64 x]) (slE 1 (flat fun x=>[.int .i64 x]))) (fun _:Int × List Int=>True):=by
 have h:=jb9 (enc:=enc) (w:=w) Tryz.underlying48 (sz:=2) Zb9
  (jb8 (s:=1) (s':=1) (jfQ Tryz.underlying3) rfl Zb9 (jcp (jc7 (jfQ Tryz.underlying3) Tryz.underlying46 Zb9 ZO Zb24) rfl Zb9))
 exact ZQ89
theorem jgW:jc8 enc Tryz.prog w 50 4 (prE 2 (prE 1 (flat fun x=>[.int .i64 x]) (slE 1 (flat fun x=>[.int .i64 x]))) (prE 1 (flat fun x=>[.int .i64 x]) (slE 1 (flat fun x=>[.int .i64 x])))) (fun _:(Int × List Int) × (Int × List Int)=>True):=by
 have h:=jb9 (enc:=enc) (w:=w) Tryz.underlying50 (sz:=4) Zb9
  (jb8 (s:=2) (s':=2) jjc rfl Zb9 (jcp jjc rfl Zb9))
 exact ZQ89
theorem jd8:jc8 enc Tryz.prog w 23 1 (slE 4 (prE 2 (prE 1 (flat fun x=>[.int .i64 x]) (slE 1 (flat fun x=>[.int .i64 x]))) (prE 1 (flat fun x=>[.int .i64 x]) (slE 1 (flat fun x=>[.int .i64 x]))))) (fun l=>∀x∈l,True) :=
 jc7 jgW Tryz.underlying23 Zb9 ZO Zb24
theorem jft {W:World} {B:Nat} {x:Int × List Int} {cs:List Value} (h:prE 1 (flat fun x=>[.int .i64 x]) (slE 1 (flat fun x=>[.int .i64 x])) W B x cs):∃A n cap,cs=[.int .i64 x.1,.slice A n cap]∧RdI W B A n cap x.2:=by
 obtain ⟨h1,A,n,cap,h2,h3⟩:=h;refine ⟨A,n,cap,?_,h3⟩;have h1:cs.take 1=[.int .i64 x.1]:=h1;rw [←List.take_append_drop 1 cs,h1,h2];rfl
theorem jdK {W:World} {B:Nat} (x:(Int × List Int) × (Int × List Int)) (cs:List Value) (hl:cs.length=4) (h:prE 2 (prE 1 (flat fun x=>[.int .i64 x]) (slE 1 (flat fun x=>[.int .i64 x]))) (prE 1 (flat fun x=>[.int .i64 x]) (slE 1 (flat fun x=>[.int .i64 x]))) W B x cs):fE W B ⟨x.1.1,x.1.2,x.2.1,x.2.2⟩ cs:=by
 obtain ⟨h1,h2⟩:=h;obtain ⟨A,n,cap,e1,r1⟩:=jft h1;obtain ⟨A',n',cap',e2,r2⟩:=jft h2;refine ⟨A,n,cap,A',n',cap',?_,r1,r2⟩;rw [←List.take_append_drop 2 cs,e1,e2];rfl
variable {r:Reach} {b0:Nat} {v:Value} {d:DataW H} {p:List MemPlace}
theorem jfq (hv:Value.okWide Tryz.prog w r b0 23 v) (hd:DataW.Trod enc Tryz.prog w 0 (fun _=>true) true 23 v d p) (hw:∀n∈d.weights Tryz.prog 23,n≤reachBytes) :
 ∃A n cap l,v=.slice A n cap∧RdF w w.heap.size A n cap l:=by
 obtain ⟨A,n,cap,l,rfl,hr,h⟩:=jd9 jd8 Tryz.underlying23 hv hd hw;exact ⟨A,n,cap,_,rfl,hr.mapC _ jdK⟩
end
end Go.Proofs.YtdlcglndhhndpaaGreat
