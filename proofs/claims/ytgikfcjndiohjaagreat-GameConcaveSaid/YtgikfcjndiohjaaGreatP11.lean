/- Laws and walks; conditions stand in each theorem. -/
import Derived.Outline
import Derived.Deep.QuietTactic
import Derived.BigQuiet
import Derived.Test.YtgikfcjndiohjaaGreatP09
import Derived.Test.YtgikfcjndiohjaaGreatP07
set_option linter.unusedSimpArgs false
set_option linter.unusedVariables false
set_option maxRecDepth 100000
namespace Go.Proofs.YtgikfcjndiohjaaGreat
open Go.RowKit
structure Rv where
 a:List Fv
 b:Fv
def rE:Enc Rv:=fun w B x cs=>∃A n c cs',cs=.slice A n c::cs'∧RdF w B A n c x.a∧fE w B x.b cs'
theorem jg5:jf1 rE:=fun w w' B B' x cs ⟨A,n,c,cs',h,h1,h2⟩ hB hk=>⟨A,n,c,cs',h,h1.keep jan hB hk,jan _ _ _ _ _ _ h2 hB hk⟩
abbrev RdR:=Rd 5 rE
theorem Rd.atR {w:World} {B:Nat} {A:Option Addr} {n cap:Nat} {l:List Rv} (h:RdR w B A n cap l) {k:Nat} (hk:k<n) :
 ∃b off A0 n0 c0 A1 n1 c1 A2 n2 c2 x,A=some ⟨b,off,none⟩∧b<B∧l[k]?=some x∧(w.cell? ⟨b,off+k*5,none⟩=some (.slice A0 n0 c0)∧w.cell? ⟨b,off+k*5+1,none⟩=some (.int .i64 x.b.s)∧w.cell? ⟨b,off+k*5+2,none⟩=some (.slice A1 n1 c1)∧w.cell? ⟨b,off+k*5+3,none⟩=some (.int .i64 x.b.t)∧w.cell? ⟨b,off+k*5+4,none⟩=some (.slice A2 n2 c2))∧RdF w B A0 n0 c0 x.a∧RdI w B A1 n1 c1 x.b.l∧RdI w B A2 n2 c2 x.b.m:=by
 obtain ⟨b,off,rfl,hb,hc⟩:=h.2.2.2 ZO
 have hl:=h.1
 obtain ⟨cs,⟨A0,n0,c0,cs',rfl,h0,A1,n1,c1,A2,n2,c2,rfl,h1,h2⟩,_,hj⟩:=hc k ZO
 exact ⟨b,off,A0,n0,c0,A1,n1,c1,A2,n2,c2,l[k],rfl,hb,List.getElem?_eq_getElem ZO,⟨by simpa using hj 0 _ rfl,by simpa using hj 1 _ rfl,by simpa using hj 2 _ rfl,by simpa using hj 3 _ rfl,by simpa using hj 4 _ rfl⟩,h0,h1,h2⟩
def IdxF (w:World) (b:Bool) (e:Ending) (w':World):Prop:=∃i:Int,e=.returned (.int .i64 i)∧ -1≤i∧i≤140737488351232∧decide (0≤i)= !b∧Below w.heap.size w w'
def rowF (N:Int) (x:Rv):Bool:=(decide ((x.a.length:Int)=N)&&x.b.ok)&&x.a.all Fv.ok
def rightL (N:Int) (l:List Rv):Bool:=decide (0≤N∧N≤40∧(l.length:Int)=N)&&l.all (rowF N)
theorem jcV {P:Program} {C:World→Prop} {id:Nat} {Q:Exit→Act→World→Prop} {a:Act} {w:World} {l:List Oper} (hm:P.follows .mixedOrders=true) (hB:Region.lexB .any l.toArray=true) (hC:C w.drew)
 (h:wpQuiet P l.toArray C (fun a'=>∀w',C w'→Q .normal a' w') l a):(Code.region id l.toArray true).wp P Q a w :=
 wp_region_quiet (C:=C) hm hB hC (by simpa using h)
theorem jnD (KS:World→Prop) (w:World) (h:KS w) (hd:∀W,KS W→KS W.drew):∃(ι:Type) (f:ι→World),Nonempty ι∧(∃n,w.drew=f n)∧(∀n,KS (f n))∧∀w',KS w'→∃n,w'=f n :=
 ⟨{w':World // KS w'},Subtype.val,⟨⟨w,h⟩⟩,⟨⟨w.drew,hd w h⟩,rfl⟩,fun n=>n.2,fun w' h=>⟨⟨w',h⟩,rfl⟩⟩
theorem fv_ext {x y:Fv}:(x.s=y.s∧x.l=y.l∧x.t=y.t∧x.m=y.m)↔x=y :=
 ⟨fun ⟨e1,e2,e3,e4⟩=>by cases x;cases y;simp_all,fun e=>by subst e;exact ⟨rfl,rfl,rfl,rfl⟩⟩
instance fvDec:DecidableEq Fv:=fun x y=>decidable_of_iff _ fv_ext
theorem jgb (x y:Fv):jhz x.s x.l x.t x.m y.s y.l y.t y.m=decide (x=y):=by
 unfold jhz jbu
 rw [←Bool.decide_and]
 refine decide_eq_decide.2 ⟨fun ⟨⟨e1,e2⟩,e3,e4⟩=>?_,fun e=>?_⟩
 ·cases x;cases y;simp_all
 ·subst e;exact ⟨⟨rfl,rfl⟩,rfl,rfl⟩
def fewV (d:Int) (x:Fv):Bool:=fewF x.l.length x.m.length d
def jfE (M d:Int) (l:List Fv):Bool:=decide ((l.length:Int)≤M)&&l.all (fewV d)
theorem RdI.cellAt {w:World} {B:Nat} {A:Option Addr} {n cap:Nat} {l:List Int} (h:RdI w B A n cap l) {k:Nat} (hk:k<n):∃b off,A=some ⟨b,off,none⟩∧b<B∧w.cell? ⟨b,off+k,none⟩=some (.int .i64 (gi l k)):=by
 obtain ⟨b,off,x,hA,hb,hx,hc⟩:=h.atI hk
 have e:gi l k=x:=by
  unfold gi
  rw [List.getD_eq_getElem?_getD,hx]
  rfl
 rw [e]
 exact ⟨b,off,hA,hb,hc⟩
open Go.ChangeShapes Go.WideShapes Go.ChangeAt Go.RowKit Go.Deep
theorem Rd.mapC {α β:Type} {sz:Nat} {R:Enc α} {S:Enc β} {w:World} {B:Nat} {A:Option Addr} {n cap:Nat} {l:List α} (f:α→β) (h:Rd sz R w B A n cap l) (hc:∀x cs,cs.length=sz→R w B x cs→S w B (f x) cs):Rd sz S w B A n cap (l.map f):=by
 refine ⟨by rw [List.length_map];exact h.1,h.2.1,h.2.2.1,fun hn=>?_⟩
 obtain ⟨b,off,rfl,hb,hk⟩:=h.2.2.2 hn
 refine ⟨b,off,rfl,hb,fun k hk'=>?_⟩
 have hl:k<l.length:=by simpa using hk'
 obtain ⟨cs,hr,hl2,hj⟩:=hk k hl
 refine ⟨cs,?_,hl2,hj⟩
 rw [List.getElem_map]
 exact hc _ _ hl2 hr
section
variable {H:Type} {enc:TypeId × Value→H} {w:World}
theorem jjV:jdk enc Tryz.prog w 27 2 (prE 1 (flat fun x=>[.int .i64 x]) (slE 1 (flat fun x=>[.int .i64 x]))) (fun _:Int × List Int=>True):=by
 have h:=jcw (enc:=enc) (w:=w) Tryz.underlying27 (sz:=2) Zb9
  (jcu (s:=1) (s':=1) (jcv Tryz.underlying3) rfl Zb9 (jc1 (jcd (jcv Tryz.underlying3) Tryz.underlying22 Zb9 ZO Zb21) rfl Zb9))
 exact jnt
theorem jmJ:jdk enc Tryz.prog w 29 4 (prE 2 (prE 1 (flat fun x=>[.int .i64 x]) (slE 1 (flat fun x=>[.int .i64 x]))) (prE 1 (flat fun x=>[.int .i64 x]) (slE 1 (flat fun x=>[.int .i64 x])))) (fun _:(Int × List Int) × (Int × List Int)=>True):=by
 have h:=jcw (enc:=enc) (w:=w) Tryz.underlying29 (sz:=4) Zb9
  (jcu (s:=2) (s':=2) jjV rfl Zb9 (jc1 jjV rfl Zb9))
 exact jnt
theorem jjW:jdk enc Tryz.prog w 25 1 (slE 4 (prE 2 (prE 1 (flat fun x=>[.int .i64 x]) (slE 1 (flat fun x=>[.int .i64 x]))) (prE 1 (flat fun x=>[.int .i64 x]) (slE 1 (flat fun x=>[.int .i64 x]))))) (fun l=>∀x∈l,True) :=
 jcd jmJ Tryz.underlying25 Zb9 ZO Zb21
theorem jdT {W:World} {B:Nat} {x:Int × List Int} {cs:List Value} (h:prE 1 (flat fun x=>[.int .i64 x]) (slE 1 (flat fun x=>[.int .i64 x])) W B x cs):∃A n cap,cs=[.int .i64 x.1,.slice A n cap]∧RdI W B A n cap x.2:=by
 obtain ⟨h1,A,n,cap,h2,h3⟩:=h
 refine ⟨A,n,cap,?_,h3⟩
 have h1:cs.take 1=[.int .i64 x.1]:=h1
 rw [←List.take_append_drop 1 cs,h1,h2]
 rfl
theorem jmn {W:World} {B:Nat} (x:(Int × List Int) × (Int × List Int)) (cs:List Value) (hl:cs.length=4) (h:prE 2 (prE 1 (flat fun x=>[.int .i64 x]) (slE 1 (flat fun x=>[.int .i64 x]))) (prE 1 (flat fun x=>[.int .i64 x]) (slE 1 (flat fun x=>[.int .i64 x]))) W B x cs):fE W B ⟨x.1.1,x.1.2,x.2.1,x.2.2⟩ cs:=by
 obtain ⟨h1,h2⟩:=h
 obtain ⟨A,n,cap,e1,r1⟩:=jdT h1
 obtain ⟨A',n',cap',e2,r2⟩:=jdT h2
 refine ⟨A,n,cap,A',n',cap',?_,r1,r2⟩
 rw [←List.take_append_drop 2 cs,e1,e2]
 rfl
variable {r:Reach} {b0:Nat} {v:Value} {d:DataW H} {p:List MemPlace}
theorem jhR (hv:Value.okWide Tryz.prog w r b0 25 v) (hd:DataW.Trod enc Tryz.prog w 0 (fun _=>true) true 25 v d p) (hw:∀n∈d.weights Tryz.prog 25,n≤reachBytes) :
 ∃A n cap l,v=.slice A n cap∧RdF w w.heap.size A n cap l:=by
 obtain ⟨A,n,cap,l,rfl,hr,h⟩:=jct jjW Tryz.underlying25 hv hd hw
 exact ⟨A,n,cap,_,rfl,hr.mapC _ jmn⟩
end
end Go.Proofs.YtgikfcjndiohjaaGreat
