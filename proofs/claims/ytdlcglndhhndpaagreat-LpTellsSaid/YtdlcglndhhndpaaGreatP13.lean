/- Laws and walks; conditions stand in each theorem. -/
import Derived.Deep.QuietTactic
import Derived.BigQuiet
import Derived.Test.YtdlcglndhhndpaaGreatP11
import Derived.Test.YtdlcglndhhndpaaGreatP07
set_option linter.unusedSimpArgs false
set_option linter.unusedVariables false
set_option maxRecDepth 100000
namespace Go.Proofs.YtdlcglndhhndpaaGreat
open Go.RowKit
theorem jc4 {P:Program} {C:World→Prop} {id:Nat} {Q:Exit→Act→World→Prop} {a:Act} {w:World} {l:List Oper} (hm:P.follows .mixedOrders=true) (hB:Region.lexB .any l.toArray=true) (hC:C w.drew)
 (h:wpQuiet P l.toArray C (fun a'=>∀w',C w'→Q .normal a' w') l a):(Code.region id l.toArray true).wp P Q a w :=
 wp_region_quiet (C:=C) hm hB hC (by simpa using h)
theorem jmu (KS:World→Prop) (w:World) (h:KS w) (hd:∀W,KS W→KS W.drew):∃(ι:Type) (f:ι→World),Nonempty ι∧(∃n,w.drew=f n)∧(∀n,KS (f n))∧∀w',KS w'→∃n,w'=f n :=
 ⟨{w':World // KS w'},Subtype.val,⟨⟨w,h⟩⟩,⟨⟨w.drew,hd w h⟩,rfl⟩,fun n=>n.2,fun w' h=>⟨⟨w',h⟩,rfl⟩⟩
theorem fv_ext {x y:Fv}:(x.s=y.s∧x.l=y.l∧x.t=y.t∧x.m=y.m)↔x=y :=
 ⟨fun ⟨e1,e2,e3,e4⟩=>by cases x;cases y;simp_all,fun e=>by subst e;exact ⟨rfl,rfl,rfl,rfl⟩⟩
instance fvDec:DecidableEq Fv:=fun x y=>decidable_of_iff _ fv_ext
theorem jhY (x y:Fv):jjw x.s x.l x.t x.m y.s y.l y.t y.m=decide (x=y):=by
 unfold jjw jbz;rw [←Bool.decide_and];refine decide_eq_decide.2 ⟨fun ⟨⟨e1,e2⟩,e3,e4⟩=>?_,fun e=>?_⟩
 ·cases x;cases y;simp_all
 ·subst e;exact ⟨⟨rfl,rfl⟩,rfl,rfl⟩
def fewV (d:Int) (x:Fv):Bool:=fewF x.l.length x.m.length d
def jdG (M d:Int) (l:List Fv):Bool:=decide ((l.length:Int)≤M)&&l.all (fewV d)
def jcz (M d:Int) (x:Rv):Bool:=jdG M d x.a&&fewV d x.b
theorem RdI.cellAt {w:World} {B:Nat} {A:Option Addr} {n cap:Nat} {l:List Int} (h:RdI w B A n cap l) {k:Nat} (hk:k<n):∃b off,A=some ⟨b,off,none⟩∧b<B∧w.cell? ⟨b,off+k,none⟩=some (.int .i64 (gi l k)):=by
 obtain ⟨b,off,x,hA,hb,hx,hc⟩:=h.atI hk
 have e:gi l k=x:=by
  unfold gi;rw [List.getD_eq_getElem?_getD,hx];rfl
 rw [e];exact ⟨b,off,hA,hb,hc⟩
open Go.ChangeShapes Go.WideShapes Go.ChangeAt Go.RowKit Go.Deep
section
variable {H:Type} {enc:TypeId × Value→H} {w:World}
abbrev bgcE:Enc (Int × List Int):=prE 1 (flat fun x=>[.int .i64 x]) (slE 1 (flat fun x=>[.int .i64 x]))
abbrev fcE:Enc ((Int × List Int) × (Int × List Int)):=prE 2 bgcE bgcE
theorem jmM:jc8 enc Tryz.prog w 56 5 (prE 1 (slE 4 fcE) fcE) (fun _:List ((Int × List Int) × (Int × List Int)) × ((Int × List Int) × (Int × List Int))=>True):=by
 have h:=jb9 (enc:=enc) (w:=w) Tryz.underlying56 (sz:=5) Zb9
  (jb8 (s:=1) (s':=4) jd8 rfl Zb9 (jcp jgW rfl Zb9))
 exact ZQ89
theorem jkR:jc8 enc Tryz.prog w 22 1 (slE 5 (prE 1 (slE 4 fcE) fcE)) (fun l=>∀x∈l,True) :=
 jc7 jmM Tryz.underlying22 Zb9 ZO Zb24
def fvT (x:(Int × List Int) × (Int × List Int)):Fv:=⟨x.1.1,x.1.2,x.2.1,x.2.2⟩
theorem jkW {W:World} {B:Nat} (x:List ((Int × List Int) × (Int × List Int)) × ((Int × List Int) × (Int × List Int))) (cs:List Value) (hl:cs.length=5) (h:prE 1 (slE 4 fcE) fcE W B x cs):rE W B ⟨x.1.map fvT,fvT x.2⟩ cs:=by
 obtain ⟨h1,h2⟩:=h;obtain ⟨A,n,cap,e1,r1⟩:=h1;have h3:=jdK x.2 (cs.drop 1) (by rw [List.length_drop,hl]) h2;refine ⟨A,n,cap,cs.drop 1,?_,r1.mapC _ jdK,h3⟩;rw [←List.take_append_drop 1 cs,e1];rfl
variable {r:Reach} {b0:Nat} {v:Value} {d:DataW H} {p:List MemPlace}
end
end Go.Proofs.YtdlcglndhhndpaaGreat
