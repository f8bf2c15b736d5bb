/- Laws and walks; conditions stand in each theorem. -/
import Derived.Test.YtgikfcjndiohjaaGreatP05
set_option linter.unusedSimpArgs false
set_option linter.unusedVariables false
namespace Go.Proofs.YtgikfcjndiohjaaGreat
open Go.RowKit
structure Fv where
 s:Int
 l:List Int
 t:Int
 m:List Int
def Fv.ok (x:Fv):Bool:=jam x.s x.l x.t x.m
def Fv.rat (x:Fv):Rat:=ratF x.s x.l x.t x.m
def fE:Enc Fv:=fun w B x cs=>∃A n c A' n' c',cs=[.int .i64 x.s,.slice A n c,.int .i64 x.t,.slice A' n' c']∧RdI w B A n c x.l∧RdI w B A' n' c' x.m
theorem jan:jf1 fE:=fun w w' B B' x cs ⟨A,n,c,A',n',c',h,h1,h2⟩ hB hk=>⟨A,n,c,A',n',c',h,h1.keep (jab _) hB hk,h2.keep (jab _) hB hk⟩
abbrev RdF:=Rd 4 fE
theorem Rd.atF {w:World} {B:Nat} {A:Option Addr} {n cap:Nat} {l:List Fv} (h:RdF w B A n cap l) {k:Nat} (hk:k<n) :
 ∃b off A1 n1 c1 A2 n2 c2 x,A=some ⟨b,off,none⟩∧b<B∧l[k]?=some x∧(w.cell? ⟨b,off+k*4,none⟩=some (.int .i64 x.s)∧w.cell? ⟨b,off+k*4+1,none⟩=some (.slice A1 n1 c1)∧w.cell? ⟨b,off+k*4+2,none⟩=some (.int .i64 x.t)∧w.cell? ⟨b,off+k*4+3,none⟩=some (.slice A2 n2 c2))∧RdI w B A1 n1 c1 x.l∧RdI w B A2 n2 c2 x.m:=by
 obtain ⟨b,off,rfl,hb,hc⟩:=h.2.2.2 ZO
 have hl:=h.1
 obtain ⟨cs,⟨A1,n1,c1,A2,n2,c2,rfl,h1,h2⟩,_,hj⟩:=hc k ZO
 exact ⟨b,off,A1,n1,c1,A2,n2,c2,l[k],rfl,hb,List.getElem?_eq_getElem ZO,⟨by simpa using hj 0 _ rfl,by simpa using hj 1 _ rfl,by simpa using hj 2 _ rfl,by simpa using hj 3 _ rfl⟩,h1,h2⟩
set_option maxRecDepth 100000
theorem OptF.std {s:Int} {l:List Int} {t:Int} {m:List Int} {q:Rat} (h:OptF s l t m (some q)):StdF s l t m q:=h
end Go.Proofs.YtgikfcjndiohjaaGreat
