/- Laws and walks; conditions stand in each theorem. -/
import Derived.Test.YtdlcglndhhndpaaGreatRows
import Derived.Test.YtdlcglndhhndpaaGreatP52
set_option linter.unusedVariables false
set_option maxRecDepth 100000
namespace Go.Proofs.YtdlcglndhhndpaaGreat.lpTellsDone
open Go.ChangeShapes Go.WideShapes Go.ChangeAt Go.RowKit
theorem lpTells_walk (A:Option Addr) (n cap:Nat) (l:List Fv) (A':Option Addr) (m cap':Nat) (ls:List Rv) (X:Option Addr) (nx cx:Nat) (a:List Fv) (Y:Option Addr) (ny cy:Nat) (b:List Fv) (er:Int) (w:World) (hl:RdF w w.heap.size A n cap l) (hr:RdR w w.heap.size A' m cap' ls) (hx:RdF w w.heap.size X nx cx a) (hy:RdF w w.heap.size Y ny cy b) (_: -9223372036854775808≤er∧er≤9223372036854775807) :
 Calls Tryz.prog 4 #[.agg #[.slice A n cap,.slice A' m cap'],.slice X nx cx,.slice Y ny cy,.int .i64 er] w fun e w'=>e=.returned (.bool true)∧Below w.heap.size w w':=jht A A' X Y n cap m cap' nx cx ny cy l ls a b er w hl hr hx hy
theorem own:ownKnob Tryz.prog.godebug=none:=by kernel_rfl
theorem laidOut:laidOutB Tryz.prog=true:=by kernel_rfl
theorem lifted (os:Os) (started:os.Started) (H:Type) (enc:TypeId × Value→H) :
 ReturnsInHanded {} Tryz.checked os 4 .any (Rows.lpTellsSpec.pre6 enc Tryz.prog Tryz.f4 Rows.lpTellsRow.domain false) (Rows.lpTellsSpec.post enc Tryz.prog Tryz.f4 false true false false):=by
 refine returnsInHanded_of_change_sized (C:=Tryz.checked) own started Zb9 Tryz.func4
  (ChangeSpec.witness6 (enc:=enc) (C:=Tryz.checked) false ⟨#[],#[.agg #[.slice none 0 0,.slice none 0 0],.slice none 0 0,.slice none 0 0,.int .i64 0],[]⟩ 8 Zb9 Zb9 Zb9 Zb9) ?_
 intro W base args ds gs before hval0 hW hcnd hsz0 _;have hval:∀(j:Nat) t v,Tryz.f4.params[j]?=some t→args[j]?=some v→Value.okWide Tryz.prog W .any base t v:=hval0;have hsz:(DataW.weightsEach Tryz.prog (Tryz.f4.params.toList++Rows.lpTellsSpec.plain.varTypes Tryz.prog) (ds++gs)).all (· ≤ reachBytes)=true:=hsz0;have hW':=hW;obtain ⟨p,q,hA0,hV,rfl,hfz,hnd⟩:=hW;have hA:DataW.TrodAll enc Tryz.prog W 0 (fun _=>true) true Tryz.f4.params.toList args.toList ds p:=hA0;rw [Tryz.params4] at hA hval hsz;obtain ⟨v0,vs0,d0,ds0,p0,q0,hargs,rfl,rfl,h0,r0⟩:=trodAll_cons hA;obtain ⟨v1,vs1,d1,ds1,p1,q1,rfl,rfl,rfl,h1,r1⟩:=trodAll_cons r0;obtain ⟨v2,vs2,d2,ds2,p2,q2,rfl,rfl,rfl,h2,r2⟩:=trodAll_cons r1;obtain ⟨v3,vs3,d3,ds3,p3,q3,rfl,rfl,rfl,h3,r3⟩:=trodAll_cons r2;obtain ⟨rfl,rfl,rfl⟩:=trodAll_nil r3;obtain rfl:args=#[v0,v1,v2,v3]:=by cases args;simp_all
 obtain ⟨rfl,rfl⟩:=trodVars_none hV;have k0:=h0;have wt0:∀n∈d0.weights Tryz.prog 38,n≤reachBytes:=fun n hn=>by have:=List.all_eq_true.1 hsz _ (DataW.weights_mem_each (j:=0) rfl rfl n hn);simpa using this
 obtain ⟨x0_0,x0_1,x0_2,x0_3,x0_4,x0_5,x0_6,x0_7,rfl,c0_0,c0_1⟩:=jj0 (hval 0 38 v0 rfl rfl) h0 wt0;have k1:=h1;have wt1:∀n∈d1.weights Tryz.prog 23,n≤reachBytes:=fun n hn=>by have:=List.all_eq_true.1 hsz _ (DataW.weights_mem_each (j:=1) rfl rfl n hn);simpa using this
 obtain ⟨x1_0,x1_1,x1_2,x1_3,rfl,c1_0⟩:=jfq (hval 1 23 v1 rfl rfl) h1 wt1;have k2:=h2;have wt2:∀n∈d2.weights Tryz.prog 23,n≤reachBytes:=fun n hn=>by have:=List.all_eq_true.1 hsz _ (DataW.weights_mem_each (j:=2) rfl rfl n hn);simpa using this
 obtain ⟨x2_0,x2_1,x2_2,x2_3,rfl,c2_0⟩:=jfq (hval 2 23 v2 rfl rfl) h2 wt2;obtain ⟨a3,rfl,rfl,rfl,w3⟩:=open_int Tryz.underlying3 (hval 3 3 v3 rfl rfl) h3;have b3:=bounds_i64 w3;clear hA0 hval0 hsz0 hsz hcnd;refine (lpTells_walk x0_0 x0_1 x0_2 x0_3 x0_4 x0_5 x0_6 x0_7 x1_0 x1_1 x1_2 x1_3 x2_0 x2_1 x2_2 x2_3 a3 W c0_0 c0_1 c1_0 c2_0 b3).mono fun e W' ⟨he,bel⟩=>?_
 subst he;exact ⟨_,rfl,_,_,_,[],_,[],hW',trodAll_mk1 (shut_bool Tryz.underlying4 _),(trodAll_cons_mk (jfh laidOut Zb9 (of_decide_eq_true Zb9) k0 bel) (trodAll_cons_mk (jfh laidOut Zb9 (of_decide_eq_true Zb9) k1 bel) (trodAll_cons_mk (jfh laidOut Zb9 (of_decide_eq_true Zb9) k2 bel) (trodAll_cons_mk (shut_int Tryz.underlying3 w3) trodAll_mk0)))),rfl,bel.frame _,fun h=>by cases h⟩
theorem over:Rows.lpTellsRow.holds Tryz.pinned (OpenSpec.ofChange Rows.lpTellsSpec) :=
 OpenClaim.holds_of_wide 4 Tryz.f4 rfl rfl rfl rfl rfl rfl rfl ⟨rfl,rfl,rfl,rfl,rfl⟩ rfl rfl rfl rfl rfl Zb9 Tryz.func4 Zb9
  (of_decide_eq_true Zb9) (by unfold Func.isWrapper;first|(rw [if_pos Zb24];kernel_rfl)|(rw [if_neg Zb24];exact ⟨rfl,rfl⟩))
  (fun os started H enc _=>lifted os started H enc)
end Go.Proofs.YtdlcglndhhndpaaGreat.lpTellsDone
namespace Go.Proofs.YtdlcglndhhndpaaGreat
theorem lpTells_holds:Rows.LpTellsSaid:=lpTellsDone.over
#print axioms lpTells_holds
end Go.Proofs.YtdlcglndhhndpaaGreat
