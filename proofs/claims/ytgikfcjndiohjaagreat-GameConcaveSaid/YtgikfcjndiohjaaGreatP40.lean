/- Laws and walks; conditions stand in each theorem. -/
import Derived.Test.YtgikfcjndiohjaaGreatRows
import Derived.Test.YtgikfcjndiohjaaGreatP37
set_option linter.unusedVariables false
set_option maxRecDepth 100000
namespace Go.Proofs.YtgikfcjndiohjaaGreat.gameConcaveDone
open Go.ChangeShapes Go.WideShapes Go.ChangeAt Go.RowKit
theorem gameConcave_walk (rd:Int) (C:Option Addr) (nc cc:Nat) (cs:List Int) (O:Option Addr) (no co:Nat) (lo:List Int) (w:World) (hc:RdI w w.heap.size C nc cc cs) (ho:Rd 1 (flat u8E) w w.heap.size O no co lo) (hlo:∀y∈lo,0≤y∧y≤255) :
 Calls Tryz.prog 5 #[.agg #[.int .i64 rd,.slice C nc cc],.slice O no co] w fun e w'=>e=.returned (.bool true)∧Below w.heap.size w w':=jeW rd C nc cc cs O no co lo w hc ho hlo
theorem own:ownKnob Tryz.prog.godebug=none:=by kernel_rfl
theorem laidOut:laidOutB Tryz.prog=true:=by kernel_rfl
theorem lifted (os:Os) (started:os.Started) (H:Type) (enc:TypeId × Value→H) :
 ReturnsInHanded {} Tryz.checked os 5 .any (Rows.gameConcaveSpec.pre6 enc Tryz.prog Tryz.f5 Rows.gameConcaveRow.domain false) (Rows.gameConcaveSpec.post enc Tryz.prog Tryz.f5 false true false false):=by
 refine returnsInHanded_of_change_sized (C:=Tryz.checked) own started Zb9 Tryz.func5
  (ChangeSpec.witness6 (enc:=enc) (C:=Tryz.checked) false ⟨#[],#[.agg #[.int .i64 0,.slice none 0 0],.slice none 0 0],[]⟩ 8 Zb9 Zb9 Zb9 Zb9) ?_
 intro W base args ds gs before hval0 hW hcnd hsz0 _
 have hval:∀(j:Nat) t v,Tryz.f5.params[j]?=some t→args[j]?=some v→Value.okWide Tryz.prog W .any base t v:=hval0
 have hsz:(DataW.weightsEach Tryz.prog (Tryz.f5.params.toList++Rows.gameConcaveSpec.plain.varTypes Tryz.prog) (ds++gs)).all (· ≤ reachBytes)=true:=hsz0
 have hW':=hW
 obtain ⟨p,q,hA0,hV,rfl,hfz,hnd⟩:=hW
 have hA:DataW.TrodAll enc Tryz.prog W 0 (fun _=>true) true Tryz.f5.params.toList args.toList ds p:=hA0
 rw [Tryz.params5] at hA hval hsz
 obtain ⟨v0,vs0,d0,ds0,p0,q0,hargs,rfl,rfl,h0,r0⟩:=trodAll_cons hA
 obtain ⟨v1,vs1,d1,ds1,p1,q1,rfl,rfl,rfl,h1,r1⟩:=trodAll_cons r0
 obtain ⟨rfl,rfl,rfl⟩:=trodAll_nil r1
 obtain rfl:args=#[v0,v1]:=by cases args;simp_all
 obtain ⟨rfl,rfl⟩:=trodVars_none hV
 have k0:=h0
 have wt0:∀n∈d0.weights Tryz.prog 24,n≤reachBytes:=fun n hn=>by have:=List.all_eq_true.1 hsz _ (DataW.weights_mem_each (j:=0) rfl rfl n hn);simpa using this
 obtain ⟨x0_0,x0_1,x0_2,x0_3,x0_4,rfl,c0_0⟩:=jgv (hval 0 24 v0 rfl rfl) h0 wt0
 have k1:=h1
 have wt1:∀n∈d1.weights Tryz.prog 47,n≤reachBytes:=fun n hn=>by have:=List.all_eq_true.1 hsz _ (DataW.weights_mem_each (j:=1) rfl rfl n hn);simpa using this
 obtain ⟨x1_0,x1_1,x1_2,x1_3,rfl,c1_0,d1_0⟩:=jnB (hval 1 47 v1 rfl rfl) h1 wt1
 clear hA0 hval0 hsz0 hsz hcnd
 refine (gameConcave_walk x0_0 x0_1 x0_2 x0_3 x0_4 x1_0 x1_1 x1_2 x1_3 W c0_0 c1_0 d1_0).mono fun e W' ⟨he,bel⟩=>?_
 subst he
 exact ⟨_,rfl,_,_,_,[],_,[],hW',trodAll_mk1 (shut_bool Tryz.underlying4 _),(trodAll_cons_mk (jdN laidOut Zb9 (of_decide_eq_true Zb9) k0 bel) (trodAll_cons_mk (jdN laidOut Zb9 (of_decide_eq_true Zb9) k1 bel) trodAll_mk0)),rfl,bel.frame _,fun h=>by cases h⟩
theorem over:Rows.gameConcaveRow.holds Tryz.pinned (OpenSpec.ofChange Rows.gameConcaveSpec) :=
 OpenClaim.holds_of_wide 5 Tryz.f5 rfl rfl rfl rfl rfl rfl rfl ⟨rfl,rfl,rfl,rfl,rfl⟩ rfl rfl rfl rfl rfl Zb9 Tryz.func5 Zb9
  (of_decide_eq_true Zb9) (by unfold Func.isWrapper;first|(rw [if_pos Zb21];kernel_rfl)|(rw [if_neg Zb21];exact ⟨rfl,rfl⟩))
  (fun os started H enc _=>lifted os started H enc)
end Go.Proofs.YtgikfcjndiohjaaGreat.gameConcaveDone
namespace Go.Proofs.YtgikfcjndiohjaaGreat
theorem gameConcave_holds:Rows.GameConcaveSaid:=gameConcaveDone.over
#print axioms gameConcave_holds
end Go.Proofs.YtgikfcjndiohjaaGreat
