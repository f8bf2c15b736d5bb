/- Laws and walks; conditions stand in each theorem. -/
import Derived.Test.YtdlcglndhhndpaaGreatP24
set_option linter.unusedSimpArgs false
set_option linter.unusedVariables false
set_option maxHeartbeats 4000000
set_option maxRecDepth 100000
namespace Go.Proofs.YtdlcglndhhndpaaGreat
open Go.RowKit
theorem jks (s t:Int) (A A2:Option Addr) (n cap n2 cap2:Nat) (a b:List Int) (w:World) (ha:RdI w w.heap.size A n cap a) (hb:RdI w w.heap.size A2 n2 cap2 b) :
 Calls Tryz.prog 95 #[.agg #[.int .i64 s,.slice A n cap],.agg #[.int .i64 t,.slice A2 n2 cap2]] w (BigE w (resZ (jag s a&&jag t b) (bval s a-bval t b)) (errZ (jag s a&&jag t b) (bval s a-bval t b))):=by
 have K:=((St.start w).oldRd ha).oldRd hb;have r:=K.raw;have HR2:=jmT (fun W hl=>jaL t A2 n2 cap2 b W hl);cases h2:jag t b
 ·rw [h2] at HR2;rw [Bool.and_false,jaD,jaC];clear h2;go_enter Tryz.func95,Tryz.ntmps95
  go_wp2_with (first|(refine ZAL ?_;clear K r;intro W b K r)|(refine ZST ?_;clear K r;intro W K r))
  refine (HR2.out _ ZRD).mono ?_;rintro e W' ⟨rfl,hb⟩;replace K:=K.keep hb;clear r;have r:=K.rawS;clear hb
  go_wp2_with (first|(refine ZAL ?_;clear K r;intro W b K r)|(refine ZST ?_;clear K r;intro W K r))
  exact bodyPost_ret (v:=.tuple #[.agg #[.int .i64 0,.slice none 0 0],.int .i64 1]) (by simp [results,Tryz.results95,go_sem,r]) rfl ⟨0,none,0,0,[],rfl,Rd.nil,Std.zero,FrA.none,K.1⟩
 rw [h2] at HR2;have F2:=jaS h2;have S2:=Std.of_right h2;rw [Bool.and_true,Int.sub_eq_add_neg];have HN0:=jmT (fun W hl=>jgJ t A2 n2 cap2 b W hl);have en:negZ t b= -(bval t b):=if_pos h2;rw [en] at HN0
 have HA0:=jmT (fun s5 A5 n5 c5 l5 W hl hm (h:Std s5 l5 (-(bval t b)))=>(show Calls Tryz.prog 111 #[.agg #[.int .i64 s,.slice A n cap],.agg #[.int .i64 s5,.slice A5 n5 c5]] W (BigE W (resZ (jag s a) (bval s a+ -(bval t b))) (errZ (jag s a) (bval s a+ -(bval t b)))) from by
  have h0:=jgG s s5 A A5 n cap n5 c5 a l5 W hl hm;rw [h.right (by rw [jb6] at F2 ⊢;rw [Int.natAbs_neg];exact F2),h.val,Bool.and_true] at h0
  exact h0))
 generalize resZ (jag s a) (bval s a+ -(bval t b))=O at *;generalize errZ (jag s a) (bval s a+ -(bval t b))=E at *;generalize -(bval t b)=yn at *;clear S2 F2 h2 en ha hb;go_enter Tryz.func95,Tryz.ntmps95
 go_wp2_with (first|(refine ZAL ?_;clear K r;intro W b K r)|(refine ZST ?_;clear K r;intro W K r))
 refine (HR2.out _ ZRD).mono ?_;rintro e W' ⟨rfl,hb⟩;replace K:=K.keep hb;clear r;have r:=K.rawS;clear hb;go_upto_region 3 with (first|(refine ZAL ?_;clear K r;intro W b K r)|(refine ZST ?_;clear K r;intro W K r))
 obtain ⟨RR,HR0⟩:=K.hide 48;go_cut [7,6] from 12 to 18 (fun e p wx=>∃g s8 A8 n8 c8 l8,e=.int .i64 E∧p=.pointer (some ⟨g,0,none⟩)∧Std s8 l8 (O)∧FrA w.heap.size A8∧RR g #[.int .i64 s8,.slice A8 n8 c8] A8 n8 c8 l8 wx)
 case first =>
  obtain ⟨g1,hg1,KA⟩:=K.newEx #[.int .i64 0,.slice none 0 0] 48;have rA:=KA.raw;have Kd:=K.drew;have KAd:=KA.drew;simp only [Raw,RawC,and_true,true_and,Nat.zero_add,Nat.reduceAdd] at rA
  go_region_with (first
   | (go_at_call 124;(with_reducible refine (HN0.out _ ?qn).mono ?_);(try case qn=>(first | with_reducible exact Kd.rd ZMB | with_reducible exact KAd.rd ZMB));skip;rintro e W ⟨s30,A30,n30,c30,l30,rfl,hr,hs30,hf,hb⟩;(first | with_reducible replace K:=Kd.ret hb hr hf | with_reducible replace K:=KAd.ret hb hr hf);clear r rA KA hr hf hb;have r:=K.raw;obtain ⟨g2,hg2,KA⟩:=K.newEx #[.int .i64 0,.slice none 0 0] 48;have rA:=KA.raw;simp only [Raw,RawC,and_true,true_and,Nat.zero_add,Nat.reduceAdd] at r rA)
   | (go_at_call 111;(with_reducible refine (HA0.out _ _ _ _ _ _ ?qa ?qb hs30).mono ?_);(case qa=>(first | with_reducible exact K.rd ZMB | with_reducible exact KA.rd ZMB));(case qb=>(first | with_reducible exact K.rd ZMB | with_reducible exact KA.rd ZMB));skip;rintro e W ⟨s31,A31,n31,c31,l31,rfl,hr,hs31,hf,hb⟩;have hf31:FrA w.heap.size A31:=(by first | with_reducible exact hf.mono K.bel.size | with_reducible exact hf.mono KA.bel.size);(first | with_reducible replace K:=K.ret hb hr hf | with_reducible replace K:=KA.ret hb hr hf);clear r rA KA hr hf hb;have r:=K.raw;have z:=K.rawz;simp only [Raw,RawC,RawZ,and_true,true_and,Nat.zero_add,Nat.reduceAdd] at r z))
  all_goals
   replace hs31:Std s31 l31 (O):=hs31;go_wp2_with fail;go_meet
   first
    | with_reducible exact ⟨_,s31,A31,n31,c31,l31,rfl,rfl,hs31,hf31,(HR0 _ _ _ _ _ _ _).2 (K.new #[.int .i64 s31,.slice A31 n31 c31] 48).skip2⟩
    | with_reducible exact ⟨_,s31,A31,n31,c31,l31,rfl,rfl,hs31,hf31,(HR0 _ _ _ _ _ _ _).2 (K.set2 (u:=.int .i64 s31) (v:=.slice A31 n31 c31) ZUP).skip2⟩
    | exact ⟨_,s31,A31,n31,c31,l31,rfl,rfl,hs31,hf31,(HR0 _ _ _ _ _ _ _).2 (K.new #[.int .i64 s31,.slice A31 n31 c31] 48).skip2⟩
    | exact ⟨_,s31,A31,n31,c31,l31,rfl,rfl,hs31,hf31,(HR0 _ _ _ _ _ _ _).2 (K.set2 (u:=.int .i64 s31) (v:=.slice A31 n31 c31) ZUP).skip2⟩
 case rest =>
 obtain ⟨gb6,s6,A6,n6,c6,l6,rfl,rfl,hs6,hf6,hk⟩:=hcut;replace K:=(HR0 _ _ _ _ _ _ _).1 hk;clear r hk HR0;have r:=K.rawS
 go_wp2_with (first|(refine ZAL ?_;clear K r;intro W b K r)|(refine ZST ?_;clear K r;intro W K r))
 have HE:=jmT (⟨s6,A6,n6,c6,l6,rfl,ZRD,hs6,hf6,K.1⟩:BigE w O E (.returned (.tuple #[.agg #[.int .i64 s6,.slice A6 n6 c6],.int .i64 E])) W);clear hs6 hf6;exact bodyPost_ret (v:=.tuple #[.agg #[.int .i64 s6,.slice A6 n6 c6],.int .i64 E]) (by simp [results,Tryz.results95,go_sem,r]) rfl HE.out
end Go.Proofs.YtdlcglndhhndpaaGreat
