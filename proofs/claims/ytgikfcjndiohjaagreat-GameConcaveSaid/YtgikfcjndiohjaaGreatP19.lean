/- Laws and walks; conditions stand in each theorem. -/
import Derived.Test.YtgikfcjndiohjaaGreatP13
import Derived.Test.YtgikfcjndiohjaaGreatP14
import Derived.Test.YtgikfcjndiohjaaGreatP17
import Derived.Test.YtgikfcjndiohjaaGreatP10
set_option linter.unusedSimpArgs false
set_option linter.unusedVariables false
set_option maxHeartbeats 2000000
set_option maxRecDepth 100000
namespace Go.Proofs.YtgikfcjndiohjaaGreat
open Go.RowKit
theorem jfw {x y:Rat}:cmpQ x y=0↔x=y:=by
 unfold cmpQ
 split
 ·grind
 ·split <;> grind
theorem jkY (x y:Rat):cmpQ y x= - cmpQ x y:=by
 unfold cmpQ
 split <;> split <;> grind
theorem jcm {x y:Rat}:cmpQ x y≤0↔x≤y:=by
 unfold cmpQ
 split
 ·grind
 ·split <;> grind
theorem jdG (a:Int):Rat.divInt a 1=(a:Rat):=by
 have h:=jbR (a:Rat)
 rw [Rat.num_intCast,Rat.den_intCast] at h
 exact h
theorem jce (p:Int) (w:World) (hp: -9223372036854775808≤p∧p≤9223372036854775807) :
 Calls Tryz.prog 105 #[.int .i64 p] w (FrV w (p:Rat)):=by
 have K:=St.start w
 have r:=K.raw
 have h:=fun W=>jjh p 1 W hp Zb4
 rw [jbk Zb4,jbj Zb4,jdG] at h
 have HO:=jpk h
 clear h hp
 generalize ((p:Int):Rat)=z at *
 go_enter Tryz.func105,Tryz.ntmps105
 go_wp2_with (first|(refine ZAL ?_;clear K r;intro W b K r)|(refine ZST ?_;clear K r;intro W K r))
 refine (HO.out _).mono ?_
 rintro e W' ⟨s7,A7,n7,c7,l7,t7,B7,m7,d7,k7,rfl,⟨hra,hrb⟩,ho,⟨hfa,hfb⟩,hb⟩
 have hf7:=jpk (hfa.mono K.1.size)
 have hg7:=jpk (hfb.mono K.1.size)
 replace K:=K.retF hb hra hrb hfa hfb
 clear r
 have r:=K.rawS
 clear hra hrb hfa hfb hb
 go_wp2_with (first|(refine ZAL ?_;clear K r;intro W b K r)|(refine ZST ?_;clear K r;intro W K r))
 have HE:=jpk (⟨s7,A7,n7,c7,l7,t7,B7,m7,d7,k7,rfl,⟨ZRD,ZRD⟩,ho,⟨hf7.out,hg7.out⟩,K.1⟩:FrV w z (.returned (.agg #[.int .i64 s7,.slice A7 n7 c7,.int .i64 t7,.slice B7 m7 d7])) W)
 clear ho
 exact bodyPost_ret (v:=.agg #[.int .i64 s7,.slice A7 n7 c7,.int .i64 t7,.slice B7 m7 d7]) (by simp [results,Tryz.results105,go_sem,r]) rfl HE.out
theorem jbc (w:World):Calls Tryz.prog 105 #[.int .i64 0] w (FrV w 0):=by
 have h:=jce 0 w Zb4
 rw [Rat.intCast_zero] at h
 exact h
def FrS (w0:World) (L:List Blk) (D:List Hl) (g:Rat→Prop) (e:Ending) (W':World):Prop :=
 ∃s A n c l t B m d k z,e=.returned (.agg #[.int .i64 s,.slice A n c,.int .i64 t,.slice B m d])∧(StdF s l t k z∧jaF z=true)∧g z∧St w0 L (⟨rdP B m d k,rdS B m⟩::⟨rdP A n c l,rdS A n⟩::D) W'
theorem Upd.mid {b:Nat} {cs cs':Array Value} {t:TypeId} {L L':List Blk} (cs1:Array Value) (h:Upd b cs t cs' L L'):∃L1,Upd b cs t cs1 L L1∧Upd b cs1 t cs' L1 L':=by
 induction h with
 | head L=>exact ⟨_,.head L,.head L⟩
 | tail x h ih =>
  obtain ⟨L1,h1,h2⟩:=ih
  exact ⟨_,.tail x h1,.tail x h2⟩
theorem jeS {b b':Bool} {R:List Value}:(Value.bool b::R).toArray.setIfInBounds 0 (.bool b')=(Value.bool b'::R).toArray:=by simp
theorem jeR {b:Bool} {R:List Value}:0<(Value.bool b::R).toArray.size:=by simp
theorem jnR (w0 W:World) (L L':List Blk) (D:List Hl) (mb:Nat) (b b':Bool) (R:List Value) (T:TypeId) (er:Int) (s t:Int) (A1 B1:Option Addr) (n1 c1 m1 d1:Nat) (l1 k1:List Int) (q:Rat)
 (K:St w0 L (⟨rdP B1 m1 d1 k1,rdS B1 m1⟩::⟨rdP A1 n1 c1 l1,rdS A1 n1⟩::D) W) (hq:er=0→StdF s l1 t k1 q∧jaF q=true) (hb:b'=(b||er !=0)) (hU:Upd mb (Value.bool b::R).toArray T (Value.bool b'::R).toArray L L') :
 Calls Tryz.prog 113 #[.pointer (some ⟨mb,0,none⟩),.agg #[.int .i64 s,.slice A1 n1 c1,.int .i64 t,.slice B1 m1 d1],.int .i64 er] W (FrS w0 L' D fun z=>er=0→z=q):=by
 have HU:=jpk hU
 have HZ:=jpk jbc
 have r:=K.raw
 clear hU
 subst hb
 obtain ⟨G,hG⟩:∃G:Rat→Prop,(fun z=>er=0→z=q)=G:=⟨_,rfl⟩
 have g1:er=0→G q:=fun _=>by rw [←hG];exact fun _=>rfl
 have g2:er≠0→∀z,G z:=fun h z=>by rw [←hG];exact fun e=>absurd e h
 rw [hG]
 clear hG
 by_cases h0:er=0
 ·subst h0
  have HG:=jpk (g1 rfl)
  clear g1 g2
  have HQ:=jpk (hq rfl)
  have hu:Upd mb (Value.bool b::R).toArray T (Value.bool b::R).toArray L L':=by
   have:=HU.out
   simpa using this
  have hL:L'=L:=by
   clear HU HZ r K
   revert hu
   generalize (Value.bool b::R).toArray=cs
   intro hu
   induction hu with
   | head L=>rfl
   | tail x h ih=>rw [ih]
  subst hL
  clear hq HU hu
  go_enter Tryz.func113,Tryz.ntmps113
  go_wp2_with (first|((first|(apply K.alloc;rfl;rfl;exact jbh)|(apply K.box;rfl;rfl;rfl));clear K r;intro W b K;have r:=K.rawS)|(apply K.storeA;rfl;rfl;rfl;rfl;rfl;(exact ZUP);exact jar;rfl;rfl;rfl;clear K r;intro W K;have r:=K.rawS)|(apply K.storeB;rfl;rfl;rfl;rfl;rfl;(repeat (with_reducible apply Upd.tail));exact HU.out;exact jeS;exact jdU;exact jeR;clear K r;intro W K;have r:=K.rawS))
  have HE:=jpk (⟨s,A1,n1,c1,l1,t,B1,m1,d1,k1,q,rfl,HQ.out,HG.out,K.part (List.sublist_append_right [_,_] L')⟩:FrS w0 L' D G (.returned (.agg #[.int .i64 s,.slice A1 n1 c1,.int .i64 t,.slice B1 m1 d1])) _)
  exact bodyPost_ret (v:=.agg #[.int .i64 s,.slice A1 n1 c1,.int .i64 t,.slice B1 m1 d1]) (by simp [results,Tryz.results113,go_sem,r]) rfl HE.out
 ·have hx:(er !=0)=true:=by simpa using h0
  have HG:=jpk (g2 h0)
  clear g1 g2
  rw [hx,Bool.or_true] at HU
  clear hq h0
  go_enter Tryz.func113,Tryz.ntmps113
  go_wp2_with (first|((first|(apply K.alloc;rfl;rfl;exact jbh)|(apply K.box;rfl;rfl;rfl));clear K r;intro W b K;have r:=K.rawS)|(apply K.storeA;rfl;rfl;rfl;rfl;rfl;(exact ZUP);exact jar;rfl;rfl;rfl;clear K r;intro W K;have r:=K.rawS)|(apply K.storeB;rfl;rfl;rfl;rfl;rfl;(repeat (with_reducible apply Upd.tail));exact HU.out;exact jeS;exact jdU;exact jeR;clear K r;intro W K;have r:=K.rawS))
  refine (HZ.out _).mono ?_
  rintro e W' ⟨s7,A7,n7,c7,l7,t7,B7,m7,d7,k7,rfl,⟨hra,hrb⟩,ho,⟨hfa,hfb⟩,hb⟩
  have hf7:=jpk (hfa.mono K.1.size)
  have hg7:=jpk (hfb.mono K.1.size)
  replace K:=K.retF hb hra hrb hfa hfb
  clear r
  have r:=K.rawS
  clear hra hrb hfa hfb hb
  clear hf7 hg7
  go_wp2_with (first|((first|(apply K.alloc;rfl;rfl;exact jbh)|(apply K.box;rfl;rfl;rfl));clear K r;intro W b K;have r:=K.rawS)|(apply K.storeA;rfl;rfl;rfl;rfl;rfl;(exact ZUP);exact jar;rfl;rfl;rfl;clear K r;intro W K;have r:=K.rawS)|(apply K.storeB;rfl;rfl;rfl;rfl;rfl;(repeat (with_reducible apply Upd.tail));exact HU.out;exact jeS;exact jdU;exact jeR;clear K r;intro W K;have r:=K.rawS))
  have HE:=jpk (⟨s7,A7,n7,c7,l7,t7,B7,m7,d7,k7,0,rfl,⟨ho,jbe⟩,HG.out 0,(K.part (List.sublist_append_right [_,_] L')).less fun x hx=>by
   simp only [List.mem_cons] at hx ⊢
   rcases hx with h|h|h
   ·exact Or.inl h
   ·exact Or.inr (Or.inl h)
   ·exact Or.inr (Or.inr (Or.inr (Or.inr h)))⟩:FrS w0 L' D G (.returned (.agg #[.int .i64 s7,.slice A7 n7 c7,.int .i64 t7,.slice B7 m7 d7])) _)
  exact bodyPost_ret (v:=.agg #[.int .i64 s7,.slice A7 n7 c7,.int .i64 t7,.slice B7 m7 d7]) (by simp [results,Tryz.results113,go_sem,r]) rfl HE.out
theorem jjc (s:Int) (A:Option Addr) (n cap:Nat) (w:World) :
 Calls Tryz.prog 117 #[.agg #[.int .i64 s,.slice A n cap]] w fun e w'=>e=.returned (.tuple #[if true=true∧n≤60 then .agg #[.int .i64 s,.slice A n cap] else .agg #[.int .i64 0,.slice none 0 0],.int .i64 (ckE true n)])∧Below w.heap.size w w':=by
 have K:=St.start w
 have r:=K.raw
 by_cases hn:n≤60
 ·have e1:ckE true n=0:=by unfold ckE;rw [if_neg Zb0,if_neg ZO]
  have hd:decide ((60:Int)<(n:Int))=false:=by simp;omega
  rw [e1,if_pos ⟨rfl,hn⟩]
  clear e1 hn
  go_enter Tryz.func117,Tryz.ntmps117
  go_wp2_with (first|(refine ZAL ?_;clear K r;intro W b K r)|(refine ZST ?_;clear K r;intro W K r))
  exact bodyPost_ret (v:=.tuple #[.agg #[.int .i64 s,.slice A n cap],.int .i64 0]) (by simp [results,Tryz.results117,go_sem,r]) rfl ⟨rfl,K.1⟩
 ·have e1:ckE true n=6:=by unfold ckE;rw [if_neg Zb0,if_pos ZO]
  have hd:decide ((60:Int)<(n:Int))=true:=by simp;omega
  rw [e1,if_neg (by intro h;exact hn h.2)]
  clear e1 hn
  go_enter Tryz.func117,Tryz.ntmps117
  go_wp2_with (first|(refine ZAL ?_;clear K r;intro W b K r)|(refine ZST ?_;clear K r;intro W K r))
  exact bodyPost_ret (v:=.tuple #[.agg #[.int .i64 0,.slice none 0 0],.int .i64 6]) (by simp [results,Tryz.results117,go_sem,r]) rfl ⟨rfl,K.1⟩
theorem jm4 (s:Int) (A:Option Addr) (n cap:Nat) (l:List Int) (z:Int) (w:World) (hl:RdI w w.heap.size A n cap l) (hz:Std s l z):Calls Tryz.prog 117 #[.agg #[.int .i64 s,.slice A n cap]] w (ChkR w A (resZ true z) (errZ true z)) :=
 (jjc s A n cap w).mono fun e w' ⟨he,hb⟩=>by
  have hlen:=hz.len
  rw [hl.len] at hlen
  have he1:ckE true n=errZ true z:=by
   unfold ckE errZ
   exact ZQ92
  rw [he1] at he
  by_cases h:n≤60
  ·rw [if_pos ⟨rfl,h⟩] at he
   refine ⟨s,A,n,cap,l,he,hl.up (jab _) hb,?_,fun _ h=>h,hb⟩
   rw [resZ,if_pos ⟨rfl,hlen.1 h⟩]
   exact hz
  ·rw [if_neg (fun h1=>h h1.2)] at he
   refine ⟨0,none,0,0,[],he,Rd.nil,?_,fun _ _=>FrA.none,hb⟩
   rw [resZ,if_neg (fun h1=>h (hlen.2 h1.2))]
   exact Std.zero
theorem jnE {s:Int} {a b:List Int} (ha:jae s a=true) (hb:jae s b=true) (hne:a≠b):cmpB s a s b=if (decide (val a<val b)==decide (0<s))=true then -1 else 1:=by
 have h:cmpB s a s b=cmpI (bval s a) (bval s b):=if_pos ⟨ha,hb⟩
 rw [h,jdX ha hb]
 obtain ⟨a1,a2,a3⟩:=jah ha
 obtain ⟨b1,b2,b3⟩:=jah hb
 have hv:val a≠val b:=fun e=>hne (a1.unique b1 e)
 have hs:s=1∨s= -1:=by
  rcases a3 with ⟨rfl,rfl⟩|⟨h1,h2⟩
  ·rcases b3 with ⟨rfl,_⟩|⟨_,h2⟩
   ·exact absurd rfl hne
   ·omega
  ·exact h2
 by_cases h1:val a<val b
 ·rw [ja9 h1,decide_eq_true h1]
  rcases hs with rfl|rfl <;> rfl
 ·rw [jbm ZO,decide_eq_false h1]
  rcases hs with rfl|rfl <;> rfl
theorem jfy (s t:Int) (A A2:Option Addr) (n cap n2 cap2:Nat) (a b:List Int) (w:World) (ha:RdI w w.heap.size A n cap a) (hb:RdI w w.heap.size A2 n2 cap2 b) :
 Calls Tryz.prog 85 #[.agg #[.int .i64 s,.slice A n cap],.agg #[.int .i64 t,.slice A2 n2 cap2]] w fun e w'=>e=.returned (.int .i64 (cmpB s a t b))∧Below w.heap.size w w':=by
 have K:=((St.start w).oldRd ha).oldRd hb
 have r:=K.raw
 have HR1:=jpk (fun W h=>jaG s A n cap a W h)
 have HR2:=jpk (fun W h=>jaG t A2 n2 cap2 b W h)
 have HS:=jpk (fun W h h2=>jjd s t A A2 n cap n2 cap2 a b W h h2)
 clear ha hb
 cases h1:jae s a
 ·have hC:cmpB s a t b=0:=by unfold cmpB;rw [h1,if_neg Zb0]
  rw [h1] at HR1
  rw [hC]
  clear h1 hC
  go_enter Tryz.func85,Tryz.ntmps85
  go_wp2_with (first|(refine ZAL ?_;clear K r;(first|((fail_if_success revert b0);intro W b0 K r)|((fail_if_success revert b1);intro W b1 K r)|((fail_if_success revert b2);intro W b2 K r)|((fail_if_success revert b3);intro W b3 K r)|intro W b K r))|(refine ZST ?_;clear K r;intro W K r))
  refine (HR1.out _ ZRD).mono ?_
  exact ZQ21
 cases h2:jae t b
 ·have hC:cmpB s a t b=0:=by unfold cmpB;rw [h1,h2,if_neg Zb0]
  rw [h1] at HR1
  rw [h2] at HR2
  rw [hC]
  clear h1 h2 hC
  go_enter Tryz.func85,Tryz.ntmps85
  go_wp2_with (first|(refine ZAL ?_;clear K r;(first|((fail_if_success revert b0);intro W b0 K r)|((fail_if_success revert b1);intro W b1 K r)|((fail_if_success revert b2);intro W b2 K r)|((fail_if_success revert b3);intro W b3 K r)|intro W b K r))|(refine ZST ?_;clear K r;intro W K r))
  refine (HR1.out _ ZRD).mono ?_
  rintro e W' ⟨rfl,hb⟩
  replace K:=K.keep hb
  clear r
  have r:=K.rawS
  clear hb
  go_wp2_with (first|(refine ZAL ?_;clear K r;(first|((fail_if_success revert b0);intro W b0 K r)|((fail_if_success revert b1);intro W b1 K r)|((fail_if_success revert b2);intro W b2 K r)|((fail_if_success revert b3);intro W b3 K r)|intro W b K r))|(refine ZST ?_;clear K r;intro W K r))
  refine (HR2.out _ ZRD).mono ?_
  exact ZQ21
 rw [h1] at HR1
 rw [h2] at HR2
 cases h3:jbu s a t b
 case true =>
  have hC:cmpB s a t b=0:=by
   unfold jbu at h3
   obtain ⟨rfl,rfl⟩:=of_decide_eq_true h3
   unfold cmpB;rw [h1,if_pos ⟨rfl,rfl⟩,jf5]
  rw [h3] at HS
  rw [hC]
  clear h1 h2 h3 hC
  exact ZQ16
 rw [h3] at HS
 by_cases hst:s=t
 case neg =>
  have hd:(s !=t)=true:=by simp [hst]
  have hC:cmpB s a t b=cmpI s t:=by
   rw [←jes h1 h2 hst];exact if_pos ⟨h1,h2⟩
  rw [hC]
  clear h1 h2 h3 hC
  by_cases hlt:s<t
  ·have hd2:decide (s<t)=true:=decide_eq_true hlt
   rw [ja9 hlt]
   clear hlt hst
   exact ZQ16
  ·have hd2:decide (s<t)=false:=decide_eq_false hlt
   rw [jbm ZO]
   clear hlt hst
   exact ZQ16
 subst hst
 have hd:(s !=s)=false:=by simp
 have hC:=jnE h1 h2 (fun e=>by unfold jbu at h3;exact (of_decide_eq_false h3) ⟨rfl,e⟩)
 rw [hC]
 obtain ⟨da,-,-⟩:=jah h1
 obtain ⟨db,-,-⟩:=jah h2
 have HL:=jpk (fun W h h'=>jdZ A A2 n cap n2 cap2 a b W h h' da.1 db.1)
 obtain ⟨L,hL⟩:∃L,L=decide (val a<val b):=⟨_,rfl⟩
 rw [←hL] at HL ⊢
 clear h1 h2 h3 hC da db hL
 obtain ⟨P,hP⟩:∃P,decide (0<s)=P:=⟨_,rfl⟩
 rw [hP]
 go_enter Tryz.func85,Tryz.ntmps85
 go_wp2_with (first|(refine ZAL ?_;clear K r;(first|((fail_if_success revert b0);intro W b0 K r)|((fail_if_success revert b1);intro W b1 K r)|((fail_if_success revert b2);intro W b2 K r)|((fail_if_success revert b3);intro W b3 K r)|intro W b K r))|(refine ZST ?_;clear K r;intro W K r))
 refine (HR1.out _ ZRD).mono ?_
 rintro e W' ⟨rfl,hb⟩
 replace K:=K.keep hb
 clear r
 have r:=K.rawS
 clear hb
 go_wp2_with (first|(refine ZAL ?_;clear K r;(first|((fail_if_success revert b0);intro W b0 K r)|((fail_if_success revert b1);intro W b1 K r)|((fail_if_success revert b2);intro W b2 K r)|((fail_if_success revert b3);intro W b3 K r)|intro W b K r))|(refine ZST ?_;clear K r;intro W K r))
 refine (HR2.out _ ZRD).mono ?_
 rintro e W' ⟨rfl,hb⟩
 replace K:=K.keep hb
 clear r
 have r:=K.rawS
 clear hb
 go_wp2_with (first|(refine ZAL ?_;clear K r;(first|((fail_if_success revert b0);intro W b0 K r)|((fail_if_success revert b1);intro W b1 K r)|((fail_if_success revert b2);intro W b2 K r)|((fail_if_success revert b3);intro W b3 K r)|intro W b K r))|(refine ZST ?_;clear K r;intro W K r))
 refine (HS.out _ ZRD ZRD).mono ?_
 rintro e W' ⟨rfl,hb⟩
 replace K:=K.keep hb
 clear r
 have r:=K.rawS
 clear hb
 have HQ:=jpk (fun q=>(HL.out (W'.drewN q) ((K.drewN q).rd ZMB) ((K.drewN q).rd ZMB)).mono fun e w'' ⟨h1,h2⟩=>(⟨h1,q,h2.symm⟩:e=Ending.returned (.bool L)∧∃m,w''=W'.drewN m))
 go_wp2_with (first|(refine ZAL ?_;clear K r;(first|((fail_if_success revert b0);intro W b0 K r)|((fail_if_success revert b1);intro W b1 K r)|((fail_if_success revert b2);intro W b2 K r)|((fail_if_success revert b3);intro W b3 K r)|intro W b K r))|(refine ZST ?_;clear K r;intro W K r))
 go_quiet ((go_at_call 120;exact HQ.out _))
 cases L <;> cases P
 all_goals
  go_wp2
  go_ret
  exact ⟨rfl,(K.drewN _).1⟩
theorem jf9 (n:Int) (w:World) (hn: -9223372036854775808≤n∧n≤9223372036854775807) :
 Calls Tryz.prog 58 #[.int .i64 n] w (BigR w n):=by
 obtain ⟨i0,hi0,hz0,hz1,hz2⟩:=jaN jbf
 have K:=St.start w
 have r:=K.raw
 by_cases h0:n=0
 ·subst h0
  have HE:=jpk (fun W (h:Below w.heap.size w W)=>show BigR w 0 (.returned (.agg #[.int .i64 0,.slice none 0 0])) W from ⟨0,none,0,0,[],rfl,Rd.nil,Std.zero,FrA.none,h⟩)
  go_enter Tryz.func58,Tryz.ntmps58
  go_wp2_with (first|(refine ZAL ?_;clear K r;intro W b K r)|(refine ZST ?_;clear K r;intro W K r))
  exact bodyPost_ret (v:=.agg #[.int .i64 0,.slice none 0 0]) (by simp [results,Tryz.results58,go_sem,r]) rfl (HE.out _ K.1)
 have hd0:(n==0)=false:=by simp [h0]
 have HI0:OfI n.natAbs [] n.natAbs:=by unfold OfI;simp
 have HI0:=jpk HI0
 have HN:=jpk (show n.natAbs≤9223372036854775808 by omega)
 have HV:=jpk (show (if n<0 then (-1:Int) else 1)*val (digs n.natAbs)=n from by rw [jau];split <;> omega)
 by_cases hneg:n<0
 ·have hd:decide (n<0)=true:=decide_eq_true hneg
  have HX:=jpk (show n= -(n.natAbs:Int) by omega)
  rw [if_pos hneg] at HV
  clear hneg h0
  obtain ⟨N,hN⟩:∃N,N=n.natAbs:=⟨_,rfl⟩
  rw [←hN] at HI0 HN HV HX
  clear hN
  go_enter Tryz.func58,Tryz.ntmps58
  go_wp2_with (first|(refine ZAL ?_;clear K r;intro W b K r)|(refine ZST ?_;clear K r;intro W K r))
  go_loopg [0,4] N (fun gk nv lv wr=>∃(l:List Int) (u:Nat),nv=.int .i64 (-(u:Int))∧Own 1 iEnc wr W.heap.size 3 lv l∧OfI N l u∧u≤N∧gk=u∧Below W.heap.size W wr)
  case atStart=>exact ⟨[],N,by rw [←HX.out],Own.nil,HI0.out,Nat.le_refl _,rfl,Below.refl _ _⟩
  case round =>
   obtain ⟨l,u,rfl,ho,hI,hu,rfl,hb⟩:=hrel
   have HI:=jpk hI
   have hl4:=hI.len (Nat.le_trans HN.out ZO)
   have hub:=HN.out
   clear hI
   rcases Nat.eq_zero_or_pos gk with h0|h0
   ·subst h0
    have hd2:(-((0:Nat):Int) !=0)=false:=rfl
    have hl:=HI.out.fin
    subst hl
    obtain ⟨A,cap,rfl,hr⟩:=ho.rd jap ZO
    have hA:=ho.fr rfl
    have HM:=jpk (ja5 (-1) A _ cap _ n wr hr ZO (jat N).1 Zb8 HV.out)
    exact ZQ36
   ·have hd2:(-(gk:Int) !=0)=true:=by simp;omega
    have HNx:=jpk (HI.out.step h0)
    have hsz:=hb.size
    obtain ⟨m,hm0⟩:∃m,m=gk%1048576:=⟨_,rfl⟩
    have hmd:(-(gk:Int)).tmod 1048576= -(m:Int):=by rw [Int.neg_tmod,Int.tmod_eq_emod_of_nonneg ZO,hm0];rfl
    have hqd:(-(gk:Int)).tdiv 1048576= -((gk / 1048576:Nat):Int):=by rw [Int.neg_tdiv,Int.tdiv_eq_ediv_of_nonneg ZO];rfl
    have hmb:m<1048576:=by omega
    rw [←hm0] at HNx
    clear hm0
    rcases Nat.eq_zero_or_pos m with hm1|hm1
    ·subst hm1
     have hd3:decide (-((0:Nat):Int)<0)=false:=rfl
     go_wp2_with (at_builtin
                  refine jbd jap rfl _ _ 22 rfl W.heap.size 3 i0 _ 8 Tryz.underlying22 hi0 hz0 hz1 hz2 rfl _ l rfl ho ((-((0:Nat):Int))) _ rfl wr.heap.size rfl rfl ZO ZO hsz ?_
                  intro v4 w4 ho4 hk4 hn4 hB4
                  have hb4:=hB4 _ _ (Nat.le_refl _) hb)
     go_roundg (gk / 1048576)
     case rel=>exact ⟨_,gk / 1048576,rfl,ho4,HNx.out,by omega,rfl,hb4⟩
     case measure=>omega
    ·have hd3:decide (-(m:Int)<0)=true:=decide_eq_true ZO
     have hw:IntKind.i64.wrap (-(-(m:Int)))=(m:Int):=by rw [Int.neg_neg];exact IntWalk.i64_in _ ZO
     have hw2:IntKind.i64.wrap (m:Int)=(m:Int):=IntWalk.i64_in _ ZO
     exact ZQ51
 ·have hd:decide (n<0)=false:=decide_eq_false hneg
  have HX:=jpk (show n=(n.natAbs:Int) by omega)
  rw [if_neg hneg] at HV
  clear hneg h0
  obtain ⟨N,hN⟩:∃N,N=n.natAbs:=⟨_,rfl⟩
  rw [←hN] at HI0 HN HV HX
  clear hN
  go_enter Tryz.func58,Tryz.ntmps58
  go_wp2_with (first|(refine ZAL ?_;clear K r;intro W b K r)|(refine ZST ?_;clear K r;intro W K r))
  go_loopg [0,4] N (fun gk nv lv wr=>∃(l:List Int) (u:Nat),nv=.int .i64 (u:Int)∧Own 1 iEnc wr W.heap.size 3 lv l∧OfI N l u∧u≤N∧gk=u∧Below W.heap.size W wr)
  case atStart=>exact ⟨[],N,by rw [←HX.out],Own.nil,HI0.out,Nat.le_refl _,rfl,Below.refl _ _⟩
  case round =>
   obtain ⟨l,u,rfl,ho,hI,hu,rfl,hb⟩:=hrel
   have HI:=jpk hI
   have hl4:=hI.len (Nat.le_trans HN.out ZO)
   have hub:=HN.out
   clear hI
   rcases Nat.eq_zero_or_pos gk with h0|h0
   ·subst h0
    have hd2:(((0:Nat):Int) !=0)=false:=rfl
    have hl:=HI.out.fin
    subst hl
    obtain ⟨A,cap,rfl,hr⟩:=ho.rd jap ZO
    have hA:=ho.fr rfl
    have HM:=jpk (ja5 1 A _ cap _ n wr hr ZO (jat N).1 Zb8 HV.out)
    exact ZQ36
   ·have hd2:((gk:Int) !=0)=true:=by simp;omega
    have HNx:=jpk (HI.out.step h0)
    have hsz:=hb.size
    obtain ⟨m,hm0⟩:∃m,m=gk%1048576:=⟨_,rfl⟩
    have hmd:((gk:Int)).tmod 1048576=(m:Int):=by rw [Int.tmod_eq_emod_of_nonneg ZO,hm0];rfl
    have hqd:((gk:Int)).tdiv 1048576=((gk / 1048576:Nat):Int):=by rw [Int.tdiv_eq_ediv_of_nonneg ZO];rfl
    have hmb:m<1048576:=by omega
    rw [←hm0] at HNx
    clear hm0
    have hd3:decide ((m:Int)<0)=false:=decide_eq_false ZO
    exact ZQ51
section
variable (x y:Int) (s:Int) (A:Option Addr) (n cap:Nat) (l:List Int) (t:Int) (A':Option Addr) (n' cap':Nat) (m:List Int) (W:World)
variable (hl:RdI W W.heap.size A n cap l) (hm:RdI W W.heap.size A' n' cap' m) (h1:Std s l x) (h2:Std t m y) (f1:fits x=true) (f2:fits y=true)
include hl hm h1 h2 f1 f2
theorem uGcd:Calls Tryz.prog 84 #[.agg #[.int .i64 s,.slice A n cap],.agg #[.int .i64 t,.slice A' n' cap']] W (BigE W (Int.gcd x y:Int) 0):=by
 have h:=jgJ s t A A' n cap n' cap' l m W hl hm
 exact ZQ96
theorem uDiv (hy:y≠0):Calls Tryz.prog 102 #[.agg #[.int .i64 s,.slice A n cap],.agg #[.int .i64 t,.slice A' n' cap']] W (jb0 W (fq x y) (fr x y) 0):=by
 have h:=jk6 s t A A' n cap n' cap' l m W hl hm
 exact ZQ86
theorem jhg:Calls Tryz.prog 85 #[.agg #[.int .i64 s,.slice A n cap],.agg #[.int .i64 t,.slice A' n' cap']] W fun e w'=>e=.returned (.int .i64 (cmpI x y))∧Below W.heap.size W w':=by
 have h:=jfy s t A A' n cap n' cap' l m W hl hm
 exact ZQ128
end
theorem uNeg (x:Int) (s:Int) (A:Option Addr) (n cap:Nat) (l:List Int) (W:World) (hl:RdI W W.heap.size A n cap l) (h1:Std s l x) (f1:fits x=true):Calls Tryz.prog 101 #[.agg #[.int .i64 s,.slice A n cap]] W (BigR W (-x)):=by
 have h:=jk8 s A n cap l W hl
 have e:negZ s l= -x:=by
  unfold negZ
  rw [if_pos (h1.right f1),h1.val]
 rw [e] at h
 exact h
theorem jby (s t:Int) (A A':Option Addr) (n cap n' cap':Nat) (l m:List Int) (w:World) (hl:RdI w w.heap.size A n cap l) (hm:RdI w w.heap.size A' n' cap' m) :
 Calls Tryz.prog 45 #[.agg #[.int .i64 s,.slice A n cap,.int .i64 t,.slice A' n' cap']] w fun e w'=>e=.returned (.bool (jam s l t m))∧Below w.heap.size w w':=by
 have K:=((St.start w).oldRd hl).oldRd hm
 have r:=K.raw
 have HR1:=jpk (fun W h=>jaG s A n cap l W h)
 have HR2:=jpk (fun W h=>jaG t A' n' cap' m W h)
 have hF:¬(jae s l=true∧jae t m=true∧t=1)→jam s l t m=false:=fun h=>by
  cases hr:jam s l t m
  ·rfl
  ·obtain ⟨h1,h2,h3,-⟩:=jcQ.1 hr
   exact absurd ⟨h1,h2,h3⟩ h
 cases h1:jae s l
 ·rw [hF (by simp [h1])]
  rw [h1] at HR1
  clear hF h1
  go_enter Tryz.func45,Tryz.ntmps45
  go_wp2_with (first|(refine ZAL ?_;clear K r;intro W b K r)|(refine ZST ?_;clear K r;intro W K r))
  refine (HR1.out _ ZRD).mono ?_
  exact ZQ21
 cases h2:jae t m
 ·rw [hF (by simp [h2])]
  rw [h1] at HR1
  rw [h2] at HR2
  clear hF h1 h2
  go_enter Tryz.func45,Tryz.ntmps45
  go_wp2_with (first|(refine ZAL ?_;clear K r;intro W b K r)|(refine ZST ?_;clear K r;intro W K r))
  refine (HR1.out _ ZRD).mono ?_
  rintro e W' ⟨rfl,hb⟩
  replace K:=K.keep hb
  clear r
  have r:=K.rawS
  clear hb
  go_wp2_with (first|(refine ZAL ?_;clear K r;intro W b K r)|(refine ZST ?_;clear K r;intro W K r))
  refine (HR2.out _ ZRD).mono ?_
  exact ZQ21
 rw [h1] at HR1
 rw [h2] at HR2
 by_cases ht:t=1
 case neg =>
  have hd:decide (t<1)=true:=decide_eq_true (by rcases (jah h2).2.2 with ⟨-,h⟩|⟨-,h|h⟩ <;> omega)
  rw [hF (fun h=>ht h.2.2)]
  clear hF h1 h2 ht
  go_enter Tryz.func45,Tryz.ntmps45
  go_wp2_with (first|(refine ZAL ?_;clear K r;intro W b K r)|(refine ZST ?_;clear K r;intro W K r))
  refine (HR1.out _ ZRD).mono ?_
  rintro e W' ⟨rfl,hb⟩
  replace K:=K.keep hb
  clear r
  have r:=K.rawS
  clear hb
  go_wp2_with (first|(refine ZAL ?_;clear K r;intro W b K r)|(refine ZST ?_;clear K r;intro W K r))
  refine (HR2.out _ ZRD).mono ?_
  exact ZQ21
 have hd:decide (t<1)=false:=decide_eq_false ZO
 have hp:=jdy h2 ht
 have HG:=jpk (jgJ s t A A' n cap n' cap' l m)
 have hG:gcdZ (jae s l&&jae t m) (bval s l) (bval t m)=(Int.gcd (bval s l) (bval t m):Int):=by rw [h1,h2];unfold gcdZ;simp
 have hE:okE (jae s l&&jae t m)=0:=by rw [h1,h2];rfl
 rw [hG,hE] at HG
 have hO:jam s l t m=(cmpI (Int.gcd (bval s l) (bval t m):Int) 1==0):=by
  have h3:(cmpI (Int.gcd (bval s l) (bval t m):Int) 1==0)=decide ((Int.gcd (bval s l) (bval t m):Int)=1):=by
   by_cases h:(Int.gcd (bval s l) (bval t m):Int)=1
   ·rw [h,jf5];rfl
   ·have h4:cmpI (Int.gcd (bval s l) (bval t m):Int) 1≠0:=fun e=>h (jdY.1 e)
    rw [decide_eq_false h];simp [h4]
  rw [h3]
  unfold jam
  rw [h1,h2,decide_eq_true ht]
  simp only [Bool.true_and]
  exact decide_eq_decide.2 ZO
 have HOf:=jpk (fun W=>jf9 1 W ZO)
 have HCm:=jpk (fun s1 A1 n1 cap1 l1 t2 A2 n2 cap2 m2 W hl hm e1 e2=>jhg (Int.gcd (bval s l) (bval t m):Int) 1 s1 A1 n1 cap1 l1 t2 A2 n2 cap2 m2 W hl hm e1 e2 (jcG ZO (jaU h2)) (jbM Zb0))
 have HO:=jpk hO
 clear hO
 generalize cmpI (Int.gcd (bval s l) (bval t m):Int) 1=C at *
 generalize jam s l t m=RF at *
 generalize (Int.gcd (bval s l) (bval t m):Int)=G at *
 clear hF h1 h2 ht hp hG hE
 go_enter Tryz.func45,Tryz.ntmps45
 go_wp2_with (first|(refine ZAL ?_;clear K r;intro W b K r)|(refine ZST ?_;clear K r;intro W K r))
 refine (HR1.out _ ZRD).mono ?_
 rintro e W' ⟨rfl,hb⟩
 replace K:=K.keep hb
 clear r
 have r:=K.rawS
 clear hb
 go_wp2_with (first|(refine ZAL ?_;clear K r;intro W b K r)|(refine ZST ?_;clear K r;intro W K r))
 refine (HR2.out _ ZRD).mono ?_
 rintro e W' ⟨rfl,hb⟩
 replace K:=K.keep hb
 clear r
 have r:=K.rawS
 clear hb
 go_wp2_with (first|(refine ZAL ?_;clear K r;intro W b K r)|(refine ZST ?_;clear K r;intro W K r))
 refine (HG.out _ ZRD ZRD).mono ?_
 rintro e W' ⟨s1,A1,n1,c1,l1,rfl,hr,hs1,hf,hb⟩
 have hf1:=jpk (hf.mono K.1.size)
 replace K:=K.ret hb hr hf
 clear r
 have r:=K.rawS
 clear hr hf hb
 go_upto_region 4 with (first|(refine ZAL ?_;clear K r;intro W b K r)|(refine ZST ?_;clear K r;intro W K r))
 have Kd:=K.drew
 go_region_with (first
  | (go_at_call 58;(with_reducible refine (HOf.out _).mono ?_);rintro e W ⟨s2,A2,n2,c2,l2,rfl,hr,hs2,hf,hb⟩;(first | (replace K:=K.ret hb hr hf) | (replace K:=Kd.ret hb hr hf));clear r hr hf hb;have r:=K.rawS)
  | (go_at_call 85;(with_reducible refine (HCm.out _ _ _ _ _ _ _ _ _ _ _ ZRD ZRD hs1 hs2).mono ?_);rintro e W ⟨rfl,hb⟩;replace K:=K.keep hb;clear r hb;have r:=K.rawS))
 all_goals
  clear hs1 hs2
  go_wp2
  go_ret
  exact ⟨by rw [HO.out];rfl,K.1⟩
end Go.Proofs.YtgikfcjndiohjaaGreat
