/- Laws and walks; conditions stand in each theorem. -/
import Derived.Test.YtdlcglndhhndpaaGreatP40
set_option linter.unusedSimpArgs false
set_option linter.unusedVariables false
set_option maxHeartbeats 4000000
set_option maxRecDepth 100000
namespace Go.Proofs.YtdlcglndhhndpaaGreat
open Go.RowKit
theorem Upd.idem {b:Nat} {cs:Array Value} {t:TypeId} {L L':List Blk} (h:Upd b cs t cs L L'):L'=L:=by
 generalize e:cs=cs' at h
 induction h with
 | head L=>rfl
 | tail x h ih=>rw [ih]
def FrD (w0:World) (L:List Blk) (D:List Hl) (z:Rat) (e:Ending) (W':World):Prop:=∃y:Rw,e=.returned (.agg #[.int .i64 y.s,.slice y.A y.n y.c,.int .i64 y.t,.slice y.B y.m y.d])∧Hid (isQ y z)∧St w0 L (⟨rdP y.B y.m y.d y.k,rdS y.B y.m⟩::⟨rdP y.A y.n y.c y.l,rdS y.A y.n⟩::D) W'
theorem jfR (w0 W:World) (L L':List Blk) (D:List Hl) (db:Nat) (v0 v1 v2 v3 v4:Value) (b b':Bool) (Y Z:Rw) (f q:Rat) (K:St w0 L D W) (hU:Upd db #[v0,v1,v2,v3,v4,.bool b] 98 #[v0,v1,v2,v3,v4,.bool b'] L L') (hY:isQ Y f) (hZ:isQ Z q) (h0:q≠0) (mY1:(⟨rdP Y.A Y.n Y.c Y.l,rdS Y.A Y.n⟩:Hl)∈D) (mY2:(⟨rdP Y.B Y.m Y.d Y.k,rdS Y.B Y.m⟩:Hl)∈D) (mZ1:(⟨rdP Z.A Z.n Z.c Z.l,rdS Z.A Z.n⟩:Hl)∈D) (mZ2:(⟨rdP Z.B Z.m Z.d Z.k,rdS Z.B Z.m⟩:Hl)∈D) (hb:b'=(b|| !divK f q)) :
 Calls Tryz.prog 152 #[.pointer (some ⟨db,0,none⟩),.agg #[.int .i64 Y.s,.slice Y.A Y.n Y.c,.int .i64 Y.t,.slice Y.B Y.m Y.d],.agg #[.int .i64 Z.s,.slice Z.A Z.n Z.c,.int .i64 Z.t,.slice Z.B Z.m Z.d]] W (FrD w0 L' D (if divK f q=true then f / q else 0)):=by
 have HU:=jmT hU;have HY:=jmT hY;have HZ:=jmT hZ;have H0:=jmT h0;have HB:=jmT hb;have M1:=jmT mY1;have M2:=jmT mY2;have M3:=jmT mZ1;have M4:=jmT mZ2;have r:=trivial;clear hU hY hZ h0 hb mY1 mY2 mZ1 mZ2;go_enter Tryz.func152,Tryz.ntmps152
 obtain ⟨G,hG⟩:∃G,G=FrD w0 L' D (if divK f q=true then f / q else 0):=⟨_,rfl⟩;rw [←hG];have HG:=jmT hG;clear hG
 go_wp2_with (first|((first|(apply K.alloc;rfl;rfl;exact jaj)|(apply K.box;rfl;rfl;rfl));clear K r;(first|((fail_if_success revert b0);intro W b0 K)|((fail_if_success revert b1);intro W b1 K)|((fail_if_success revert b2);intro W b2 K)|((fail_if_success revert b3);intro W b3 K)|((fail_if_success revert b4);intro W b4 K)|((fail_if_success revert b5);intro W b5 K)|((fail_if_success revert b6);intro W b6 K)|intro W b K);have r:=K.rawS)|(apply K.storeA;rfl;rfl;rfl;rfl;rfl;(exact ZUP);exact jae;rfl;rfl;rfl;clear K r;intro W K;have r:=K.rawS)|(apply K.storeB;rfl;rfl;rfl;rfl;rfl;(repeat (with_reducible apply Upd.tail));exact HU.out;rfl;exact jaZ;(exact of_decide_eq_true rfl);clear K r;intro W K;have r:=K.rawS))
 refine (jkc K HY.out HZ.out H0.out M1.out M2.out M3.out M4.out).mono ?_;rintro e V1 ⟨y1,er1,rfl,gy1,k1⟩;replace K:=k1;clear k1 r;have r:=trivial;by_cases he:er1=0
 ·subst he;have gz1:=jmT (gy1.out.1.1 rfl);have HM:=jmT (show divK f q=true from by simpa using gy1.out.1.2);clear gy1
  go_wp2_with (first|((first|(apply K.alloc;rfl;rfl;exact jaj)|(apply K.box;rfl;rfl;rfl));clear K r;(first|((fail_if_success revert b0);intro W b0 K)|((fail_if_success revert b1);intro W b1 K)|((fail_if_success revert b2);intro W b2 K)|((fail_if_success revert b3);intro W b3 K)|((fail_if_success revert b4);intro W b4 K)|((fail_if_success revert b5);intro W b5 K)|((fail_if_success revert b6);intro W b6 K)|intro W b K);have r:=K.rawS)|(apply K.storeA;rfl;rfl;rfl;rfl;rfl;(exact ZUP);exact jae;rfl;rfl;rfl;clear K r;intro W K;have r:=K.rawS)|(apply K.storeB;rfl;rfl;rfl;rfl;rfl;(repeat (with_reducible apply Upd.tail));exact HU.out;rfl;exact jaZ;(exact of_decide_eq_true rfl);clear K r;intro W K;have r:=K.rawS))
  have HX:=jmT (show G (.returned (.agg #[.int .i64 y1.s,.slice y1.A y1.n y1.c,.int .i64 y1.t,.slice y1.B y1.m y1.d])) _ from by
   have h1:b'=b:=by rw [HB.out,HM.out];simp
   have h2:L'=L:=by
    have:=HU.out;rw [h1] at this;exact this.idem
   rw [HG.out,h2,if_pos HM.out]
   exact ⟨y1,rfl,gz1,K.part (List.sublist_append_right [_,_,_,_] _)⟩)
  exact bodyPost_ret (v:=.agg #[.int .i64 y1.s,.slice y1.A y1.n y1.c,.int .i64 y1.t,.slice y1.B y1.m y1.d]) (by simp [results,Tryz.results152,go_sem,r]) rfl HX.out
 ·have hx:(er1 !=0)=true:=by simpa using he
  have HM:=jmT (show divK f q=false from by have:=gy1.out.1.2;rw [hx] at this;simpa using this);have hbt:b'=true:=by rw [HB.out,HM.out];simp
  subst hbt;clear gy1 HB
  go_wp2_with (first|((first|(apply K.alloc;rfl;rfl;exact jaj)|(apply K.box;rfl;rfl;rfl));clear K r;(first|((fail_if_success revert b0);intro W b0 K)|((fail_if_success revert b1);intro W b1 K)|((fail_if_success revert b2);intro W b2 K)|((fail_if_success revert b3);intro W b3 K)|((fail_if_success revert b4);intro W b4 K)|((fail_if_success revert b5);intro W b5 K)|((fail_if_success revert b6);intro W b6 K)|intro W b K);have r:=K.rawS)|(apply K.storeA;rfl;rfl;rfl;rfl;rfl;(exact ZUP);exact jae;rfl;rfl;rfl;clear K r;intro W K;have r:=K.rawS)|(apply K.storeB;rfl;rfl;rfl;rfl;rfl;(repeat (with_reducible apply Upd.tail));exact HU.out;rfl;exact jaZ;(exact of_decide_eq_true rfl);clear K r;intro W K;have r:=K.rawS))
  refine (jba 0 Zb4 Zb24 K).mono ?_;rintro e V2 ⟨zo,rfl,gzo,k4⟩;replace K:=k4;clear k4 r;have r:=trivial
  go_wp2_with (first|((first|(apply K.alloc;rfl;rfl;exact jaj)|(apply K.box;rfl;rfl;rfl));clear K r;(first|((fail_if_success revert b0);intro W b0 K)|((fail_if_success revert b1);intro W b1 K)|((fail_if_success revert b2);intro W b2 K)|((fail_if_success revert b3);intro W b3 K)|((fail_if_success revert b4);intro W b4 K)|((fail_if_success revert b5);intro W b5 K)|((fail_if_success revert b6);intro W b6 K)|intro W b K);have r:=K.rawS)|(apply K.storeA;rfl;rfl;rfl;rfl;rfl;(exact ZUP);exact jae;rfl;rfl;rfl;clear K r;intro W K;have r:=K.rawS)|(apply K.storeB;rfl;rfl;rfl;rfl;rfl;(repeat (with_reducible apply Upd.tail));exact HU.out;rfl;exact jaZ;(exact of_decide_eq_true rfl);clear K r;intro W K;have r:=K.rawS))
  have HX:=jmT (show G (.returned (.agg #[.int .i64 zo.s,.slice zo.A zo.n zo.c,.int .i64 zo.t,.slice zo.B zo.m zo.d])) _ from by
   rw [HG.out,if_neg (by rw [HM.out];decide)]
   exact ⟨zo,rfl,gzo,(K.part (List.sublist_append_right [_,_,_,_] _)).lessS (List.Sublist.cons_cons _ (List.Sublist.cons_cons _ (List.sublist_append_right [_,_] _)))⟩)
  exact bodyPost_ret (v:=.agg #[.int .i64 zo.s,.slice zo.A zo.n zo.c,.int .i64 zo.t,.slice zo.B zo.m zo.d]) (by simp [results,Tryz.results152,go_sem,r]) rfl HX.out
theorem jcf (w0 W:World) (L L':List Blk) (D:List Hl) (db:Nat) (v0 v1 v2 v3 v4:Value) (b b':Bool) (X Y Z:Rw) (a f q:Rat) (K:St w0 L D W) (hU:Upd db #[v0,v1,v2,v3,v4,.bool b] 98 #[v0,v1,v2,v3,v4,.bool b'] L L') (hX:isQ X a) (hY:isQ Y f) (hZ:isQ Z q) (mX1:(⟨rdP X.A X.n X.c X.l,rdS X.A X.n⟩:Hl)∈D) (mX2:(⟨rdP X.B X.m X.d X.k,rdS X.B X.m⟩:Hl)∈D) (mY1:(⟨rdP Y.A Y.n Y.c Y.l,rdS Y.A Y.n⟩:Hl)∈D) (mY2:(⟨rdP Y.B Y.m Y.d Y.k,rdS Y.B Y.m⟩:Hl)∈D) (mZ1:(⟨rdP Z.A Z.n Z.c Z.l,rdS Z.A Z.n⟩:Hl)∈D) (mZ2:(⟨rdP Z.B Z.m Z.d Z.k,rdS Z.B Z.m⟩:Hl)∈D) (hb:b'=(b|| !jaM a f q)) :
 Calls Tryz.prog 70 #[.pointer (some ⟨db,0,none⟩),.agg #[.int .i64 X.s,.slice X.A X.n X.c,.int .i64 X.t,.slice X.B X.m X.d],.agg #[.int .i64 Y.s,.slice Y.A Y.n Y.c,.int .i64 Y.t,.slice Y.B Y.m Y.d],.agg #[.int .i64 Z.s,.slice Z.A Z.n Z.c,.int .i64 Z.t,.slice Z.B Z.m Z.d]] W (FrD w0 L' D (if jaM a f q=true then a-f*q else 0)):=by
 have HU:=jmT hU;have HX:=jmT hX;have HY:=jmT hY;have HZ:=jmT hZ;have HB:=jmT hb;have N1:=jmT mX1;have N2:=jmT mX2;have M1:=jmT mY1;have M2:=jmT mY2;have M3:=jmT mZ1;have M4:=jmT mZ2;have r:=trivial;clear hU hX hY hZ hb mX1 mX2 mY1 mY2 mZ1 mZ2;go_enter Tryz.func70,Tryz.ntmps70
 obtain ⟨G,hG⟩:∃G,G=FrD w0 L' D (if jaM a f q=true then a-f*q else 0):=⟨_,rfl⟩;rw [←hG];have HG:=jmT hG;clear hG
 go_wp2_with (first|((first|(apply K.alloc;rfl;rfl;exact jaj)|(apply K.box;rfl;rfl;rfl));clear K r;(first|((fail_if_success revert b0);intro W b0 K)|((fail_if_success revert b1);intro W b1 K)|((fail_if_success revert b2);intro W b2 K)|((fail_if_success revert b3);intro W b3 K)|((fail_if_success revert b4);intro W b4 K)|((fail_if_success revert b5);intro W b5 K)|((fail_if_success revert b6);intro W b6 K)|intro W b K);have r:=K.rawS)|(apply K.storeA;rfl;rfl;rfl;rfl;rfl;(exact ZUP);exact jae;rfl;rfl;rfl;clear K r;intro W K;have r:=K.rawS)|(apply K.storeB;rfl;rfl;rfl;rfl;rfl;(repeat (with_reducible apply Upd.tail));exact HU.out;rfl;exact jaZ;(exact of_decide_eq_true rfl);clear K r;intro W K;have r:=K.rawS))
 refine (jgB K HY.out HZ.out M1.out M2.out M3.out M4.out).mono ?_;rintro e V1 ⟨y1,er1,rfl,gy1,k1⟩;replace K:=k1;clear k1 r;have r:=trivial;by_cases he:er1=0
 ·subst he;have gz1:=jmT (gy1.out.1 rfl);have HM:=jmT (show mulK f q=true from by simpa using gy1.out.2);clear gy1
  go_wp2_with (first|((first|(apply K.alloc;rfl;rfl;exact jaj)|(apply K.box;rfl;rfl;rfl));clear K r;(first|((fail_if_success revert b0);intro W b0 K)|((fail_if_success revert b1);intro W b1 K)|((fail_if_success revert b2);intro W b2 K)|((fail_if_success revert b3);intro W b3 K)|((fail_if_success revert b4);intro W b4 K)|((fail_if_success revert b5);intro W b5 K)|((fail_if_success revert b6);intro W b6 K)|intro W b K);have r:=K.rawS)|(apply K.storeA;rfl;rfl;rfl;rfl;rfl;(exact ZUP);exact jae;rfl;rfl;rfl;clear K r;intro W K;have r:=K.rawS)|(apply K.storeB;rfl;rfl;rfl;rfl;rfl;(repeat (with_reducible apply Upd.tail));exact HU.out;rfl;exact jaZ;(exact of_decide_eq_true rfl);clear K r;intro W K;have r:=K.rawS))
  refine (jkd K HX.out gz1.out (List.mem_cons_of_mem _ (List.mem_cons_of_mem _ N1.out)) (List.mem_cons_of_mem _ (List.mem_cons_of_mem _ N2.out)) ZMB ZMB).mono ?_;rintro e V2 ⟨y2,er2,rfl,gy2,k2⟩;replace K:=k2;clear k2 r;have r:=trivial;by_cases he2:er2=0
  ·subst he2;have gz2:=jmT (gy2.out.1.1 rfl)
   have HS:=jmT (show jaM a f q=true from by
    have h:=gy2.out.1.2;unfold jaM;rw [HM.out,Bool.true_and]
    simpa using h)
   clear gy2 gz1
   go_wp2_with (first|((first|(apply K.alloc;rfl;rfl;exact jaj)|(apply K.box;rfl;rfl;rfl));clear K r;(first|((fail_if_success revert b0);intro W b0 K)|((fail_if_success revert b1);intro W b1 K)|((fail_if_success revert b2);intro W b2 K)|((fail_if_success revert b3);intro W b3 K)|((fail_if_success revert b4);intro W b4 K)|((fail_if_success revert b5);intro W b5 K)|((fail_if_success revert b6);intro W b6 K)|intro W b K);have r:=K.rawS)|(apply K.storeA;rfl;rfl;rfl;rfl;rfl;(exact ZUP);exact jae;rfl;rfl;rfl;clear K r;intro W K;have r:=K.rawS)|(apply K.storeB;rfl;rfl;rfl;rfl;rfl;(repeat (with_reducible apply Upd.tail));exact HU.out;rfl;exact jaZ;(exact of_decide_eq_true rfl);clear K r;intro W K;have r:=K.rawS))
   have HX:=jmT (show G (.returned (.agg #[.int .i64 y2.s,.slice y2.A y2.n y2.c,.int .i64 y2.t,.slice y2.B y2.m y2.d])) _ from (by
           have h1:b'=b:=by rw [HB.out,HS.out];simp
           have h2:L'=L:=by
            have:=HU.out;rw [h1] at this;exact this.idem
           rw [HG.out,h2,if_pos HS.out]
           exact ⟨y2,rfl,gz2,(K.part (List.sublist_append_right [_,_,_,_,_,_] _)).lessS (List.Sublist.cons_cons _ (List.Sublist.cons_cons _ (List.sublist_append_right [_,_] _)))⟩))
   exact bodyPost_ret (v:=.agg #[.int .i64 y2.s,.slice y2.A y2.n y2.c,.int .i64 y2.t,.slice y2.B y2.m y2.d]) (by simp [results,Tryz.results70,go_sem,r]) rfl HX.out
  ·have hx:(er2 !=0)=true:=by simpa using he2
   have HS:=jmT (show jaM a f q=false from by
    have h:=gy2.out.1.2;unfold jaM;rw [HM.out,Bool.true_and];rw [hx] at h
    simpa using h)
   have hbt:b'=true:=by rw [HB.out,HS.out];simp
   subst hbt;clear gy2 gz1 HB
   go_wp2_with (first|((first|(apply K.alloc;rfl;rfl;exact jaj)|(apply K.box;rfl;rfl;rfl));clear K r;(first|((fail_if_success revert b0);intro W b0 K)|((fail_if_success revert b1);intro W b1 K)|((fail_if_success revert b2);intro W b2 K)|((fail_if_success revert b3);intro W b3 K)|((fail_if_success revert b4);intro W b4 K)|((fail_if_success revert b5);intro W b5 K)|((fail_if_success revert b6);intro W b6 K)|intro W b K);have r:=K.rawS)|(apply K.storeA;rfl;rfl;rfl;rfl;rfl;(exact ZUP);exact jae;rfl;rfl;rfl;clear K r;intro W K;have r:=K.rawS)|(apply K.storeB;rfl;rfl;rfl;rfl;rfl;(repeat (with_reducible apply Upd.tail));exact HU.out;rfl;exact jaZ;(exact of_decide_eq_true rfl);clear K r;intro W K;have r:=K.rawS))
   refine (jba 0 Zb4 Zb24 K).mono ?_;rintro e V3 ⟨zo,rfl,gzo,k4⟩;replace K:=k4;clear k4 r;have r:=trivial
   go_wp2_with (first|((first|(apply K.alloc;rfl;rfl;exact jaj)|(apply K.box;rfl;rfl;rfl));clear K r;(first|((fail_if_success revert b0);intro W b0 K)|((fail_if_success revert b1);intro W b1 K)|((fail_if_success revert b2);intro W b2 K)|((fail_if_success revert b3);intro W b3 K)|((fail_if_success revert b4);intro W b4 K)|((fail_if_success revert b5);intro W b5 K)|((fail_if_success revert b6);intro W b6 K)|intro W b K);have r:=K.rawS)|(apply K.storeA;rfl;rfl;rfl;rfl;rfl;(exact ZUP);exact jae;rfl;rfl;rfl;clear K r;intro W K;have r:=K.rawS)|(apply K.storeB;rfl;rfl;rfl;rfl;rfl;(repeat (with_reducible apply Upd.tail));exact HU.out;rfl;exact jaZ;(exact of_decide_eq_true rfl);clear K r;intro W K;have r:=K.rawS))
   have HX:=jmT (show G (.returned (.agg #[.int .i64 zo.s,.slice zo.A zo.n zo.c,.int .i64 zo.t,.slice zo.B zo.m zo.d])) _ from (by
           rw [HG.out,if_neg (by rw [HS.out];decide)]
           exact ⟨zo,rfl,gzo,(K.part (List.sublist_append_right [_,_,_,_,_,_] _)).lessS (List.Sublist.cons_cons _ (List.Sublist.cons_cons _ (List.sublist_append_right [_,_,_,_] _)))⟩))
   exact ZQ123
 ·have hx:(er1 !=0)=true:=by simpa using he
  have HM:=jmT (show mulK f q=false from by have:=gy1.out.2;rw [hx] at this;simpa using this);have HS:=jmT (show jaM a f q=false from by unfold jaM;rw [HM.out];rfl);have hbt:b'=true:=by rw [HB.out,HS.out];simp
  subst hbt;clear gy1 HB
  go_wp2_with (first|((first|(apply K.alloc;rfl;rfl;exact jaj)|(apply K.box;rfl;rfl;rfl));clear K r;(first|((fail_if_success revert b0);intro W b0 K)|((fail_if_success revert b1);intro W b1 K)|((fail_if_success revert b2);intro W b2 K)|((fail_if_success revert b3);intro W b3 K)|((fail_if_success revert b4);intro W b4 K)|((fail_if_success revert b5);intro W b5 K)|((fail_if_success revert b6);intro W b6 K)|intro W b K);have r:=K.rawS)|(apply K.storeA;rfl;rfl;rfl;rfl;rfl;(exact ZUP);exact jae;rfl;rfl;rfl;clear K r;intro W K;have r:=K.rawS)|(apply K.storeB;rfl;rfl;rfl;rfl;rfl;(repeat (with_reducible apply Upd.tail));exact HU.out;rfl;exact jaZ;(exact of_decide_eq_true rfl);clear K r;intro W K;have r:=K.rawS))
  refine (jba 0 Zb4 Zb24 K).mono ?_;rintro e V2 ⟨zo,rfl,gzo,k4⟩;replace K:=k4;clear k4 r;have r:=trivial
  go_wp2_with (first|((first|(apply K.alloc;rfl;rfl;exact jaj)|(apply K.box;rfl;rfl;rfl));clear K r;(first|((fail_if_success revert b0);intro W b0 K)|((fail_if_success revert b1);intro W b1 K)|((fail_if_success revert b2);intro W b2 K)|((fail_if_success revert b3);intro W b3 K)|((fail_if_success revert b4);intro W b4 K)|((fail_if_success revert b5);intro W b5 K)|((fail_if_success revert b6);intro W b6 K)|intro W b K);have r:=K.rawS)|(apply K.storeA;rfl;rfl;rfl;rfl;rfl;(exact ZUP);exact jae;rfl;rfl;rfl;clear K r;intro W K;have r:=K.rawS)|(apply K.storeB;rfl;rfl;rfl;rfl;rfl;(repeat (with_reducible apply Upd.tail));exact HU.out;rfl;exact jaZ;(exact of_decide_eq_true rfl);clear K r;intro W K;have r:=K.rawS))
  have HX:=jmT (show G (.returned (.agg #[.int .i64 zo.s,.slice zo.A zo.n zo.c,.int .i64 zo.t,.slice zo.B zo.m zo.d])) _ from (by
        rw [HG.out,if_neg (by rw [HS.out];decide)]
        exact ⟨zo,rfl,gzo,(K.part (List.sublist_append_right [_,_,_,_,_] _)).lessS (List.Sublist.cons_cons _ (List.Sublist.cons_cons _ (List.sublist_append_right [_,_] _)))⟩))
  exact ZQ123
section
variable {P:Program} {ops:Array Oper} {Q:Exit→Act→World→Prop} {md:Region.Mode} {S:World→Prop} {n:Nat}
theorem jaa.tkB (i:Nat) {oi:Oper} {v:Value} {fuel:Nat} {listed:Array Bool} {a:Act} {w:World} {q:Prop} (hi:ops[i]?=some oi) (k:q) (hB:(decide (ops.size≤n)&&Region.noSelect ops&&Region.free md ops listed i&&(Region.ready md ops listed).contains i)=true:=by decide +kernel)
 (hQ:∀c a w,Q (.panic c) (a.put oi.dst v) w→Q (.panic c) a w:=by exact fun _ _ _ h=>h) (hy:YieldsIf P ops S oi v a:=by (refine Or.inl ⟨by rfl,?_⟩;intro w hSw;(try dsimp only at hSw);go_simp;try with_reducible rfl)) (hS:S w:=by assumption) (h:q→jaa P md ops Q S n fuel (listed.setIfInBounds i true) (a.put oi.dst v) w:=by (intro hq;(try simp only [Act.put,List.getElem_toArray,List.getElem_cons_succ,List.getElem_cons_zero,List.setIfInBounds_toArray,List.set_cons_zero,List.set_cons_succ]);exact hq)):jaa P md ops Q S n (fuel+1) listed a w :=
 jaa.takeA hi hB hQ hy hS (h k)
theorem jaa.tkN (i:Nat) {oi:Oper} {fuel:Nat} {listed:Array Bool} {a:Act} {w:World} {q:Prop} (hi:ops[i]?=some oi) (k:q) (hB:(decide (ops.size≤n)&&Region.noSelect ops&&Region.free md ops listed i&&(Region.ready md ops listed).contains i)=true:=by decide +kernel)
 (hQ:∀c a w,Q (.panic c) (a.put oi.dst undef) w→Q (.panic c) a w:=by exact fun _ _ _ h=>h) (hy:Region.wanted oi (yielded ops a.tmps)=false:=by rfl) (hS:S w:=by assumption) (h:q→jaa P md ops Q S n fuel (listed.setIfInBounds i true) (a.put oi.dst undef) w:=by (intro hq;(try simp only [Act.put,List.getElem_toArray,List.getElem_cons_succ,List.getElem_cons_zero,List.setIfInBounds_toArray,List.set_cons_zero,List.set_cons_succ]);exact hq)):jaa P md ops Q S n (fuel+1) listed a w :=
 jaa.takeA hi hB hQ (Or.inr ⟨hy,rfl⟩) hS (h k)
theorem jaa.onW (i:Nat) {o:Oper} {fuel:Nat} {listed:Array Bool} {a:Act} {w:World} (ho:ops[i]?=some o)
 (h:∀K:Act→World→Prop,Hid (∀a' w',S w'→(S w'→jaa P md ops Q S n fuel (listed.setIfInBounds i true) a' w')→K a' w')→o.wp P a w K Q) (hw:Region.wanted o (yielded ops a.tmps)=true:=by rfl) (hB:(decide (i≠n)&&decide (Region.ready md ops listed=[i]))=true:=by kernel_rfl):jaa P md ops Q S n (fuel+1) listed a w:=by
 simp only [Bool.and_eq_true,decide_eq_true_eq] at hB;refine ⟨(fun h0=>by rw [hB.2] at h0;cases h0),fun j hj=>?_⟩;rw [hB.2,List.mem_singleton] at hj;subst hj;unfold wpOp;simp only [ho,hw,if_true];exact Or.inl (h _ (jmT fun a' w' hS hW=>⟨fun _=>hS,hW hS⟩))
end
theorem Upd.headN {b:Nat} {cs cs':Array Value} {t:TypeId} {L L':List Blk} (h:Upd b cs t cs' ((b,cs,t)::L) L') (hn:(((b,cs,t)::L).map (·.1)).Nodup):L'=(b,cs',t)::L:=by
 cases h with
 | head _=>rfl
 | tail _ h3 =>
  have:=List.mem_map_of_mem (f:=fun p:Blk=>p.1) h3.mem;rw [List.map_cons,List.nodup_cons] at hn;exact absurd this hn.1
def chkO (n m:Nat) (l:List Fv) (ls:List Rv) (x y:List Fv):Bool :=
 (decide (x.length=n)&&x.all fnF)&&(decide (y.length=m)&&y.all fnF)&&belB m n (rwA2 ls) (rwB2 ls false) (fvR x)&&covB m n (rwA2 ls) (fvR l) (fvR y)&&prdK (fvR y) (rwB2 ls false) m&&prdK (fvR l) (fvR x) n&&decide (smQ (fun i=>fvR y i*rwB2 ls false i) m=smQ (fun j=>fvR l j*fvR x j) n)
def chkN (n m:Nat) (ls:List Rv) (x y:List Fv):Bool :=
 decide (x.length=0)&&(decide (y.length=m)&&y.all fnF)&&covB m n (rwA2 ls) jbu (fvR y)&&prdK (fvR y) (rwB2 ls false) m&&decide (smQ (fun i=>fvR y i*rwB2 ls false i) m<0)
def chkR (n m:Nat) (l:List Fv) (ls:List Rv) (x y:List Fv):Bool :=
 decide (y.length=0)&&(decide (x.length=n)&&x.all fnF)&&belB m n (rwA2 ls) (rwB2 ls true) (fvR x)&&prdK (fvR l) (fvR x) n&&decide (0<smQ (fun j=>fvR l j*fvR x j) n)
def chkF (n m:Nat) (l:List Fv) (ls:List Rv) (x y:List Fv) (e:Int):Bool :=
 if e=0 then chkO n m l ls x y else if e=4 then chkN n m ls x y else if e=3 then chkR n m l ls x y else false
section
variable {n m:Nat} {l:List Fv} {ls:List Rv} {x y:List Fv}
theorem chkO_x (h:(decide (x.length=n)&&x.all fnF)=false):chkO n m l ls x y=false:=by unfold chkO;rw [h];simp
theorem chkO_y (h:(decide (y.length=m)&&y.all fnF)=false):chkO n m l ls x y=false:=by unfold chkO;rw [h];simp
theorem chkO_b {o:Bool} (h:(false&& !o)=(!false&&belB m n (rwA2 ls) (rwB2 ls false) (fvR x))):chkO n m l ls x y=false:=by
 have h:belB m n (rwA2 ls) (rwB2 ls false) (fvR x)=false:=by simpa using h.symm
 unfold chkO;rw [h];simp
theorem chkO_c {o p:Bool} (h:(true&& !o)=(!false&&belB m n (rwA2 ls) (rwB2 ls false) (fvR x))) (h':(false&& !p)=(!o&&covB m n (rwA2 ls) (fvR l) (fvR y))):chkO n m l ls x y=false:=by
 have h1:(!o)=belB m n (rwA2 ls) (rwB2 ls false) (fvR x):=by simpa using h
 rw [h1,Bool.false_and] at h';unfold chkO;cases e1:belB m n (rwA2 ls) (rwB2 ls false) (fvR x)
 ·simp
 ·rw [e1,Bool.true_and] at h';rw [←h'];simp
theorem jkg {o p f3 f4:Bool} {z1 z2:Rat} (hx:(decide (x.length=n)&&x.all fnF)=true) (hy:(decide (y.length=m)&&y.all fnF)=true) (h:(true&& !o)=(!false&&belB m n (rwA2 ls) (rwB2 ls false) (fvR x))) (h':(true&& !p)=(!o&&covB m n (rwA2 ls) (fvR l) (fvR y)))
 (h3:f3=(p|| !prdK (fvR y) (rwB2 ls false) m)) (h4:f4=(f3|| !prdK (fvR l) (fvR x) n)) (g1:prdK (fvR y) (rwB2 ls false) m=true→z1=smQ (fun i=>fvR y i*rwB2 ls false i) m) (g2:prdK (fvR l) (fvR x) n=true→z2=smQ (fun j=>fvR l j*fvR x j) n) :
 chkO n m l ls x y=(decide (z1=z2)&& !f4):=by
 have h1:(!o)=belB m n (rwA2 ls) (rwB2 ls false) (fvR x):=by simpa using h
 have h2:(!p)=(belB m n (rwA2 ls) (rwB2 ls false) (fvR x)&&covB m n (rwA2 ls) (fvR l) (fvR y)):=by rw [←h1];simpa using h'
 unfold chkO;rw [hx,hy,Bool.true_and,Bool.true_and,←h2,h4,h3];cases e1:prdK (fvR y) (rwB2 ls false) m
 ·simp
 cases e2:prdK (fvR l) (fvR x) n
 ·simp
 rw [g1 e1,g2 e2];cases p <;> simp
theorem chkN_x (h:decide (x.length=0)=false):chkN n m ls x y=false:=by unfold chkN;rw [h];simp
theorem chkN_y (h:(decide (y.length=m)&&y.all fnF)=false):chkN n m ls x y=false:=by unfold chkN;rw [h];simp
theorem chkN_c {o:Bool} (h:(false&& !o)=(!false&&covB m n (rwA2 ls) jbu (fvR y))):chkN n m ls x y=false:=by
 have h:covB m n (rwA2 ls) jbu (fvR y)=false:=by simpa using h.symm
 unfold chkN;rw [h];simp
theorem jkf {p f3:Bool} {z1:Rat} (hx:decide (x.length=0)=true) (hy:(decide (y.length=m)&&y.all fnF)=true) (h':(true&& !p)=(!false&&covB m n (rwA2 ls) jbu (fvR y)))
 (h3:f3=(p|| !prdK (fvR y) (rwB2 ls false) m)) (g1:prdK (fvR y) (rwB2 ls false) m=true→z1=smQ (fun i=>fvR y i*rwB2 ls false i) m):chkN n m ls x y=(decide (z1<0)&& !f3):=by
 have h2:(!p)=covB m n (rwA2 ls) jbu (fvR y):=by simpa using h'
 unfold chkN;rw [hx,hy,Bool.true_and,Bool.true_and,←h2,h3];cases e1:prdK (fvR y) (rwB2 ls false) m
 ·simp
 rw [g1 e1];cases p <;> simp
theorem chkR_y (h:decide (y.length=0)=false):chkR n m l ls x y=false:=by unfold chkR;rw [h];simp
theorem chkR_x (h:(decide (x.length=n)&&x.all fnF)=false):chkR n m l ls x y=false:=by unfold chkR;rw [h];simp
theorem chkR_b {o:Bool} (h:(false&& !o)=(!false&&belB m n (rwA2 ls) (rwB2 ls true) (fvR x))):chkR n m l ls x y=false:=by
 have h:belB m n (rwA2 ls) (rwB2 ls true) (fvR x)=false:=by simpa using h.symm
 unfold chkR;rw [h];simp
theorem jkh {p f3:Bool} {z1:Rat} (hy:decide (y.length=0)=true) (hx:(decide (x.length=n)&&x.all fnF)=true) (h':(true&& !p)=(!false&&belB m n (rwA2 ls) (rwB2 ls true) (fvR x)))
 (h3:f3=(p|| !prdK (fvR l) (fvR x) n)) (g1:prdK (fvR l) (fvR x) n=true→z1=smQ (fun j=>fvR l j*fvR x j) n):chkR n m l ls x y=(decide (0<z1)&& !f3):=by
 have h2:(!p)=belB m n (rwA2 ls) (rwB2 ls true) (fvR x):=by simpa using h'
 unfold chkR;rw [hx,hy,Bool.true_and,Bool.true_and,←h2,h3];cases e1:prdK (fvR l) (fvR x) n
 ·simp
 rw [g1 e1];cases p <;> simp
end
theorem jda {w0 W:World} {L:List Blk} {D:List Hl} {Y Z:Rw} {f q:Rat} (K:St w0 L D W) (hY:isQ Y f) (hZ:isQ Z q) (m1:(⟨rdP Y.A Y.n Y.c Y.l,rdS Y.A Y.n⟩:Hl)∈D) (m2:(⟨rdP Y.B Y.m Y.d Y.k,rdS Y.B Y.m⟩:Hl)∈D) (m3:(⟨rdP Z.A Z.n Z.c Z.l,rdS Z.A Z.n⟩:Hl)∈D) (m4:(⟨rdP Z.B Z.m Z.d Z.k,rdS Z.B Z.m⟩:Hl)∈D) :
 Calls Tryz.prog 32 #[.agg #[.int .i64 Y.s,.slice Y.A Y.n Y.c,.int .i64 Y.t,.slice Y.B Y.m Y.d],.agg #[.int .i64 Z.s,.slice Z.A Z.n Z.c,.int .i64 Z.t,.slice Z.B Z.m Z.d]] W fun e W'=>e=.returned (.int .i64 (cmpQ f q))∧St w0 L D W':=by
 have h:=jfF Y.s Y.t Z.s Z.t Y.A Y.B Z.A Z.B Y.n Y.c Y.m Y.d Z.n Z.c Z.m Z.d Y.l Y.k Z.l Z.k W (K.rd m1) (K.rd m2) (K.rd m3) (K.rd m4);rw [hY.1.right hY.2,hZ.1.right hZ.2,hY.1.rat,hZ.1.rat] at h;exact h.mono fun e W' ⟨he,hb⟩=>⟨he,K.keep hb⟩
theorem jhf (A A' B:Option Addr) (n cap m cap' cx:Nat) (ls:List Rv) (x:List Fv) (w:World)
 (hr:RdR w w.heap.size A' m cap' ls) (hx:RdF w w.heap.size B n cx x) (hrow:∀(k:Nat) (X:Rv),ls[k]?=some X→rowF n X=true) (hox:x.all Fv.ok=true) (hn:n≤1000) :
 Calls Tryz.prog 78 #[.agg #[.slice A n cap,.slice A' m cap'],.slice B n cx,.bool false] w fun e w'=>e=.returned (.bool (belB m n (rwA2 ls) (rwB2 ls false) (fvR x)))∧Below w.heap.size w w':=by
 have HL:=jmT hr;have HX:=jmT (fun W (h:Below w.heap.size w W)=>hx.up jan h);have HRow:=jmT hrow;have HOx:=jmT hox;have hcap':=hr.caps;have hcx:=hx.caps;have K:=St.start w;have r:=K.raw;clear hr hx hrow hox;go_enter Tryz.func78,Tryz.ntmps78
 go_wp2_with (first|(apply K.box;rfl;rfl;rfl;clear K r;intro W b0 K;have r:=K.rawS)|(apply K.alloc;rfl;rfl;exact jaj;clear K r;intro W b1 K;have r:=K.rawS)|(apply K.storeA;rfl;rfl;rfl;rfl;rfl;(exact ZUP);exact jae;rfl;rfl;rfl;clear K r;intro W K;have r:=K.rawS))
 go_loopg [7] m (fun gk s7 wr=>∃(k:Nat),k≤m∧gk=m-k∧s7=.int .i64 k∧Hid (jaX (fun i=>prdK (rwA2 ls i) (fvR x) n) (fun i=>decide (smQ (fun j=>rwA2 ls i j*fvR x j) n≤rwB2 ls false i)) k=true)∧St w [((b0,#[.slice A n cap,.slice A' m cap'],38):Blk)] [] wr)
 case atStart=>exact ⟨0,Nat.zero_le _,rfl,rfl,jmT rfl,K⟩
 case round =>
  clear K r;obtain ⟨k,hk,rfl,rfl,HS,K⟩:=hrel;by_cases hlt:k<m
  ·obtain ⟨eb,eo,A0,n0,c0,A1,n1,c1,A2,n2,c2,X,hA,hbB,hX,⟨z0,z1,z2,z3,z4⟩,r0,r1,r2⟩:=HL.out.atR hlt;subst hA;have hki:(k:Int)<(m:Int):=by omega
   have hk0:(0:Int)≤(k:Int):=by omega
   have y0:=(K.1.cell (p:=⟨eb,eo+k*5,none⟩) hbB).trans z0;have y1:=(K.1.cell (p:=⟨eb,eo+k*5+1,none⟩) hbB).trans z1;have y2:=(K.1.cell (p:=⟨eb,eo+k*5+2,none⟩) hbB).trans z2;have y3:=(K.1.cell (p:=⟨eb,eo+k*5+3,none⟩) hbB).trans z3;have y4:=(K.1.cell (p:=⟨eb,eo+k*5+4,none⟩) hbB).trans z4;have hc0:=r0.caps;have hc1:=r1.caps;have hc2:=r2.caps;have hF:=jbV (HRow.out k X hX);have hn0:n=n0:=by have:=hF.1;have:=r0.len;omega
   subst hn0;have hQ:=jbR hF.2.1;have HOk:=jmT hF.2.2;have HA:=jmT (show rwA2 ls k=fvR X.a from funext fun j=>jjt hX j);have HQ:=jmT (show isQ (⟨X.b.s,A1,n1,c1,X.b.l,X.b.t,A2,n2,c2,X.b.m⟩:Rw) (rwB2 ls false k) from by rw [jjv hX];exact hQ);have HR0:=jmT (fun W (h:Below w.heap.size w W)=>r0.up jan h);have HZ0:=jmT (show w.cell? ⟨eb,eo+k*5,none⟩=_ from z0);have HBB:=jmT hbB;replace K:=(K.rdOld r1).rdOld r2;clear hX z0 z1 z2 z3 z4 r0 r1 r2 hF hQ hbB;have r:=K.rawS;go_upto_region 7 with (first|(apply K.box;rfl;rfl;rfl;clear K r;intro W b0 K;have r:=K.rawS)|(apply K.alloc;rfl;rfl;exact jaj;clear K r;intro W b1 K;have r:=K.rawS)|(apply K.storeA;rfl;rfl;rfl;rfl;rfl;(exact ZUP);exact jae;rfl;rfl;rfl;clear K r;intro W K;have r:=K.rawS))
   clear y0 y1 y2 y3 y4;have y0:=(K.1.cell (p:=⟨eb,eo+k*5,none⟩) HBB.out).trans HZ0.out;go_wp2_with fail;refine (jca A0 B n c0 cx X.a x _ (HR0.out _ K.1) (HX.out _ K.1) hn HOk.out HOx.out).mono ?_;rintro e W5 ⟨q1,o1,rfl,ho1,hq1,⟨ra,rb⟩,⟨fa,fb⟩,hb5⟩;replace K:=K.retF hb5 ra rb fa fb;have HP:=jmT (show o1=prdK (rwA2 ls k) (fvR x) n by rw [HA.out];exact ho1);have HQ1:=jmT (show o1=true→isQ q1 (smQ (fun j=>rwA2 ls k j*fvR x j) n) by rw [HA.out];exact hq1);clear ra rb fa fb hb5 y0 r ho1 hq1;have r:=K.rawS;go_upto_region 8 with (first|(apply K.alloc;rfl;rfl;exact jaj;clear K r;intro W b2 K;have r:=K.rawS)|(apply K.storeA;rfl;rfl;rfl;rfl;rfl;(exact ZUP);exact jae;rfl;rfl;rfl;clear K r;intro W K;have r:=K.rawS))
   cases o1
   case false =>
    have HBad:=jmT (show jaX (fun i=>prdK (rwA2 ls i) (fvR x) n) (fun i=>decide (smQ (fun j=>rwA2 ls i j*fvR x j) n≤rwB2 ls false i)) (k+1)=false by
     rw [jaX,←HP.out]
     simp)
    clear HQ HQ1 HP HA;have HN:=jmT (show belB m n (rwA2 ls) (rwB2 ls false) (fvR x)=false from jbt hlt HBad.out);exact ZQ57
   have HQ2:=jmT (HQ1.out rfl);clear HQ1;go_wp2_with fail;refine (jda K HQ2.out HQ.out ZMB ZMB ZMB ZMB).mono ?_;rintro e W6 ⟨rfl,k6⟩;replace K:=k6;clear k6 r HQ HA;have r:=K.rawS;by_cases hle:smQ (fun j=>rwA2 ls k j*fvR x j) n≤rwB2 ls false k
   ·have hc:¬cmpQ (smQ (fun j=>rwA2 ls k j*fvR x j) n) (rwB2 ls false k)>0:=by have:=jck.2 hle;omega
    have HN:=jmT (show jaX (fun i=>prdK (rwA2 ls i) (fvR x) n) (fun i=>decide (smQ (fun j=>rwA2 ls i j*fvR x j) n≤rwB2 ls false i)) (k+1)=true by
     exact jjW)
    clear HP HQ2 HS hle;generalize cmpQ _ _=cq at hc ⊢;have hcd:decide (cq>0)=false:=decide_eq_false hc;go_wp2_with fail;go_roundg (m-(k+1))
    case rel=>exact ⟨k+1,hlt,rfl,by go_num,HN,(K.less (fun _ h=>by cases h)).part (List.sublist_append_right [_,_] _)⟩
    case measure=>omega
   ·have hc:cmpQ (smQ (fun j=>rwA2 ls k j*fvR x j) n) (rwB2 ls false k)>0:=by
     have:¬cmpQ (smQ (fun j=>rwA2 ls k j*fvR x j) n) (rwB2 ls false k)≤0:=fun h=>hle (jck.1 h)
     omega
    have HBad:=jmT (show jaX (fun i=>prdK (rwA2 ls i) (fvR x) n) (fun i=>decide (smQ (fun j=>rwA2 ls i j*fvR x j) n≤rwB2 ls false i)) (k+1)=false by
     rw [jaX,decide_eq_false hle]
     simp)
    clear HP HQ2 hle;generalize cmpQ _ _=cq at hc ⊢;have hcd:decide (cq>0)=true:=decide_eq_true hc;have HN:=jmT (show belB m n (rwA2 ls) (rwB2 ls false) (fvR x)=false from jbt hlt HBad.out);exact ZQ57
  ·have e:k=m:=by omega
   subst e;have HE:=jmT (show belB k n (rwA2 ls) (rwB2 ls false) (fvR x)=true from HS.out);exact ZQ60
end Go.Proofs.YtdlcglndhhndpaaGreat
