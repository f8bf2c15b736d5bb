/- Laws and walks; conditions stand in each theorem. -/
import Derived.Test.YtgikfcjndiohjaaGreatP04
set_option linter.unusedSimpArgs false
set_option linter.unusedVariables false
set_option maxHeartbeats 1000000
set_option maxRecDepth 100000
namespace Go.Proofs.YtgikfcjndiohjaaGreat
open Go.RowKit
theorem jdD (s t:Int) (A A2:Option Addr) (n cap n2 cap2:Nat) (a b:List Int) (w:World) (ha:RdI w w.heap.size A n cap a) (hb:RdI w w.heap.size A2 n2 cap2 b) :
 Calls Tryz.prog 41 #[.agg #[.int .i64 s,.slice A n cap],.agg #[.int .i64 t,.slice A2 n2 cap2]] w fun e w'=>e=.returned (.bool (jbu s a t b))∧Below w.heap.size w w':=by
 have K:=((St.start w).oldRd ha).oldRd hb
 have r:=K.raw
 have hla:=ha.len
 have hlb:=hb.len
 have hca:=ha.caps
 have hcb:=hb.caps
 clear ha hb
 by_cases hst:s=t
 case neg =>
  have hd:(s !=t)=true:=by simp [hst]
  have hR:jbu s a t b=false:=by unfold jbu;exact decide_eq_false fun h=>hst h.1
  rw [hR]
  clear hR hst hla hlb
  go_enter Tryz.func41,Tryz.ntmps41
  exact ZQ20
 subst hst
 have hd:(s !=s)=false:=by simp
 by_cases hnn:n=n2
 case neg =>
  have hd2:((n:Int) !=(n2:Int))=true:=by simp;omega
  have hR:jbu s a s b=false:=by unfold jbu;exact decide_eq_false fun h=>hnn (by rw [←hla,←hlb,h.2])
  rw [hR]
  clear hR hnn hla hlb
  go_enter Tryz.func41,Tryz.ntmps41
  exact ZQ20
 subst hnn
 have hd2:((n:Int) !=(n:Int))=false:=by simp
 have HEq:=jpk (show (∀j,j<n→gi a j=gi b j)→jbu s a s b=true from fun h=>by unfold jbu;exact decide_eq_true ⟨rfl,jjC ZO (by rw [hla];exact h)⟩)
 have HNe:=jpk (show ∀j,j<n→gi a j≠gi b j→jbu s a s b=false from fun j _ h=>by unfold jbu;exact decide_eq_false fun h1=>h (by rw [h1.2]))
 generalize jbu s a s b=R at *
 clear hla hlb
 go_enter Tryz.func41,Tryz.ntmps41
 go_wp2_with (first|(refine ZAL ?_;clear K r;(first|((fail_if_success revert b0);intro W b0 K r)|((fail_if_success revert b1);intro W b1 K r)|intro W b K r))|(refine ZST ?_;clear K r;intro W K r))
 go_loopg [5] n (fun gk i wr=>∃k:Nat,k≤n∧gk=n-k∧i=.int .i64 k∧(∀j,j<k→gi a j=gi b j)∧St w [(b1,#[.int .i64 s,.slice A2 n cap2],27),(b0,#[.int .i64 s,.slice A n cap],27)] [⟨rdP A2 n cap2 b,oldS w⟩,⟨rdP A n cap a,oldS w⟩] wr)
 case atStart=>exact ⟨0,Nat.zero_le _,rfl,rfl,(fun j hj=>absurd hj ZO),K⟩
 case round =>
  exact ZQ22
def jhz (s1:Int) (l1:List Int) (t1:Int) (k1:List Int) (s2:Int) (l2:List Int) (t2:Int) (k2:List Int):Bool:=jbu s1 l1 s2 l2&&jbu t1 k1 t2 k2
theorem jd2 (s1 t1 s2 t2:Int) (A1 B1 A2 B2:Option Addr) (n1 c1 m1 d1 n2 c2 m2 d2:Nat) (l1 k1 l2 k2:List Int) (w:World) (r1:RdI w w.heap.size A1 n1 c1 l1) (q1:RdI w w.heap.size B1 m1 d1 k1) (r2:RdI w w.heap.size A2 n2 c2 l2) (q2:RdI w w.heap.size B2 m2 d2 k2) :
 Calls Tryz.prog 15 #[.agg #[.int .i64 s1,.slice A1 n1 c1,.int .i64 t1,.slice B1 m1 d1],.agg #[.int .i64 s2,.slice A2 n2 c2,.int .i64 t2,.slice B2 m2 d2]] w fun e w'=>e=.returned (.bool (jhz s1 l1 t1 k1 s2 l2 t2 k2))∧Below w.heap.size w w':=by
 have K:=((((St.start w).oldRd r1).oldRd q1).oldRd r2).oldRd q2
 have r:=K.raw
 have H1:=jpk (fun W h g=>jdD s1 s2 A1 A2 n1 c1 n2 c2 l1 l2 W h g)
 have H2:=jpk (fun W h g=>jdD t1 t2 B1 B2 m1 d1 m2 d2 k1 k2 W h g)
 unfold jhz
 clear r1 q1 r2 q2
 cases h1:jbu s1 l1 s2 l2
 ·rw [h1] at H1
  rw [Bool.false_and]
  clear h1
  go_enter Tryz.func15,Tryz.ntmps15
  go_wp2_with (first|(refine ZAL ?_;clear K r;(first|((fail_if_success revert b0);intro W b0 K r)|((fail_if_success revert b1);intro W b1 K r)|intro W b K r))|(refine ZST ?_;clear K r;intro W K r))
  refine (H1.out _ ZRD ZRD).mono ?_
  rintro e W' ⟨rfl,hb⟩
  replace K:=K.keep hb
  clear r
  have r:=K.rawS
  clear hb
  exact ZQ20
 ·rw [h1] at H1
  rw [Bool.true_and]
  clear h1
  generalize jbu t1 k1 t2 k2=R at *
  go_enter Tryz.func15,Tryz.ntmps15
  go_wp2_with (first|(refine ZAL ?_;clear K r;(first|((fail_if_success revert b0);intro W b0 K r)|((fail_if_success revert b1);intro W b1 K r)|intro W b K r))|(refine ZST ?_;clear K r;intro W K r))
  refine (H1.out _ ZRD ZRD).mono ?_
  rintro e W' ⟨rfl,hb⟩
  replace K:=K.keep hb
  clear r
  have r:=K.rawS
  clear hb
  go_wp2_with (first|(refine ZAL ?_;clear K r;(first|((fail_if_success revert b0);intro W b0 K r)|((fail_if_success revert b1);intro W b1 K r)|intro W b K r))|(refine ZST ?_;clear K r;intro W K r))
  refine (H2.out _ ZRD ZRD).mono ?_
  rintro e W' ⟨rfl,hb⟩
  replace K:=K.keep hb
  clear r
  have r:=K.rawS
  clear hb
  exact ZQ20
def fewF (n m:Nat) (N:Int):Bool:=decide ((n:Int)≤N)&&decide ((m:Int)≤N)
theorem jmt (s t:Int) (A A':Option Addr) (n cap n' cap':Nat) (N:Int) (w:World) :
 Calls Tryz.prog 9 #[.agg #[.int .i64 s,.slice A n cap,.int .i64 t,.slice A' n' cap'],.int .i64 N] w fun e w'=>e=.returned (.bool (fewF n n' N))∧Below w.heap.size w w':=by
 have K:=St.start w
 have r:=K.raw
 unfold fewF
 cases h1:decide ((n:Int)≤N)
 ·rw [Bool.false_and]
  go_enter Tryz.func9,Tryz.ntmps9
  exact ZQ20
 ·rw [Bool.true_and]
  cases h2:decide ((n':Int)≤N)
  all_goals
   go_enter Tryz.func9,Tryz.ntmps9
   exact ZQ20
end Go.Proofs.YtgikfcjndiohjaaGreat
