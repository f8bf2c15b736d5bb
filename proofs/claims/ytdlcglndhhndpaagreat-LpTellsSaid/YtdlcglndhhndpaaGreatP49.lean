/- Laws and walks; conditions stand in each theorem. -/
import Derived.Test.YtdlcglndhhndpaaGreatP47
set_option linter.unusedSimpArgs false
set_option linter.unusedVariables false
set_option maxHeartbeats 2000000
set_option maxRecDepth 100000
namespace Go.Proofs.YtdlcglndhhndpaaGreat
open Go.RowKit
theorem jmz {f:Nat→Nat} {u k:Nat} (h:idxP f u k=none) (hk:f k≠u):idxP f u (k+1)=none:=by
 rw [idxP,h];exact if_neg hk
theorem jkJ {f:Nat→Nat} {u k n:Nat} (h:idxP f u k=none) (hk:f k=u) (hn:k<n):idxP f u n=some k:=by
 have h1:idxP f u (k+1)=some k:=by
  rw [idxP,h];exact if_pos hk
 obtain ⟨d,rfl⟩:∃d,n=k+1+d:=⟨n-(k+1),by omega⟩;clear hn
 induction d with
 | zero=>exact h1
 | succ d ih =>
  show idxP f u ((k+1+d)+1)=some k;rw [idxP,ih]
theorem jeN (A:Option Addr) (n cap:Nat) (f:Nat→Nat) (x:Nat) (w0 W:World) (L:List Blk) (D:List Hl) (K:St w0 L D W) (hn:n≤1000)
 (hA:0<n→∃g,A=some ⟨g,0,none⟩∧(n≤cap∧cap≤9223372036854775807)∧∀(W:World) (D:List Hl),St w0 L D W→∀i,i<n→W.cell? ⟨g,i,none⟩=some (.int .i64 ((f i:Nat):Int))) :
 Calls Tryz.prog 69 #[.slice A n cap,.int .i64 ((x:Nat):Int)] W fun e W'=>e=.returned (.int .i64 (ixI (idxP f x n)))∧St w0 L D W':=by
 have HA:=jmT hA;clear hA;go_enter Tryz.func69,Tryz.ntmps69
 go_wp2_with fail
 go_loopg [5] n (fun gk s5 wr=>∃(k:Nat),k≤n∧gk=n-k∧s5=.int .i64 k∧Hid (idxP f x k=none)∧St w0 L D wr)
 case atStart=>exact ⟨0,Nat.zero_le _,rfl,rfl,jmT rfl,K⟩
 case round =>
  clear K;obtain ⟨k,hk,rfl,rfl,HO,K⟩:=hrel;by_cases hlt:k<n
  ·have hki:(k:Int)<(n:Int):=by omega
   have hk0:(0:Int)≤(k:Int):=by omega
   have hltd:decide (k<n)=true:=decide_eq_true hlt;obtain ⟨g,hg,hcg,hgc⟩:=HA.out ZO;subst hg;have c0:=hgc _ _ K k hlt;by_cases he:f k=x
   ·have HI:=jmT (jkJ HO.out he hlt);have he2:(((f k:Nat):Int)==((x:Nat):Int))=true:=by simp [he]
    have he3:((f k:Nat):Int)=((x:Nat):Int):=by rw [he]
    have he4:decide (((f k:Nat):Int)=((x:Nat):Int))=true:=decide_eq_true he3;have HE:=jmT (show Ending.returned (.int .i64 (k:Int))=.returned (.int .i64 (ixI (idxP f x n)))∧St w0 L D wr from ⟨by rw [HI.out];rfl,K⟩);clear HO HI he HA hgc;go_wp2_with fail;go_ret;exact HE.out
   ·have HI:=jmT (jmz HO.out he);have he3:¬((f k:Nat):Int)=((x:Nat):Int):=by omega
    have he2:(((f k:Nat):Int)==((x:Nat):Int))=false:=by simpa using he3
    have he4:decide (((f k:Nat):Int)=((x:Nat):Int))=false:=decide_eq_false he3;clear HO he;go_wp2_with fail;go_roundg (n-(k+1))
    case rel=>exact ⟨k+1,hlt,rfl,by go_num,HI,K⟩
    case measure=>omega
  ·have e:k=n:=by omega
   have hltd:decide (k<n)=false:=decide_eq_false hlt;have hki:¬(k:Int)<(n:Int):=by omega
   have HE:=jmT (show Ending.returned (.int .i64 (-1))=.returned (.int .i64 (ixI (idxP f x n)))∧St w0 L D wr from ⟨by rw [←e,HO.out];rfl,K⟩);clear HO e hlt K HA;go_wp2_with fail;go_ret;exact HE.out
theorem jdr {q:Rat} (h:jbc q=true):jaM 0 1 q=true:=by
 have h1:fits q.num=true∧fits (q.den:Int)=true:=by
  have h2:jbc q=(fits q.num&&fits q.den):=rfl;rw [h2,Bool.and_eq_true] at h;exact h
 have h3:fits (-q.num)=true:=jbp h1.1;unfold jaM mulK addK sumK;rw [Rat.one_mul,Rat.neg_num,Rat.neg_den];have e0:(0:Rat).num=0:=rfl;have e1:(0:Rat).den=1:=rfl;have e2:(1:Rat).num=1:=rfl;have e3:(1:Rat).den=1:=rfl;have h0:fits 0=true:=by decide
 rw [e0,e1,e2,e3,Int.one_mul,Int.natCast_one,Int.one_mul,Int.mul_one,Int.zero_mul,Int.zero_add,h1.1,h1.2,h3,h0];rfl
section
variable {m N db:Nat} {b:Bool} {G:Dc} {Ld:List Blk} {Dd:List Hl} {w0:World}
theorem DicT.valU (h:DicT m N db b G Ld Dd) {i:Nat} (hi:i<m):∃g c y,isQ y (G.v i)∧(m≤c∧c≤9223372036854775807)∧∀(L:List Blk) (W:World) (D:List Hl),Ld.Sublist L→St w0 L D W→W.cell? ⟨db,0,none⟩=some (.slice (some ⟨g,0,none⟩) m c)∧(W.cell? ⟨g,i*4,none⟩=some (.int .i64 y.s)∧W.cell? ⟨g,i*4+1,none⟩=some (.slice y.A y.n y.c)∧W.cell? ⟨g,i*4+2,none⟩=some (.int .i64 y.t)∧W.cell? ⟨g,i*4+3,none⟩=some (.slice y.B y.m y.d))∧((∀x∈Dd,x∈D)→St w0 L (⟨rdP y.B y.m y.d y.k,rdS y.B y.m⟩::⟨rdP y.A y.n y.c y.l,rdS y.A y.n⟩::D) W):=by
 obtain ⟨hV,hA,hO,hF,hd,Y,V,Xv,Xa,Xo,Xf,Xs,h1,h2,h3,h4,h5,h6,rfl,rfl⟩:=h;obtain ⟨g,c,J,e,rfl,hcap⟩:=h1.blk ZO;injection e with e1 e2 e3
 refine ⟨g,c,Y i,h6.1 i hi,hcap,fun L W D hs K=>?_⟩;have hmem:=hs.subset List.mem_cons_self;refine ⟨?_,?_,fun hD=>?_⟩
 ·rw [←e1,←e2,←e3];exact (K.blk hmem).cell (j:=0) rfl
 ·exact ZQ93
 ·exact jmn
theorem DicT.elemU (h:DicT m N db b G Ld Dd) {i j:Nat} (hi:i<m) (hj:j<N):∃hb hc rb cp x,isQ x (G.a i j)∧(m≤hc∧hc≤9223372036854775807)∧(N≤cp∧cp≤9223372036854775807)∧∀(L:List Blk) (W:World) (D:List Hl),Ld.Sublist L→St w0 L D W→W.cell? ⟨db,1,none⟩=some (.slice (some ⟨hb,0,none⟩) m hc)∧W.cell? ⟨hb,i,none⟩=some (.slice (some ⟨rb,0,none⟩) N cp)∧(W.cell? ⟨rb,j*4,none⟩=some (.int .i64 x.s)∧W.cell? ⟨rb,j*4+1,none⟩=some (.slice x.A x.n x.c)∧W.cell? ⟨rb,j*4+2,none⟩=some (.int .i64 x.t)∧W.cell? ⟨rb,j*4+3,none⟩=some (.slice x.B x.m x.d))∧((∀x∈Dd,x∈D)→St w0 L (⟨rdP x.B x.m x.d x.k,rdS x.B x.m⟩::⟨rdP x.A x.n x.c x.l,rdS x.A x.n⟩::D) W):=by
 obtain ⟨hV,hA,hO,hF,hd,Y,V,Xv,Xa,Xo,Xf,Xs,h1,h2,h3,h4,h5,h6,rfl,rfl⟩:=h;obtain ⟨hb,hc,J,e,rfl,hcap⟩:=h2.blk ZO;injection e with e1 e2 e3
 obtain ⟨rb,cp,J2,f,g,hcp⟩:=(h5 i ZO).blk ZO;injection f with f1 f2 f3
 refine ⟨hb,hc,rb,cp,V i j,h6.2.1 i j hi hj,hcap,hcp,fun L W D hs K=>?_⟩;have hmem:=hs.subset List.mem_cons_self;have hm2:((rb,rwA N (V i) J2,50):Blk)∈L:=hs.subset (List.mem_cons_of_mem _ (List.mem_append_right _ (List.mem_append_right _ (List.mem_append_left _ (jcR (X:=Xs) (i:=i) ZO Zb19)))));have hm3:((hb,recA Hd.cs m hd J,23):Blk)∈L:=hs.subset (List.mem_cons_of_mem _ (List.mem_append_right _ (List.mem_append_left _ List.mem_cons_self)));refine ⟨?_,?_,?_,fun hD=>?_⟩
 ·exact jjR
 ·rw [←f1,←f2,←f3];exact (K.blk hm3).cell (jf9 hi)
 ·exact ZQ38
 ·exact ZQ87
theorem DicT.goalU (h:DicT m N db b G Ld Dd) {j:Nat} (hj:j<N):∃rb cp x,isQ x (G.c j)∧(N≤cp∧cp≤9223372036854775807)∧∀(L:List Blk) (W:World) (D:List Hl),Ld.Sublist L→St w0 L D W→W.cell? ⟨db,2,none⟩=some (.slice (some ⟨rb,0,none⟩) N cp)∧(W.cell? ⟨rb,j*4,none⟩=some (.int .i64 x.s)∧W.cell? ⟨rb,j*4+1,none⟩=some (.slice x.A x.n x.c)∧W.cell? ⟨rb,j*4+2,none⟩=some (.int .i64 x.t)∧W.cell? ⟨rb,j*4+3,none⟩=some (.slice x.B x.m x.d))∧((∀x∈Dd,x∈D)→St w0 L (⟨rdP x.B x.m x.d x.k,rdS x.B x.m⟩::⟨rdP x.A x.n x.c x.l,rdS x.A x.n⟩::D) W):=by
 obtain ⟨hV,hA,hO,hF,hd,Y,V,Xv,Xa,Xo,Xf,Xs,h1,h2,h3,h4,h5,h6,rfl,rfl⟩:=h;obtain ⟨rb,cp,J2,f,g,hcp⟩:=(h5 m ZO).blk ZO;injection f with f1 f2 f3
 refine ⟨rb,cp,V m j,h6.2.2 j hj,hcp,fun L W D hs K=>?_⟩;have hmem:=hs.subset List.mem_cons_self;have hm2:((rb,rwA N (V m) J2,50):Blk)∈L:=hs.subset (List.mem_cons_of_mem _ (List.mem_append_right _ (List.mem_append_right _ (List.mem_append_left _ (jcR (X:=Xs) (i:=m) ZO Zb19)))));refine ⟨?_,?_,fun hD=>?_⟩
 ·rw [←f1,←f2,←f3];exact (K.blk hmem).cell (j:=2) rfl
 ·exact ZQ38
 ·exact ZQ88
theorem DicT.own9 (h:DicT m N db b G Ld Dd):∃v0 v1 v2 v3 v4:Value,((db,#[v0,v1,v2,v3,v4,.bool b],98):Blk)∈Ld:=by
 obtain ⟨hV,hA,hO,hF,hd,Y,V,Xv,Xa,Xo,Xf,Xs,-,-,-,-,-,-,rfl,-⟩:=h;exact ⟨_,_,_,_,_,List.mem_cons_self⟩
end
theorem Upd.ofMem {b:Nat} {cs:Array Value} {t:TypeId}:∀ {L:List Blk},((b,cs,t):Blk)∈L→Upd b cs t cs L L
 | [],h=>absurd h Zb0
 | x::L,h=>by
  rcases List.mem_cons.1 h with rfl|h
  ·exact Upd.head _
  ·exact Upd.tail _ (Upd.ofMem h)
end Go.Proofs.YtdlcglndhhndpaaGreat
