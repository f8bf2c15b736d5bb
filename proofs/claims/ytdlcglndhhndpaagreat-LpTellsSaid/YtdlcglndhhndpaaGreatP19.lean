/- Laws and walks; conditions stand in each theorem. -/
import Derived.Test.YtdlcglndhhndpaaGreatP18
set_option linter.unusedSimpArgs false
set_option linter.unusedVariables false
namespace Go.Proofs.YtdlcglndhhndpaaGreat
open Go.RowKit
theorem jh8 {x y:Rat} (h:mulK x y=true):jbc (x*y)=true:=by
 unfold mulK at h;rw [Bool.and_eq_true] at h;rw [←jgh];exact jcn (jbA x y) h.1 h.2
theorem jhN {x y:Rat} (h:divK x y=true) (hy:y≠0):jbc (x / y)=true:=by
 unfold divK at h;rw [Bool.and_eq_true] at h;rw [←jgg];have h0:y.num≠0:=fun e=>hy (Rat.num_eq_zero.1 e)
 by_cases hp:0<y.num
 ·exact jcn (Int.mul_pos (jbY x) hp) h.1 h.2
 ·rw [←Rat.neg_divInt_neg];exact jcn (by have:=Int.mul_pos (jbY x) (show 0< -y.num by omega);rw [Int.mul_neg] at this;exact this) (by rw [jbp];exact h.1) (by rw [jbp];exact h.2)
def jfx (x y:Rat):Option Rat:=if divK x y=true then some (x / y) else none
def jfw (x y:Rat):Int:=if divK x y=true then 0 else 6
def jfK (x y:Rat):Option Rat:=if mulK x y=true then some (x*y) else none
def jfJ (x y:Rat):Int:=if mulK x y=true then 0 else 6
def jgr (x:Rat):Option Rat→Option Rat
 | none=>none
 | some y=>if addK x (-y)=true then some (x-y) else none
def jgq (x:Rat):Option Rat→Int
 | none=>1
 | some y=>if addK x (-y)=true then 0 else 6
theorem OptF.zero {s:Int} {l:List Int} {t:Int} {m:List Int} (h:OptF s l t m none):jap s l t m=false:=by
 obtain ⟨rfl,rfl,rfl,rfl⟩:=h
 decide +kernel
section
variable (x y:Rat) (s1 t1 s2 t2:Int) (A1 B1 A2 B2:Option Addr) (n1 c1 m1 d1 n2 c2 m2 d2:Nat) (l1 k1 l2 k2:List Int) (w:World) (r1:RdI w w.heap.size A1 n1 c1 l1) (q1:RdI w w.heap.size B1 m1 d1 k1) (r2:RdI w w.heap.size A2 n2 c2 l2) (q2:RdI w w.heap.size B2 m2 d2 k2)
variable (h1:StdF s1 l1 t1 k1 x) (f1:jbc x=true)
include r1 q1 r2 q2 h1 f1
theorem qDiv (h2:StdF s2 l2 t2 k2 y) (f2:jbc y=true) (hy:y≠0):Calls Tryz.prog 128 #[.agg #[.int .i64 s1,.slice A1 n1 c1,.int .i64 t1,.slice B1 m1 d1],.agg #[.int .i64 s2,.slice A2 n2 c2,.int .i64 t2,.slice B2 m2 d2]] w (FrE w (jfx x y) (jfw x y)):=by
 have h:=jkw s1 t1 s2 t2 A1 B1 A2 B2 n1 c1 m1 d1 n2 c2 m2 d2 l1 k1 l2 k2 w r1 q1 r2 q2;rw [h1.right f1,h2.right f2,h1.rat,h2.rat] at h
 have e1:divO (true&&true) x y=jfx x y:=by
  unfold divO jfx binO;rw [if_neg hy];simp
 have e2:divE (true&&true) x y=jfw x y:=by
  unfold divE jfw binE;rw [if_neg (fun h=>hy h.2)];simp
 rw [e1,e2] at h;exact h
theorem qMul (h2:StdF s2 l2 t2 k2 y) (f2:jbc y=true):Calls Tryz.prog 52 #[.agg #[.int .i64 s1,.slice A1 n1 c1,.int .i64 t1,.slice B1 m1 d1],.agg #[.int .i64 s2,.slice A2 n2 c2,.int .i64 t2,.slice B2 m2 d2]] w (FrE w (jfK x y) (jfJ x y)):=by
 have h:=jkx s1 t1 s2 t2 A1 B1 A2 B2 n1 c1 m1 d1 n2 c2 m2 d2 l1 k1 l2 k2 w r1 q1 r2 q2;rw [h1.right f1,h2.right f2,h1.rat,h2.rat] at h
 have e1:binO (true&&true) (mulK x y) (x*y)=jfK x y:=by
  unfold jfK binO;simp
 have e2:binE (true&&true) (mulK x y)=jfJ x y:=by
  unfold jfJ binE;simp
 rw [e1,e2] at h;exact h
theorem qSub (o:Option Rat) (h2:OptF s2 l2 t2 k2 o) (f2:∀z,o=some z→jbc z=true):Calls Tryz.prog 42 #[.agg #[.int .i64 s1,.slice A1 n1 c1,.int .i64 t1,.slice B1 m1 d1],.agg #[.int .i64 s2,.slice A2 n2 c2,.int .i64 t2,.slice B2 m2 d2]] w (FrE w (jgr x o) (jgq x o)):=by
 have h:=jkz s1 t1 s2 t2 A1 B1 A2 B2 n1 c1 m1 d1 n2 c2 m2 d2 l1 k1 l2 k2 w r1 q1 r2 q2;cases o with
 | none =>
  rw [h1.right f1,h2.zero,Bool.and_false,jby,jbx] at h;exact h
 | some z =>
  have h2:StdF s2 l2 t2 k2 z:=h2;rw [h1.right f1,h2.right (f2 z rfl),h1.rat,h2.rat] at h
  have e1:binO (true&&true) (addK x (-z)) (x-z)=jgr x (some z):=by
   unfold jgr binO;simp
  have e2:binE (true&&true) (addK x (-z))=jgq x (some z):=by
   unfold jgq binE;simp
  rw [e1,e2] at h;exact h
end
theorem jeG (x y:Rat):jgq x (some y)=if addK x (-y)=true then 0 else 6:=rfl
theorem jeH (x y:Rat):jgr x (some y)=if addK x (-y)=true then some (x-y) else none:=rfl
def jaM (a f q:Rat):Bool:=mulK f q&&addK a (-(f*q))
def Mm.caps (M:Mm) (n:Nat):Prop:=M.N=n+1∧∀i,i<n→M.N≤M.cp i∧M.cp i≤9223372036854775807
theorem St.thaw {w W:World} {L:List Blk} {D:List Hl} {g:Nat} {cs:Array Value} {t:TypeId} (K:St w L D W) (hb:((g,cs,t):Blk)∈L):∀j,W.frozen? ⟨g,j,none⟩=false:=fun j=>(K.blk hb).thaw
theorem St.setR {w W:World} {L L':List Blk} {D:List Hl} {n i g:Nat} {v:Nat→Rw} {t:TypeId} {J:List Value} (h:St w L D W) (x:Rw) (hi:i<n) (hU:Upd g (rwA n v J) t (rwA n (putF v i x) J) L L') :
 St w L' D ((((W.setCell ⟨g,i*4,none⟩ (.int .i64 x.s)).setCell ⟨g,i*4+1,none⟩ (.slice x.A x.n x.c)).setCell ⟨g,i*4+2,none⟩ (.int .i64 x.t)).setCell ⟨g,i*4+3,none⟩ (.slice x.B x.m x.d)):=by
 refine h.upd hU ((((jbM.set W g _ _).trans (jbM.set _ g _ _)).trans (jbM.set _ g _ _)).trans (jbM.set _ g _ _)) ?_;rw [←jju hi x];exact ((((h.blk hU.mem).set (j:=i*4) (.int .i64 x.s)).set (j:=i*4+1) (.slice x.A x.n x.c)).set (j:=i*4+2) (.int .i64 x.t)).set (j:=i*4+3) (.slice x.B x.m x.d)
def Mm.wV (M:Mm) (V:Nat→Nat→Rw):Mm:={ M with V:=V }
def put2 (V:Nat→Nat→Rw) (r k:Nat) (x:Rw):Nat→Nat→Rw:=putF V r (putF (V r) k x)
theorem jea (V:Nat→Nat→Rw) (r k:Nat) (x:Rw):put2 V r k x r k=x:=by unfold put2;rw [jaf,jaf]
theorem jcr (V:Nat→Nat→Rw) {r k i j:Nat} (x:Rw) (h:¬(i=r∧j=k)):put2 V r k x i j=V i j:=by
 unfold put2;by_cases e:i=r
 ·subst e;rw [jaf,jad (fun e=>h ⟨rfl,e⟩)]
 ·rw [jad e]
section
variable {w W W':World} {L L' L0:List Blk} {D:List Hl} {M:Mm} {n r k:Nat} {V:Nat→Nat→Rw}
theorem Mm.memV (hr:r<n):((M.rb r,rwA M.N (V r) (M.J r),50):Blk)∈(M.wV V).rows n++L0:=Mm.mem (M:=M.wV V) hr
theorem Mm.updV (hr:r<n) (x:Rw):Upd (M.rb r) (rwA M.N (V r) (M.J r)) 50 (rwA M.N (putF (V r) k x) (M.J r)) ((M.wV V).rows n++L0) ((M.wV (put2 V r k x)).rows n++L0):=Mm.upd (M:=M.wV V) hr x
theorem St.cellV (h:St w L D W) (hk:k<M.N) (hb:((M.rb r,rwA M.N (V r) (M.J r),50):Blk)∈L):W.cell? ⟨M.rb r,k*4,none⟩=some (.int .i64 (V r k).s)∧W.cell? ⟨M.rb r,k*4+1,none⟩=some (.slice (V r k).A (V r k).n (V r k).c)∧W.cell? ⟨M.rb r,k*4+2,none⟩=some (.int .i64 (V r k).t)∧W.cell? ⟨M.rb r,k*4+3,none⟩=some (.slice (V r k).B (V r k).m (V r k).d):=by
 have hB:=h.blk hb;exact ⟨hB.cell (jaH (j:=0) hk ZO),hB.cell (jaH (j:=1) hk ZO),hB.cell (jaH (j:=2) hk ZO),hB.cell (jaH (j:=3) hk ZO)⟩
theorem St.famRdV (K:St w L D W) (hm:(M.wV V).fam n∈D) {i j:Nat} (hi:i<n) (hj:j<M.N):St w L (⟨rdP (V i j).B (V i j).m (V i j).d (V i j).k,rdS (V i j).B (V i j).m⟩::⟨rdP (V i j).A (V i j).n (V i j).c (V i j).l,rdS (V i j).A (V i j).n⟩::D) W:=St.famRd (M:=M.wV V) K hm hi hj
theorem St.famPutV (K:St w L D W) (hm:(M.wV V).fam n∈D) (x:Rw) (m2:(⟨rdP x.A x.n x.c x.l,rdS x.A x.n⟩:Hl)∈D) (m3:(⟨rdP x.B x.m x.d x.k,rdS x.B x.m⟩:Hl)∈D) (r k:Nat):St w L ((M.wV (put2 V r k x)).fam n::D) W:=St.famPut (M:=M.wV V) K hm x m2 m3 r k
end
def fxP (A:Option Addr) (n cap:Nat) (v:Nat→Rw):World→Prop:=fun W=>Rd 4 (flat Rw.cs) W W.heap.size A n cap (ofF n v)∧rwP n v W
def fxS (A:Option Addr) (n:Nat) (v:Nat→Rw):Nat→Prop:=fun b=>rdS A n b∨rwS n v b
theorem Rd.only {α:Type} {sz:Nat} {enc:α→List Value} {W W':World} {A:Option Addr} {n cap:Nat} {l:List α} (h:Rd sz (flat enc) W W.heap.size A n cap l) (hs:W.heap.size≤W'.heap.size) (hb:∀b,rdS A n b→W'.heap[b]?=W.heap[b]?):Rd sz (flat enc) W' W'.heap.size A n cap l:=by
 refine ⟨h.1,h.2.1,h.2.2.1,fun hn=>?_⟩;obtain ⟨b',off,e,hlt,hc⟩:=h.2.2.2 hn;refine ⟨b',off,e,Nat.lt_of_lt_of_le hlt hs,fun k hk=>?_⟩;obtain ⟨cs,hr,hlen,hj⟩:=hc k hk;exact ⟨cs,hr,hlen,fun j u hu=>(jbX (p:=⟨b',off+k*sz+j,none⟩) (hb b' ⟨hn,_,e,rfl⟩)).trans (hj j u hu)⟩
theorem jhZ {A:Option Addr} {n cap:Nat} {v:Nat→Rw} {W W':World} (h:fxP A n cap v W) (hs:W.heap.size≤W'.heap.size) (hb:∀b,fxS A n v b→W'.heap[b]?=W.heap[b]?):fxP A n cap v W' :=
 ⟨h.1.only hs fun b hS=>hb b (Or.inl hS),fun i hi=>⟨jbr (h.2 i hi).1 hs fun b hS=>hb b (Or.inr ⟨i,hi,Or.inl hS⟩),jbr (h.2 i hi).2 hs fun b hS=>hb b (Or.inr ⟨i,hi,Or.inr hS⟩)⟩⟩
theorem Rd.sup {α:Type} {sz:Nat} {R:Enc α} {W:World} {B:Nat} {A:Option Addr} {n cap:Nat} {l:List α} (h:Rd sz R W B A n cap l) {b:Nat} (hS:rdS A n b):b<B:=by
 obtain ⟨hn,a,rfl,rfl⟩:=hS;obtain ⟨b',off,e,hlt,-⟩:=h.2.2.2 hn;rw [Option.some.inj e];exact hlt
theorem jk8 {A:Option Addr} {n cap:Nat} {v:Nat→Rw} {W:World} (h:fxP A n cap v W) {b:Nat} (hS:fxS A n v b):b<W.heap.size:=by
 rcases hS with hS|⟨i,hi,hS|hS⟩
 ·exact h.1.sup hS
 ·exact Rd.sup (h.2 i hi).1 hS
 ·exact Rd.sup (h.2 i hi).2 hS
section
variable {w0 w W:World} {L:List Blk} {D:List Hl} {A:Option Addr} {n cap i:Nat} {v:Nat→Rw}
theorem St.fxAdd (K:St w0 L D W) (h:fxP A n cap v W) (hd:∀b,fxS A n v b→∀p∈L,p.1≠b):St w0 L (⟨fxP A n cap v,fxS A n v⟩::D) W :=
 K.add ⟨h,fun b hS=>⟨jk8 h hS,hd b hS⟩,fun W' h1 h2=>jhZ h h1 h2⟩
theorem St.fxOld (K:St w L D W) {l:List Fv} (h:RdF w w.heap.size A n cap l):∃v:Nat→Rw,(∀i,i<n→l[i]?=some (v i).fv)∧St w L (⟨fxP A n cap v,fxS A n v⟩::D) W:=by
 obtain ⟨v,h1,h2,h3⟩:=jjm h;have h0:fxP A n cap v w:=⟨h1,fun i hi=>h2 i hi⟩;have hs:∀b,fxS A n v b→b<w.heap.size:=fun b hS=>jk8 h0 hS
 refine ⟨v,h3,K.fxAdd (jhZ h0 K.1.size fun b hS=>K.1.block b (hs b hS)) fun b hS p hp e=>?_⟩;have g1:=(K.2.1 p hp).1;have g2:=hs b hS;omega
theorem St.fxRd (K:St w0 L D W) (hm:(⟨fxP A n cap v,fxS A n v⟩:Hl)∈D) (hi:i<n):St w0 L (⟨rdP (v i).B (v i).m (v i).d (v i).k,rdS (v i).B (v i).m⟩::⟨rdP (v i).A (v i).n (v i).c (v i).l,rdS (v i).A (v i).n⟩::D) W:=by
 have h:=K.okAt hm;have h1:(⟨rdP (v i).A (v i).n (v i).c (v i).l,rdS (v i).A (v i).n⟩:Hl).ok L W:=⟨(h.1.2 i hi).1,fun b hS=>h.2.1 b (Or.inr ⟨i,hi,Or.inl hS⟩),fun W' g1 g2=>jbr (h.1.2 i hi).1 g1 g2⟩;have h2:(⟨rdP (v i).B (v i).m (v i).d (v i).k,rdS (v i).B (v i).m⟩:Hl).ok L W:=⟨(h.1.2 i hi).2,fun b hS=>h.2.1 b (Or.inr ⟨i,hi,Or.inr hS⟩),fun W' g1 g2=>jbr (h.1.2 i hi).2 g1 g2⟩;exact (K.add h1).add h2
theorem St.fxAt (K:St w0 L D W) (hm:(⟨fxP A n cap v,fxS A n v⟩:Hl)∈D) (hn:0<n):∃b off,A=some ⟨b,off,none⟩:=by
 obtain ⟨b,off,e,-⟩:=(K.okAt hm).1.1.2.2.2 hn;exact ⟨b,off,e⟩
theorem St.fxCell {b off:Nat} (K:St w0 L D W) (hm:(⟨fxP (some ⟨b,off,none⟩) n cap v,fxS (some ⟨b,off,none⟩) n v⟩:Hl)∈D) (hi:i<n) :
 W.cell? ⟨b,off+i*4,none⟩=some (.int .i64 (v i).s)∧W.cell? ⟨b,off+i*4+1,none⟩=some (.slice (v i).A (v i).n (v i).c)∧W.cell? ⟨b,off+i*4+2,none⟩=some (.int .i64 (v i).t)∧W.cell? ⟨b,off+i*4+3,none⟩=some (.slice (v i).B (v i).m (v i).d):=by
 obtain ⟨b',off',e,hlt,hc⟩:=(K.okAt hm).1.1.2.2.2 ZO;cases e;obtain ⟨cs,hr,hlen,hj⟩:=hc i (by rw [jam];exact hi)
 have e2:(ofF n v)[i]'(by rw [jam];exact hi)=v i:=by
  have:=jbf (f:=v) hi;rw [List.getElem?_eq_getElem (by rw [jam];exact hi)] at this;exact Option.some.inj this
 rw [e2] at hr;have hr:cs=(v i).cs:=hr;subst hr;exact ⟨hj 0 _ rfl,hj 1 _ rfl,hj 2 _ rfl,hj 3 _ rfl⟩
theorem St.fxCap (K:St w0 L D W) (hm:(⟨fxP A n cap v,fxS A n v⟩:Hl)∈D):n≤cap∧cap≤9223372036854775807:=⟨(K.okAt hm).1.1.2.1,(K.okAt hm).1.1.2.2.1.1⟩
end
section
variable {P:Program} {o:Oper} {a:Act} {KK:Act→World→Prop} {Q:Exit→Act→World→Prop} {w W:World} {L X:List Blk} {D:List Hl}
theorem St.litOp (K:St w L D W) (ty:TypeId) (x:Operand) (ho:o.op=.buildSlice ty 1 #[(0,x)]) (u:Value) (hx:a.eval x=u) (cs:Array Value) (e:TypeId) (hrun:(Instr.buildSlice ty 1 #[(0,u)]).run P W=.ok (.slice (some ⟨W.heap.size,0,none⟩) 1 1) (W.alloc (.cells cs e)))
 (h:∀b W',St w ((b,cs,e)::L) D W'→KK (a.put o.dst (.slice (some ⟨b,0,none⟩) 1 1)) W'):o.wp P a W KK Q:=by
 unfold Oper.wp execOp;simp [ho,hx,hrun,Oper.upon];exact h _ _ (K.new cs e)
theorem St.appOp {α:Type} {sz:Nat} {enc:α→List Value} {e:TypeId} {v:Value} {l:List α} (K:St w (X++L) D W) (ho:OwL sz enc e v l X) (hs:jbs sz enc) (s x:Operand) (t:TypeId)
 (hop:o.op=.call { callee:=.builtin .append,args:=#[s,x],argTypes:=#[t,t] }) (z:Array Value) (bytes:Nat) (ht:P.underlying t=some (.slice e)) (hi:(P.info? e).map (fun i=>(i.zero.map (·.cells),i.size,i.bytes))=some (some z,sz,bytes)) (hz:z.size=sz)
 (hv:a.eval s=v) (y:α) (b:Nat) (e':TypeId) (hb:((b,(enc y).toArray,e'):Blk)∈L) (hx:a.eval x=.slice (some ⟨b,0,none⟩) 1 1) (hlen:l.length≤1000000) (hbb:bytes≤1000)
 (h:∀v' X' W',OwL sz enc e v' (l++[y]) X'→St w (X'++L) D W'→KK (a.put o.dst v') W'):o.wp P a W KK Q:=by
 obtain ⟨i,h1,h2⟩:=Option.map_eq_some_iff.1 hi;simp only [Prod.mk.injEq] at h2;obtain ⟨h2,h3,h4⟩:=h2;obtain ⟨zv,h5,h6⟩:=Option.map_eq_some_iff.1 h2;have hB:=K.blk (List.mem_append_right X hb)
 have hr:Rd sz (flat enc) W W.heap.size (some ⟨b,0,none⟩) 1 1 [y]:=⟨rfl,Nat.le_refl _,⟨by omega,by omega⟩,fun _=>⟨b,0,rfl,hB.lt,fun k hk=>by
  have hk0:k=0:=by simp at hk;exact hk
  subst hk0
  exact ⟨enc y,rfl,(hs.2 y).1,fun j u hu=>by
   rw [Nat.zero_add,Nat.zero_mul,Nat.zero_add]
   exact hB.cell (by rw [List.getElem?_toArray];exact hu)⟩⟩⟩
 have hbyt:(l.length+1)*bytes≤(1000000+1)*1000:=Nat.mul_le_mul ZO hbb;obtain ⟨v',W',hrun,g1,g2,g3⟩:=jgj (P:=P) W hs w.heap.size t o.type e i zv bytes ht h1 h5 h3 h4 (by rw [h6,hz]) v l (ho.own hs K) W.heap.size (some ⟨b,0,none⟩) 1 1 [y] hr Zb2 ZO K.1.size
 obtain ⟨X',hX,K'⟩:=ho.of hs K g1 (jcP g2) (fun g hg=>by
  rcases g3 with g3|g3
  ·exact Or.inl (g3 ▸ hg)
  ·rw [g3] at hg;injection hg with hg
   right
   omega)
 unfold Oper.wp execOp;simp only [hop,resolve,invoke,builtin,Sem.run_bind,Sem.run_pure,Result.andThen_ok,List.map_toArray,List.map_cons,List.map_nil,hv,hx,hrun];exact h v' X' W' hX K'
theorem St.setOp1 {L':List Blk} (K:St w L D W) (hd:o.dst=none) (ty:TypeId) (x y:Operand) (ho:o.op=.store ty x y) {b off:Nat} {cs cs':Array Value} {t:TypeId} (u:Value) (hx:a.eval x=.pointer (some ⟨b,off,none⟩)) (hy:a.eval y=u) (hu:u.cells=#[u])
 (hU:Upd b cs t cs' L L') (hcs:cs.setIfInBounds off u=cs') (hi:(P.info? ty).map (·.size)=some 1) (hfit:off<cs.size) (h1:u.oneCell'=true) (h:∀W',St w L' D W'→KK a W'):o.wp P a W KK Q:=by
 obtain ⟨W',r1,r2,r3⟩:=jct (P:=P) (off:=off) ty u (K.blk hU.mem) (by rw [hi,hu];rfl) (by rw [hu];simpa using Nat.succ_le_of_lt hfit) (fun z hz=>by rw [hu] at hz;simp at hz;rw [hz];exact h1);have e:spl cs off u.cells.toList=cs':=by rw [hu];exact hcs
 rw [e] at r2;unfold Oper.wp execOp;simp only [ho,hx,hy,Instr.storeAt,Instr.sureAddr,Sem.run_bind,Sem.run_pure,Result.andThen_ok,r1];have:=h W' (K.upd hU r3 r2);have e:a.put o.dst undef=a:=by rw [hd];rfl
 first|exact this|(rw [e];exact this)|(simp only [Oper.upon];first|exact this|(rw [e];exact this))
end
theorem jaa.two {P:Program} {ops:Array Oper} {Q:Exit→Act→World→Prop} {md:Region.Mode} {S:World→Prop} {n i j:Nat} {oi oj:Oper} {fuel:Nat} {listed:Array Bool} {a:Act} {w:World} (hi:ops[i]?=some oi) (hj:ops[j]?=some oj) (hg:oi.guard=none) (hg':oj.guard=none) (hB:(decide (i≠n)&&decide (j≠n)&&decide (Region.ready md ops listed=[i,j]))=true)
 (h:∀K:Act→World→Prop,Hid (∀a' w',S w'→(S w'→jaa P md ops Q S n fuel (listed.setIfInBounds i true) a' w')→K a' w')→oi.wp P a w K Q)
 (h':∀K:Act→World→Prop,Hid (∀a' w',S w'→(S w'→jaa P md ops Q S n fuel (listed.setIfInBounds j true) a' w')→K a' w')→oj.wp P a w K Q):jaa P md ops Q S n (fuel+1) listed a w:=by
 simp only [Bool.and_eq_true,decide_eq_true_eq] at hB;refine ⟨(fun h0=>by rw [hB.2] at h0;cases h0),fun k hk=>?_⟩;rw [hB.2] at hk;have hw:∀o:Oper,o.guard=none→Region.wanted o (yielded ops a.tmps)=true:=fun o hg=>by simp [Region.wanted,hg]
 rcases List.mem_cons.1 hk with rfl|hk
 ·unfold wpOp;simp only [hi,hw oi hg,if_true];exact Or.inl (h _ (jmT fun a' w' hS hW=>⟨fun _=>hS,hW hS⟩))
 ·rw [List.mem_singleton] at hk;subst hk;unfold wpOp;simp only [hj,hw oj hg',if_true];exact Or.inl (h' _ (jmT fun a' w' hS hW=>⟨fun _=>hS,hW hS⟩))
def Dc.nxt (m n:Nat) (D:Dc):Dc:=match D.pick m n with
 | .swap r s=>D.xch r s
 | _=>D
def Dc.live (m n:Nat) (D:Dc):Prop:=∃r s,D.pick m n=.swap r s
def Dc.seq (m n:Nat):Nat→Dc→Dc
 | 0,D=>D
 | t+1,D=>Dc.seq m n t (D.nxt m n)
theorem Dc.seq_succ (m n:Nat):∀(t:Nat) (D:Dc),Dc.seq m n (t+1) D=(Dc.seq m n t D).nxt m n
 | 0,D=>rfl
 | t+1,D=>by
  show Dc.seq m n (t+1) (D.nxt m n)=_;rw [Dc.seq_succ m n t];rfl
def Dc.bas (m:Nat) (D:Dc) (u:Nat):Prop:=∃i,i<m∧D.own i=u
def Dc.great (m n:Nat) (D:Dc) (q:Nat):Prop:=∃r s,D.pick m n=.swap r s∧D.own r≤q∧D.free s≤q
def Dc.pair (m n:Nat) (D:Dc) (q:Nat):Prop:=∃r s,D.pick m n=.swap r s∧max (D.own r) (D.free s)<q
theorem jgR {P:Nat→Prop} (h:∃t,P t):∃t,P t∧∀k,k<t→¬P k:=by
 obtain ⟨t,ht⟩:=h
 induction t using Nat.strongRecOn with
 | _ t ih =>
  by_cases hd:∃k,k<t∧P k
  ·obtain ⟨k,hk,hp⟩:=hd;exact ih k hk hp
  ·exact ⟨t,ht,fun k hk hp=>hd ⟨k,hk,hp⟩⟩
section
variable {m n:Nat} {D:Dc}
theorem jgV (h:D.Ok m n):(D.nxt m n).Ok m n:=by
 unfold Dc.nxt
 split
 ·rename_i r s he
  obtain ⟨h1,h2,-⟩:=Dc.pick_swap h he;exact h.xch h1 h2
 ·exact h
theorem jff (h:D.Ok m n) {r s:Nat} (he:D.pick m n=.swap r s):D.a r s≠0:=by
 obtain ⟨h1,h2,h3|h3⟩:=Dc.pick_swap h he
 ·have:=h3.2.1;intro e;rw [e] at this;exact absurd this Zb4
 ·have:=h3.2.1;intro e;rw [e] at this;exact absurd this Zb4
theorem jkN (h:D.Ok m n):D.Like m n (D.nxt m n):=by
 unfold Dc.nxt
 split
 ·rename_i r s he
  obtain ⟨h1,h2,-⟩:=Dc.pick_swap h he;exact Dc.like_xch h1 h2 (jff h he)
 ·exact Dc.Like.refl m n D
theorem jfU:∀(t:Nat) {D:Dc},D.Ok m n→(Dc.seq m n t D).Ok m n
 | 0,D,h=>h
 | t+1,D,h=>jfU t (jgV h)
theorem jg7:∀(t:Nat) {D:Dc},D.Ok m n→D.Like m n (Dc.seq m n t D)
 | 0,D,h=>Dc.Like.refl m n D
 | t+1,D,h=>(jkN h).trans (jg7 t (jgV h))
theorem jgk (a:Nat):∀(t:Nat) (D:Dc),Dc.seq m n (a+t) D=Dc.seq m n t (Dc.seq m n a D)
 | 0,D=>rfl
 | t+1,D=>by
  rw [←Nat.add_assoc,Dc.seq_succ,Dc.seq_succ,jgk a t]
theorem jmJ (h:D.Ok m n) {q u:Nat} (hg:D.great m n q) (hu:q<u):(D.nxt m n).bas m u↔D.bas m u:=by
 obtain ⟨r,s,he,h1,h2⟩:=hg;obtain ⟨hr,hs,-⟩:=Dc.pick_swap h he;have e:D.nxt m n=D.xch r s:=by unfold Dc.nxt;rw [he]
 rw [e];constructor
 ·rintro ⟨i,hi,ei⟩
  change (if i=r then D.free s else D.own i)=u at ei
  by_cases e:i=r
  ·rw [if_pos e] at ei;omega
  ·rw [if_neg e] at ei;exact ⟨i,hi,ei⟩
 ·rintro ⟨i,hi,ei⟩;have e:i≠r:=fun e=>by rw [e] at ei;omega
  exact ⟨i,hi,by show (if i=r then D.free s else D.own i)=u;rw [if_neg e];exact ei⟩
theorem jgm {u:Nat}:∀(t:Nat) {D:Dc},D.Ok m n→(∀k,k<t→∃q,q<u∧(Dc.seq m n k D).great m n q)→((Dc.seq m n t D).bas m u↔D.bas m u)
 | 0,D,_,_=>Iff.rfl
 | t+1,D,h,hk=>by
  have h0:=hk 0 ZO;obtain ⟨q,hq,hg⟩:=h0;exact (jgm t (jgV h) (fun k hkt=>hk (k+1) ZO)).trans (jmJ h hg hq)
theorem jc9 (h:D.Ok m n) {u:Nat} (hu:u<n+m):¬D.bas m u↔∃j,j<n∧D.free j=u:=by
 constructor
 ·intro hb;rcases h.all u hu with h1|h1
  ·exact absurd h1 hb
  ·exact h1
 ·rintro ⟨j,hj,e⟩ ⟨i,hi,e2⟩;exact h.ne i j hi hj (by rw [e,e2])
theorem twice (h:D.Ok m n) {q t:Nat} (ht:0<t) (hb:∀k,k<t→0<k→∃p,p<q∧(Dc.seq m n k D).great m n p)
 {r s r' s':Nat} (he:D.pick m n=.swap r s) (hm:max (D.own r) (D.free s)=q) (he':(Dc.seq m n t D).pick m n=.swap r' s') (hm':max ((Dc.seq m n t D).own r') ((Dc.seq m n t D).free s')=q):False:=by
 obtain ⟨t,rfl⟩:∃k,t=k+1:=⟨t-1,by omega⟩;have h1:=jgV h;have hT:=jfU (t+1) h;have hl:=jg7 (t+1) h;obtain ⟨hr,hs,hc⟩:=Dc.pick_swap h he;obtain ⟨hr',hs',hc'⟩:=Dc.pick_swap hT he';have hg:D.great m n q:=⟨r,s,he,by omega,by omega⟩
 have hst:∀u,q<u→((Dc.seq m n (t+1) D).bas m u↔D.bas m u):=fun u hu=>jgm (t+1) h (fun k hk=>by
  by_cases e:k=0
  ·subst e;exact ⟨q,hu,hg⟩
  ·obtain ⟨p,hp,hg⟩:=hb k hk ZO
   exact ⟨p,by omega,hg⟩)
 have hbig:∀j,j<n→q<D.free j→∃k,k<n∧(Dc.seq m n (t+1) D).free k=D.free j:=fun j hj hlt=>(jc9 hT (h.lf j hj)).1 fun hx=>(jc9 h (h.lf j hj)).2 ⟨j,hj,rfl⟩ ((hst _ hlt).1 hx)
 have hbig':∀j,j<n→q<(Dc.seq m n (t+1) D).free j→∃k,k<n∧D.free k=(Dc.seq m n (t+1) D).free j:=fun j hj hlt=>(jc9 h (hT.lf j hj)).1 fun hx=>(jc9 hT (hT.lf j hj)).2 ⟨j,hj,rfl⟩ ((hst _ hlt).2 hx)
 have hsame:(Dc.seq m n (t+1) D).bas m q↔(D.nxt m n).bas m q:=jgm t h1 (fun k hk=>hb (k+1) ZO ZO);have e:D.nxt m n=D.xch r s:=by unfold Dc.nxt;rw [he]
 rw [e] at hsame;have hne:=h.ne r s hr hs;have hne':=hT.ne r' s' hr' hs';by_cases hfq:D.free s=q
 ·have hb1:(D.xch r s).bas m q:=⟨r,hr,by show (if r=r then D.free s else D.own r)=q;rw [if_pos rfl];exact hfq⟩;have hb2:=hsame.2 hb1;have hfn:(Dc.seq m n (t+1) D).free s'≠q:=fun e2=>(jc9 hT (by rw [←e2];exact hT.lf s' hs')).2 ⟨s',hs',e2⟩ hb2
  exact Dc.cross h hT hl hr hs hr' hs' hfq ZO ZO ZO hbig hbig' hc hc'
 ·have hoq:D.own r=q:=by omega
  have hb1:¬(D.xch r s).bas m q:=by
   rintro ⟨i,hi,ei⟩
   change (if i=r then D.free s else D.own i)=q at ei
   by_cases e2:i=r
   ·rw [if_pos e2] at ei;exact hfq ei
   ·rw [if_neg e2] at ei;exact e2 (h.io i r hi hr (by rw [ei,hoq]))
  have hb2:¬(Dc.seq m n (t+1) D).bas m q:=fun hx=>hb1 (hsame.1 hx)
  have hon:(Dc.seq m n (t+1) D).own r'≠q:=fun e2=>hb2 ⟨r',hr',e2⟩
  exact Dc.cross hT h hl.symm hr' hs' hr hs ZO hoq ZO ZO hbig' hbig hc' hc
theorem runs:∀(q len:Nat) {D:Dc},D.Ok m n→(∀t,t<len→(Dc.seq m n t D).pair m n q)→len<2 ^ q
 | 0,len,D,h,hall=>by
  by_cases e:len=0
  ·subst e;decide
  ·obtain ⟨r,s,-,h2⟩:=hall 0 ZO;omega
 | q+1,len,D,h,hall=>by
  by_cases hex:∃t,t<len∧¬(Dc.seq m n t D).pair m n q
  ·obtain ⟨t,⟨ht,hn⟩,hmin⟩:=jgR hex;have l1:=runs q t h (fun k hk=>Classical.byContradiction fun hx=>hmin k hk ⟨by omega,hx⟩);obtain ⟨r,s,he,h2⟩:=hall t ht
   have hm:max ((Dc.seq m n t D).own r) ((Dc.seq m n t D).free s)=q:=by
    apply Classical.byContradiction;intro hx;exact hn ⟨r,s,he,by omega⟩
   have hT:=jfU (m:=m) (n:=n) t h
   have l2:=runs q (len-(t+1)) (D:=Dc.seq m n (t+1) D) (jfU (t+1) h) (fun k hk=>by
    apply Classical.byContradiction;intro hx;obtain ⟨u,⟨hu,hux⟩,humin⟩:=jgR (P:=fun u=>u≤k∧¬(Dc.seq m n u (Dc.seq m n (t+1) D)).pair m n q) ⟨k,Nat.le_refl _,hx⟩
    have eq1:∀v,Dc.seq m n (v+1) (Dc.seq m n t D)=Dc.seq m n (t+1+v) D:=fun v=>by
     rw [←jgk,show t+(v+1)=t+1+v by omega]
    have eq2:∀v,Dc.seq m n v (Dc.seq m n (t+1) D)=Dc.seq m n (t+1+v) D:=fun v=>(jgk (t+1) v D).symm
    rw [eq2] at hux;obtain ⟨r',s',he',h2'⟩:=hall (t+1+u) ZO
    have hm':max ((Dc.seq m n (t+1+u) D).own r') ((Dc.seq m n (t+1+u) D).free s')=q:=by
     apply Classical.byContradiction;intro hx;exact hux ⟨r',s',he',by omega⟩
    refine twice hT (q:=q) (t:=u+1) ZO (fun v hv hv0=>?_) he hm (by rw [eq1];exact he') (by rw [eq1];exact hm');have hlt:=humin (v-1) ZO;rw [eq2] at hlt
    have e3:Dc.seq m n v (Dc.seq m n t D)=Dc.seq m n (t+1+(v-1)) D:=by
     rw [←eq1,show v-1+1=v by omega]
    rw [e3];have hpr:(Dc.seq m n (t+1+(v-1)) D).pair m n q:=Classical.byContradiction fun hx=>hlt ⟨by omega,hx⟩
    obtain ⟨r3,s3,he3,h3⟩:=hpr
    exact ⟨q-1,by omega,r3,s3,he3,by omega,by omega⟩)
   rw [Nat.pow_succ];omega
  ·have:=runs q len h (fun t ht=>Classical.byContradiction fun hx=>hex ⟨t,ht,hx⟩);rw [Nat.pow_succ];omega
theorem ends (h:D.Ok m n):∃t,¬(Dc.seq m n t D).live m n:=by
 apply Classical.byContradiction;intro hx
 have:=runs (n+m) (2 ^ (n+m)) h (fun t _=>by
  have hl:(Dc.seq m n t D).live m n:=Classical.byContradiction fun hy=>hx ⟨t,hy⟩
  obtain ⟨r,s,he⟩:=hl;have hT:=jfU (m:=m) (n:=n) t h;obtain ⟨hr,hs,-⟩:=Dc.pick_swap hT he;have:=hT.lo r hr;have:=hT.lf s hs
  exact ⟨r,s,he,by omega⟩)
 omega
end
section
variable {P:Program} {ops:Array Oper} {Q:Exit→Act→World→Prop} {md:Region.Mode} {S:World→Prop} {n:Nat}
theorem jaa.firstA {i:Nat} {oi:Oper} {v:Value} (hi:ops[i]?=some oi) (hsz:ops.size≤n)
 (hsel:∀(j:Nat) (o:Oper) cs b,ops[j]?=some o→o.op≠.select cs b) (hQ:∀c a w,Q (.panic c) (a.put oi.dst v) w→Q (.panic c) a w) (fuel:Nat) :
 ∀(listed:Array Bool) (a:Act) (w:World),(∀j oj,ops[j]?=some oj→j≠i→listed.getD j true=false→(∀e∈oj.after,Region.binds md e=true→e.on≠i)→oi.apart ops oj=true) →
  i∈Region.ready md ops listed→YieldsIf P ops S oi v a→S w→jaa P md ops Q S n fuel (listed.setIfInBounds i true) (a.put oi.dst v) w→jaa P md ops Q S n (fuel+1) listed a w:=by
 induction fuel with
 | zero =>
  intro listed a w _ hr hy hS H;exact ZQ63
 | succ fuel ih =>
  intro listed a w hfree hr hy hS H;refine ⟨(fun h=>by rw [h] at hr;cases hr),fun j hj=>?_⟩;by_cases hji:j=i
  ·subst hji;exact hy.wpOp hi hS ⟨fun _=>hS,H⟩
  obtain ⟨hjun,oj,hoj,hall⟩:=mem_ready.1 hj;have hiun:=jde (mem_ready.1 hr).1
  have hno:∀e∈oj.after,Region.binds md e=true→e.on≠i:=fun e he hb heq=>by
   exact jjX
  have hjn:j≠n:=fun e=>by
   have:=(Array.getElem?_eq_some_iff.1 hoj).1;omega
  exact ZQ49
theorem jaa.takeA {i:Nat} {oi:Oper} {v:Value} {fuel:Nat} {listed:Array Bool} {a:Act} {w:World} (hi:ops[i]?=some oi) (hB:(decide (ops.size≤n)&&Region.noSelect ops&&Region.free md ops listed i&&(Region.ready md ops listed).contains i)=true)
 (hQ:∀c a w,Q (.panic c) (a.put oi.dst v) w→Q (.panic c) a w) (hy:YieldsIf P ops S oi v a) (hS:S w) (h:jaa P md ops Q S n fuel (listed.setIfInBounds i true) (a.put oi.dst v) w):jaa P md ops Q S n (fuel+1) listed a w:=by
 simp only [Bool.and_eq_true,decide_eq_true_eq] at hB;obtain ⟨⟨⟨h1,h3⟩,h4⟩,h5⟩:=hB;exact jaa.firstA hi h1 (Region.noSelect_spec h3) hQ fuel listed a w (Region.free_spec hi h4) (by simpa using h5) hy hS h
theorem jaa.tkA (i:Nat) {oi:Oper} {v:Value} {fuel:Nat} {listed:Array Bool} {a:Act} {w:World} {q:Prop} (hi:ops[i]?=some oi) (k:q) (hB:(decide (ops.size≤n)&&Region.noSelect ops&&Region.free md ops listed i&&(Region.ready md ops listed).contains i)=true:=by decide +kernel)
 (hQ:∀c a w,Q (.panic c) (a.put oi.dst v) w→Q (.panic c) a w:=by exact fun _ _ _ h=>h) (hy:YieldsIf P ops S oi v a:=by (refine Or.inl ⟨by rfl,?_⟩;intro w hSw;(try dsimp only at hSw);go_simp;try with_reducible rfl)) (hS:S w:=by assumption) (h:q→jaa P md ops Q S n fuel (listed.setIfInBounds i true) (a.put oi.dst v) w:=by (intro hq;(try simp only [Act.put,List.setIfInBounds_toArray,List.set_cons_zero,List.set_cons_succ]);exact hq)):jaa P md ops Q S n (fuel+1) listed a w :=
 jaa.takeA hi hB hQ hy hS (h k)
theorem jaa.done {listed:Array Bool} {a:Act} {w:World} (hB:decide (Region.ready md ops listed=[])=true) (h:Q .normal a w):jaa P md ops Q S n 0 listed a w:=⟨of_decide_eq_true hB,h⟩
end
section
variable {P:Program} {ops:Array Oper} {Q:Exit→Act→World→Prop} {md:Region.Mode} {S:World→Prop} {p:Nat}
def jac (P:Program) (md:Region.Mode) (ops:Array Oper) (Q:Exit→Act→World→Prop) (S:World→Prop) (p:Nat):Nat→Array Bool→Act→World→Prop
 | 0,listed,a,w=>Region.ready md ops listed=[]∧Q .normal a w
 | fuel+1,listed,a,w=>(Region.ready md ops listed=[]→Q .normal a w)∧∀i∈Region.ready md ops listed,wpOp P ops Q i (fun a' w'=>((listed.setIfInBounds i true).getD p true=false→S w')∧jac P md ops Q S p fuel (listed.setIfInBounds i true) a' w') a w
theorem jac.any:∀(fuel:Nat) (listed:Array Bool) (a:Act) (w:World),jac P md ops Q S p fuel listed a w→wpAny P md ops Q fuel listed a w
 | 0,_,_,_,h=>h
 | fuel+1,_,_,_,h=>⟨h.1,fun i hi=>wpOp_mono (fun a' w' h'=>jac.any fuel _ a' w' h'.2) (h.2 i hi)⟩
theorem jac.firstU {i:Nat} {oi:Oper} {v:Value} (hi:ops[i]?=some oi) (hin:i≠p)
 (hsel:∀(j:Nat) (o:Oper) cs b,ops[j]?=some o→o.op≠.select cs b) (hQ:∀c a w,Q (.panic c) (a.put oi.dst v) w→Q (.panic c) a w) (fuel:Nat) :
 ∀(listed:Array Bool) (a:Act) (w:World),(∀j oj,ops[j]?=some oj→j≠i→listed.getD j true=false→(∀e∈oj.after,Region.binds md e=true→e.on≠i)→oi.apart ops oj=true) →
  i∈Region.ready md ops listed→YieldsIf P ops (fun _=>True) oi v a→(listed.getD p true=false→S w)→jac P md ops Q S p fuel (listed.setIfInBounds i true) (a.put oi.dst v) w→jac P md ops Q S p (fuel+1) listed a w:=by
 induction fuel with
 | zero =>
  intro listed a w _ hr hy hS H;refine ⟨(fun h=>by rw [h] at hr;cases hr),fun j hj=>?_⟩;by_cases hji:j=i
  ·subst hji;exact hy.wpOp hi trivial ⟨fun hl=>hS (by rw [getD_set_ne true hin] at hl;exact hl),H⟩
  ·have h1:=ready_mono (i:=i) hj hji;rw [H.1] at h1;cases h1
 | succ fuel ih =>
  intro listed a w hfree hr hy hS H;refine ⟨(fun h=>by rw [h] at hr;cases hr),fun j hj=>?_⟩;by_cases hji:j=i
  ·subst hji;exact hy.wpOp hi trivial ⟨fun hl=>hS (by rw [getD_set_ne true hin] at hl;exact hl),H⟩
  obtain ⟨hjun,oj,hoj,hall⟩:=mem_ready.1 hj;have hiun:=jde (mem_ready.1 hr).1
  have hno:∀e∈oj.after,Region.binds md e=true→e.on≠i:=fun e he hb heq=>by
   exact jjX
  have h2:=wpOp_putIf hoj (hfree j oj hoj hji hjun hno) (fun cs b=>hsel i oi cs b hi) (fun cs b=>hsel j oj cs b hoj) hQ hy (H.2 j (ready_mono hj hji));refine wpOp_mono (fun a' w' h3=>?_) h2
  have hS':(listed.setIfInBounds j true).getD p true=false→S w':=fun hl=>h3.2.1 (by
   rw [Array.setIfInBounds_comm _ _ (Ne.symm hji),getD_set_ne true hin]
   exact hl)
  refine ⟨hS',ih (listed.setIfInBounds j true) a' w' (fun k ok hk hki hun hno'=>?_) (ready_mono hr (Ne.symm hji)) h3.1 hS' ?_⟩
  ·refine hfree k ok hk hki ?_ hno';by_cases hjk:j=k
   ·rw [←hjk];exact hjun
   ·rw [getD_set_ne true hjk] at hun;exact hun
  ·rw [Array.setIfInBounds_comm _ _ hji];exact h3.2.2
theorem jac.first {i:Nat} {oi:Oper} {v:Value} (hi:ops[i]?=some oi) (hin:i≠p) (hwait:∀on,ops[p]?=some on→∃e∈on.after,Region.binds md e=true∧e.on=i)
 (hsel:∀(j:Nat) (o:Oper) cs b,ops[j]?=some o→o.op≠.select cs b) (hQ:∀c a w,Q (.panic c) (a.put oi.dst v) w→Q (.panic c) a w) (fuel:Nat) :
 ∀(listed:Array Bool) (a:Act) (w:World),(∀j oj,ops[j]?=some oj→j≠i→listed.getD j true=false→(∀e∈oj.after,Region.binds md e=true→e.on≠i)→oi.apart ops oj=true) →
  i∈Region.ready md ops listed→YieldsIf P ops S oi v a→S w→listed.getD p true=false→jac P md ops Q S p fuel (listed.setIfInBounds i true) (a.put oi.dst v) w→jac P md ops Q S p (fuel+1) listed a w:=by
 induction fuel with
 | zero =>
  intro listed a w _ hr hy hS hp H;exact ZQ63
 | succ fuel ih =>
  intro listed a w hfree hr hy hS hp H;refine ⟨(fun h=>by rw [h] at hr;cases hr),fun j hj=>?_⟩;by_cases hji:j=i
  ·subst hji;exact hy.wpOp hi hS ⟨fun _=>hS,H⟩
  obtain ⟨hjun,oj,hoj,hall⟩:=mem_ready.1 hj;have hiun:=jde (mem_ready.1 hr).1
  have hno:∀e∈oj.after,Region.binds md e=true→e.on≠i:=fun e he hb heq=>by
   exact jjX
  have hjp:j≠p:=fun e=>by
   subst e;obtain ⟨e,he,hb,heq⟩:=hwait oj hoj;exact hno e he hb heq
  have h2:=wpOp_putIf hoj (hfree j oj hoj hji hjun hno) (fun cs b=>hsel i oi cs b hi) (fun cs b=>hsel j oj cs b hoj) hQ hy (H.2 j (ready_mono hj hji));refine wpOp_mono (fun a' w' h3=>?_) h2
  have hp':(listed.setIfInBounds j true).getD p true=false:=by
   rw [getD_set_ne true hjp];exact hp
  have hS':=h3.2.1 (by
   rw [Array.setIfInBounds_comm _ _ (Ne.symm hji),getD_set_ne true hin]
   exact hp')
  refine ⟨fun _=>hS',ih (listed.setIfInBounds j true) a' w' (fun k ok hk hki hun hno'=>?_) (ready_mono hr (Ne.symm hji)) h3.1 hS' hp' ?_⟩
  ·refine hfree k ok hk hki ?_ hno';by_cases hjk:j=k
   ·rw [←hjk];exact hjun
   ·rw [getD_set_ne true hjk] at hun;exact hun
  ·rw [Array.setIfInBounds_comm _ _ hji];exact h3.2.2
theorem jac.take {i:Nat} {oi:Oper} {v:Value} {fuel:Nat} {listed:Array Bool} {a:Act} {w:World} (hi:ops[i]?=some oi) (hB:(decide (i≠p)&&jej md ops p i&&Region.noSelect ops&&Region.free md ops listed i&&(Region.ready md ops listed).contains i&&(listed.getD p true==false))=true)
 (hQ:∀c a w,Q (.panic c) (a.put oi.dst v) w→Q (.panic c) a w) (hy:YieldsIf P ops S oi v a) (hS:S w) (h:jac P md ops Q S p fuel (listed.setIfInBounds i true) (a.put oi.dst v) w):jac P md ops Q S p (fuel+1) listed a w:=by
 simp only [Bool.and_eq_true,decide_eq_true_eq,beq_iff_eq] at hB;obtain ⟨⟨⟨⟨⟨h1,h2⟩,h3⟩,h4⟩,h5⟩,h6⟩:=hB;refine jac.first hi h1 (fun on hon=>?_) (Region.noSelect_spec h3) hQ fuel listed a w (Region.free_spec hi h4) (by simpa using h5) hy hS h6 h;unfold jej at h2;rw [hon] at h2;obtain ⟨e,he,hb⟩:=Array.any_eq_true'.1 h2;rw [Bool.and_eq_true,beq_iff_eq] at hb;exact ⟨e,he,hb⟩
theorem jac.takeU {i:Nat} {oi:Oper} {v:Value} {fuel:Nat} {listed:Array Bool} {a:Act} {w:World} (hi:ops[i]?=some oi) (hB:(decide (i≠p)&&Region.noSelect ops&&Region.free md ops listed i&&(Region.ready md ops listed).contains i)=true)
 (hQ:∀c a w,Q (.panic c) (a.put oi.dst v) w→Q (.panic c) a w) (hy:YieldsIf P ops (fun _=>True) oi v a) (hS:listed.getD p true=false→S w) (h:jac P md ops Q S p fuel (listed.setIfInBounds i true) (a.put oi.dst v) w):jac P md ops Q S p (fuel+1) listed a w:=by
 simp only [Bool.and_eq_true,decide_eq_true_eq] at hB;obtain ⟨⟨⟨h1,h3⟩,h4⟩,h5⟩:=hB;exact jac.firstU hi h1 (Region.noSelect_spec h3) hQ fuel listed a w (Region.free_spec hi h4) (by simpa using h5) hy hS h
theorem jac.takeF {i:Nat} {oi:Oper} {v:Value} {fuel:Nat} {listed:Array Bool} {a:Act} {w:World} (hi:ops[i]?=some oi) (hB:(decide (i≠p)&&Region.noSelect ops&&Region.free md ops listed i&&(Region.ready md ops listed).contains i&&(listed.getD p true==true))=true)
 (hQ:∀c a w,Q (.panic c) (a.put oi.dst v) w→Q (.panic c) a w) (hy:YieldsIf P ops (fun _=>True) oi v a) (h:jac P md ops Q S p fuel (listed.setIfInBounds i true) (a.put oi.dst v) w):jac P md ops Q S p (fuel+1) listed a w:=by
 rw [Bool.and_eq_true] at hB;obtain ⟨h1,h2⟩:=hB;rw [beq_iff_eq] at h2;exact jac.takeU hi h1 hQ hy (fun e=>by rw [h2] at e;cases e) h
theorem jac.oneF {i:Nat} {o:Oper} {fuel:Nat} {listed:Array Bool} {a:Act} {w:World} (ho:ops[i]?=some o) (hg:o.guard=none) (hB:(decide (Region.ready md ops listed=[i])&&((listed.setIfInBounds i true).getD p true==true))=true)
 (h:∀K:Act→World→Prop,Hid (∀a' w',jac P md ops Q S p fuel (listed.setIfInBounds i true) a' w'→K a' w')→o.wp P a w K Q):jac P md ops Q S p (fuel+1) listed a w:=by
 rw [Bool.and_eq_true,beq_iff_eq] at hB;have hR:=of_decide_eq_true hB.1;refine ⟨(fun h0=>by rw [hR] at h0;cases h0),fun j hj=>?_⟩;rw [hR,List.mem_singleton] at hj;subst hj;have hw:Region.wanted o (yielded ops a.tmps)=true:=by simp [Region.wanted,hg]
 unfold wpOp;simp only [ho,hw,if_true];exact Or.inl (h _ (jmT fun a' w' hW=>⟨(fun e=>by rw [hB.2] at e;cases e),hW⟩))
theorem jac.one {i:Nat} {o:Oper} {fuel:Nat} {listed:Array Bool} {a:Act} {w:World} (ho:ops[i]?=some o) (hg:o.guard=none) (hB:decide (Region.ready md ops listed=[i])=true)
 (h:∀K:Act→World→Prop,Hid (∀a' w',((listed.setIfInBounds i true).getD p true=false→S w')→(((listed.setIfInBounds i true).getD p true=false→S w')→jac P md ops Q S p fuel (listed.setIfInBounds i true) a' w')→K a' w')→o.wp P a w K Q):jac P md ops Q S p (fuel+1) listed a w:=by
 have hB:=of_decide_eq_true hB;refine ⟨(fun h0=>by rw [hB] at h0;cases h0),fun j hj=>?_⟩;rw [hB,List.mem_singleton] at hj;subst hj;have hw:Region.wanted o (yielded ops a.tmps)=true:=by simp [Region.wanted,hg]
 unfold wpOp;simp only [ho,hw,if_true];exact Or.inl (h _ (jmT fun a' w' hS hW=>⟨hS,hW hS⟩))
theorem jac.tk (i:Nat) {oi:Oper} {v:Value} {fuel:Nat} {listed:Array Bool} {a:Act} {w:World} {q:Prop} (hi:ops[i]?=some oi) (k:q) (hB:(decide (i≠p)&&jej md ops p i&&Region.noSelect ops&&Region.free md ops listed i&&(Region.ready md ops listed).contains i&&(listed.getD p true==false))=true:=by decide +kernel)
 (hQ:∀c a w,Q (.panic c) (a.put oi.dst v) w→Q (.panic c) a w:=by exact fun _ _ _ h=>h) (hy:YieldsIf P ops S oi v a:=by (refine Or.inl ⟨by rfl,?_⟩;intro w hSw;(try dsimp only at hSw);go_simp;try with_reducible rfl)) (hS:S w:=by assumption) (h:q→jac P md ops Q S p fuel (listed.setIfInBounds i true) (a.put oi.dst v) w:=by (intro hq;(try simp only [Act.put,List.setIfInBounds_toArray,List.set_cons_zero,List.set_cons_succ]);exact hq)):jac P md ops Q S p (fuel+1) listed a w :=
 jac.take hi hB hQ hy hS (h k)
theorem jac.tkU (i:Nat) {oi:Oper} {v:Value} {fuel:Nat} {listed:Array Bool} {a:Act} {w:World} {q:Prop} (hi:ops[i]?=some oi) (k:q) (hB:(decide (i≠p)&&Region.noSelect ops&&Region.free md ops listed i&&(Region.ready md ops listed).contains i)=true:=by decide +kernel)
 (hQ:∀c a w,Q (.panic c) (a.put oi.dst v) w→Q (.panic c) a w:=by exact fun _ _ _ h=>h) (hy:YieldsIf P ops (fun _=>True) oi v a:=by (refine Or.inl ⟨by rfl,?_⟩;intro w hSw;go_simp;try with_reducible rfl)) (hS:listed.getD p true=false→S w:=by exact fun _=>by assumption) (h:q→jac P md ops Q S p fuel (listed.setIfInBounds i true) (a.put oi.dst v) w:=by (intro hq;(try simp only [Act.put,List.setIfInBounds_toArray,List.set_cons_zero,List.set_cons_succ]);exact hq)):jac P md ops Q S p (fuel+1) listed a w :=
 jac.takeU hi hB hQ hy hS (h k)
theorem jac.tkF (i:Nat) {oi:Oper} {v:Value} {fuel:Nat} {listed:Array Bool} {a:Act} {w:World} {q:Prop} (hi:ops[i]?=some oi) (k:q) (hB:(decide (i≠p)&&Region.noSelect ops&&Region.free md ops listed i&&(Region.ready md ops listed).contains i&&(listed.getD p true==true))=true:=by decide +kernel)
 (hQ:∀c a w,Q (.panic c) (a.put oi.dst v) w→Q (.panic c) a w:=by exact fun _ _ _ h=>h) (hy:YieldsIf P ops (fun _=>True) oi v a:=by (refine Or.inl ⟨by rfl,?_⟩;intro w hSw;go_simp;try with_reducible rfl)) (h:q→jac P md ops Q S p fuel (listed.setIfInBounds i true) (a.put oi.dst v) w:=by (intro hq;(try simp only [Act.put,List.setIfInBounds_toArray,List.set_cons_zero,List.set_cons_succ]);exact hq)):jac P md ops Q S p (fuel+1) listed a w :=
 jac.takeF hi hB hQ hy (h k)
theorem jac.on (i:Nat) {o:Oper} {fuel:Nat} {listed:Array Bool} {a:Act} {w:World} (ho:ops[i]?=some o) (h:∀K:Act→World→Prop,Hid (∀a' w',((listed.setIfInBounds i true).getD p true=false→S w')→(((listed.setIfInBounds i true).getD p true=false→S w')→jac P md ops Q S p fuel (listed.setIfInBounds i true) a' w')→K a' w')→o.wp P a w K Q) (hg:o.guard=none:=by rfl) (hB:decide (Region.ready md ops listed=[i])=true:=by kernel_rfl):jac P md ops Q S p (fuel+1) listed a w :=
 jac.one ho hg hB h
theorem jac.onF (i:Nat) {o:Oper} {fuel:Nat} {listed:Array Bool} {a:Act} {w:World} (ho:ops[i]?=some o) (h:∀K:Act→World→Prop,Hid (∀a' w',jac P md ops Q S p fuel (listed.setIfInBounds i true) a' w'→K a' w')→o.wp P a w K Q) (hg:o.guard=none:=by rfl) (hB:(decide (Region.ready md ops listed=[i])&&((listed.setIfInBounds i true).getD p true==true))=true:=by kernel_rfl):jac P md ops Q S p (fuel+1) listed a w :=
 jac.oneF ho hg hB h
theorem jac.two {i j:Nat} {oi oj:Oper} {fuel:Nat} {listed:Array Bool} {a:Act} {w:World} (hi:ops[i]?=some oi) (hj:ops[j]?=some oj) (hg:oi.guard=none) (hg':oj.guard=none) (hB:decide (Region.ready md ops listed=[i,j])=true)
 (h:∀K:Act→World→Prop,Hid (∀a' w',((listed.setIfInBounds i true).getD p true=false→S w')→(((listed.setIfInBounds i true).getD p true=false→S w')→jac P md ops Q S p fuel (listed.setIfInBounds i true) a' w')→K a' w')→oi.wp P a w K Q)
 (h':∀K:Act→World→Prop,Hid (∀a' w',((listed.setIfInBounds j true).getD p true=false→S w')→(((listed.setIfInBounds j true).getD p true=false→S w')→jac P md ops Q S p fuel (listed.setIfInBounds j true) a' w')→K a' w')→oj.wp P a w K Q):jac P md ops Q S p (fuel+1) listed a w:=by
 have hB:=of_decide_eq_true hB;refine ⟨(fun h0=>by rw [hB] at h0;cases h0),fun k hk=>?_⟩;rw [hB] at hk;have hw:∀o:Oper,o.guard=none→Region.wanted o (yielded ops a.tmps)=true:=fun o hg=>by simp [Region.wanted,hg]
 rcases List.mem_cons.1 hk with rfl|hk
 ·unfold wpOp;simp only [hi,hw oi hg,if_true];exact Or.inl (h _ (jmT fun a' w' hS hW=>⟨hS,hW hS⟩))
 ·rw [List.mem_singleton] at hk;subst hk;unfold wpOp;simp only [hj,hw oj hg',if_true];exact Or.inl (h' _ (jmT fun a' w' hS hW=>⟨hS,hW hS⟩))
theorem jac.last {n:Nat} {o:Oper} {fuel:Nat} {listed:Array Bool} {a:Act} {w:World} (ho:ops[n]?=some o) (hB:(decide (Region.ready md ops listed=[n])&&decide (Region.ready md ops (listed.setIfInBounds n true)=[])&&((listed.setIfInBounds n true).getD p true==true))=true)
 (h:wpList P ops Q [o] a w):jac P md ops Q S p (fuel+1) listed a w:=by
 simp only [Bool.and_eq_true,decide_eq_true_eq,beq_iff_eq] at hB;obtain ⟨⟨h1,h2⟩,h3⟩:=hB;refine ⟨(fun h0=>by rw [h1] at h0;cases h0),fun j hj=>?_⟩;rw [h1,List.mem_singleton] at hj;subst hj
 have hw:wpOp P ops Q j (wpList P ops Q []) a w:=by
  unfold wpOp;simp only [ho];exact h
 refine wpOp_mono (fun a' w' hK=>⟨(fun e=>by rw [h3] at e;cases e),?_⟩) hw;cases fuel with
 | zero=>exact ⟨h2,hK⟩
 | succ fuel=>exact ⟨fun _=>hK,fun i hi=>by rw [h2] at hi;cases hi⟩
theorem jbm {id:Nat} {a:Act} {w:World} (p:Nat) (S:World→Prop) (hm:P.follows .mixedOrders=true) (hS:S w.drew) (h:S w.drew→jac P .any ops Q S p ops.size (Array.replicate ops.size false) a w.drew):(Code.region id ops true).wp P Q a w :=
 wp_region_any hm (jac.any _ _ _ _ (h hS))
end
section
variable {w W W':World} {D:List Hl}
def allS (W:World):Nat→Prop:=fun b=>b<W.heap.size
def rowP (x:Rr):World→Prop:=x.on
def rrP (A:Option Addr) (n cap:Nat) (l:List Rv):World→Prop:=fun W=>RdR W W.heap.size A n cap l
theorem St.addA (h:St w [] D W) {P:World→Prop} (hP:∀W':World,W.heap.size≤W'.heap.size→(∀b,b<W.heap.size→W'.heap[b]?=W.heap[b]?)→P W'):St w [] (⟨P,allS W⟩::D) W :=
 h.add ⟨hP W (Nat.le_refl _) (fun _ _=>rfl),fun b hb=>⟨hb,fun p hp=>by cases hp⟩,fun W' h1 h2=>hP W' h1 h2⟩
theorem St.addF (h:St w [] D W) {A:Option Addr} {n cap:Nat} {l:List Fv} (hl:RdF W W.heap.size A n cap l):St w [] (⟨rfQ A n cap l,allS W⟩::D) W:=h.addA fun W' h1 h2=>hl.keep jan h1 fun p hp=>jbX (h2 _ hp)
theorem St.addI (h:St w [] D W) {A:Option Addr} {n cap:Nat} {l:List Int} (hl:RdI W W.heap.size A n cap l):St w [] (⟨rdP A n cap l,allS W⟩::D) W:=h.addA fun W' h1 h2=>hl.keep (jab _) h1 fun p hp=>jbX (h2 _ hp)
theorem St.addR (h:St w [] D W) {A:Option Addr} {n cap:Nat} {l:List Rv} (hl:RdR W W.heap.size A n cap l):St w [] (⟨rrP A n cap l,allS W⟩::D) W:=h.addA fun W' h1 h2=>hl.keep ja7 h1 fun p hp=>jbX (h2 _ hp)
theorem St.addRow (h:St w [] D W) {x:Rr} (hx:x.on W):St w [] (⟨rowP x,allS W⟩::D) W:=h.addA fun W' h1 h2=>⟨hx.1.keep jan h1 (fun p hp=>jbX (h2 _ hp)),hx.2.1.keep (jab _) h1 (fun p hp=>jbX (h2 _ hp)),hx.2.2.keep (jab _) h1 (fun p hp=>jbX (h2 _ hp))⟩
theorem St.getR (h:St w [] D W) {A:Option Addr} {n cap:Nat} {l:List Rv} {S:Nat→Prop} (hm:(⟨rrP A n cap l,S⟩:Hl)∈D):RdR W W.heap.size A n cap l:=h.at hm
theorem St.getRow (h:St w [] D W) {x:Rr} {S:Nat→Prop} (hm:(⟨rowP x,S⟩:Hl)∈D):x.on W:=h.at hm
theorem litE {α β:Type} {sz:Nat} {enc:α→List Value} {R:Enc β} (hs:jbs sz enc) (f:α→β) (on:α→World→Prop) (hon:∀x W',on x W'→R W' W'.heap.size (f x) (enc x)) (xs:List α) (T:TypeId) (cs:Array Value) (hx:∀x∈xs,on x (W.alloc (.cells cs T))) (hcs:cs=(xs.flatMap enc).toArray) (n H:Nat) (hH:W.heap.size=H) (hn:xs.length=n) (hb:n≤1000):Rd sz R (W.alloc (.cells cs T)) (W.alloc (.cells cs T)).heap.size (some ⟨H,0,none⟩) n n (xs.map f):=by
 subst hH hn;refine ⟨by simp,Nat.le_refl _,⟨by omega,by omega⟩,fun hn=>⟨W.heap.size,0,rfl,by simp,fun k hk=>?_⟩⟩;have hk':k<xs.length:=by simpa using hk
 refine ⟨enc xs[k],?_,(hs.2 _).1,fun j u hu=>?_⟩
 ·have e:(xs.map f)[k]=f xs[k]:=by simp
  rw [e];exact hon _ _ (hx xs[k] (List.getElem_mem hk'))
 ·have hj:j<sz:=by
   have:=(List.getElem?_eq_some_iff.1 hu).1;rw [(hs.2 _).1] at this;exact this
  refine ja0 rfl ?_;rw [hcs,List.getElem?_toArray,Nat.zero_add,jbh hs _ _ _ hj,List.getElem?_eq_getElem hk'];exact hu
theorem litR (xs:List Rr) (T:TypeId) (cs:Array Value) (hx:∀x∈xs,x.on (W.alloc (.cells cs T))) (hcs:cs=(xs.flatMap Rr.cs).toArray) (n H:Nat) (hH:W.heap.size=H) (hn:xs.length=n) (hb:n≤1000):RdR (W.alloc (.cells cs T)) (W.alloc (.cells cs T)).heap.size (some ⟨H,0,none⟩) n n (xs.map Rr.rv) :=
 litE jkU Rr.rv Rr.on (fun x W' h=>⟨_,_,_,_,rfl,h.1,_,_,_,_,_,_,rfl,h.2.1,h.2.2⟩) xs T cs hx hcs n H hH hn hb
end
theorem r0:rightL 0 []=true:=by decide +kernel
def Rr.onK (x:Rr) (w w':World):Prop:=∀W:World,w'.heap.size≤W.heap.size→(∀b,w.heap.size≤b→b<w'.heap.size→W.heap[b]?=w'.heap[b]?)→x.on W
theorem FrK.row {w W:World} {L:List Blk} {D:List Hl} {A:Option Addr} {n c:Nat} {a:List Fv} {y:Rw} (h:FrK w W A n c a) (K:St w L D W) (m2:(⟨rdP y.A y.n y.c y.l,rdS y.A y.n⟩:Hl)∈D) (m3:(⟨rdP y.B y.m y.d y.k,rdS y.B y.m⟩:Hl)∈D) (f2:FrA w.heap.size y.A) (f3:FrA w.heap.size y.B):(⟨A,n,c,a,y⟩:Rr).onK w W:=fun W' h1 h2 =>
 ⟨h W' h1 h2,(K.2.2.2 _ m2).2.2 W' h1 (fun b hS=>h2 b (by obtain ⟨-,a,e1,e2⟩:=hS;rw [←e2];exact f2 a e1) ((K.2.2.2 _ m2).2.1 b hS).1),(K.2.2.2 _ m3).2.2 W' h1 (fun b hS=>h2 b (by obtain ⟨-,a,e1,e2⟩:=hS;rw [←e2];exact f3 a e1) ((K.2.2.2 _ m3).2.1 b hS).1)⟩
end Go.Proofs.YtdlcglndhhndpaaGreat
