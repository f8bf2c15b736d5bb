/- Laws and walks; conditions stand in each theorem. -/
import Derived.Deep.RegionHeld3
import Derived.Test.YtgikfcjndiohjaaGreatP03
set_option linter.unusedSimpArgs false
set_option linter.unusedVariables false
set_option maxHeartbeats 1000000
set_option maxRecDepth 100000
namespace Go.Proofs.YtgikfcjndiohjaaGreat
open Go.RowKit
def Std (s:Int) (l:List Int) (z:Int):Prop:=s=sgI z∧l=digs z.natAbs
def fits (z:Int):Bool:=decide ((z.natAbs:Int)<pw 60)
theorem jbU {z:Int}:fits z=true↔(z.natAbs:Int)<pw 60:=by unfold fits;exact decide_eq_true_iff
theorem Std.zero:Std 0 [] 0:=⟨rfl,by simp [jax]⟩
theorem Std.of_right {s:Int} {l:List Int} (h:jae s l=true):Std s l (bval s l):=jeF h
theorem Std.val {s:Int} {l:List Int} {z:Int} (h:Std s l z):bval s l=z:=by
 obtain ⟨rfl,rfl⟩:=h
 unfold bval sgI
 rw [jau]
 split
 ·omega
 ·split
  ·omega
  ·omega
theorem Std.right {s:Int} {l:List Int} {z:Int} (h:Std s l z) (hf:fits z=true):jae s l=true:=by
 obtain ⟨rfl,rfl⟩:=h;exact (jkd (jbU.1 hf)).1
theorem jaU {s:Int} {l:List Int} (h:jae s l=true):fits (bval s l)=true:=by
 obtain ⟨h1,h2⟩:=jeF h
 obtain ⟨h3,h4,h5⟩:=jah h
 rw [h2] at h4
 exact jbU.2 (jbs.1 h4)
theorem Std.len {s:Int} {l:List Int} {z:Int} (h:Std s l z):l.length≤60↔fits z=true:=by
 rw [h.2,jbU];exact jbs
theorem Std.mk {s:Int} {l:List Int} (hc:Cn l) (hs:s=1∨s= -1∨l=[]):Std (sgOf s l) (jbK l) (s*Go.Proofs.YtgikfcjndiohjaaGreat.val l):=by
 have h0:=jas hc.1
 have ht:jbK l=l:=by rw [jbC hc.1,←hc.digs]
 unfold Std sgOf
 rw [ht]
 by_cases hl:l=[]
 ·subst hl;simp [sgI,jax,Go.Proofs.YtgikfcjndiohjaaGreat.val]
 ·have hp:=hc.pos hl
  rw [if_neg hl]
  rcases hs with rfl|rfl|h
  ·rw [Int.one_mul];unfold sgI
   rw [if_neg ZO,if_neg ZO]
   exact ⟨rfl,je1 hc ZO⟩
  ·rw [show (-1:Int)*Go.Proofs.YtgikfcjndiohjaaGreat.val l= - Go.Proofs.YtgikfcjndiohjaaGreat.val l by omega];unfold sgI
   rw [if_pos ZO]
   exact ⟨rfl,je1 hc ZO⟩
  ·exact absurd h hl
theorem Std.signs {s:Int} {l:List Int} {z:Int} (h:Std s l z):(l=[]∧s=0∧z=0)∨(l≠[]∧s=1∧0<z)∨(l≠[]∧s= -1∧z<0):=by
 obtain ⟨rfl,rfl⟩:=h
 unfold sgI
 by_cases h1:z<0
 ·right;right;exact ⟨fun e=>by have:=jcD.1 e;omega,if_pos h1,h1⟩
 ·by_cases h2:z=0
  ·left;subst h2;simp [jax]
  ·right;left;exact ⟨fun e=>by have:=jcD.1 e;omega,by rw [if_neg h1,if_neg h2],by omega⟩
def BigR (w:World) (z:Int) (e:Ending) (w':World):Prop:=∃s A n cap l,e=.returned (.agg #[.int .i64 s,.slice A n cap])∧RdI w' w'.heap.size A n cap l∧Std s l z∧FrA w.heap.size A∧Below w.heap.size w w'
def BigE (w:World) (z c:Int) (e:Ending) (w':World):Prop:=∃s A n cap l,e=.returned (.tuple #[.agg #[.int .i64 s,.slice A n cap],.int .i64 c])∧RdI w' w'.heap.size A n cap l∧Std s l z∧FrA w.heap.size A∧Below w.heap.size w w'
def DigR (w:World) (l:List Int) (e:Ending) (w':World):Prop:=∃A n cap,e=.returned (.slice A n cap)∧RdI w' w'.heap.size A n cap l∧FrA w.heap.size A∧Below w.heap.size w w'
theorem jdv {w:World} {l:List Int} {e:Ending} {w':World} (hl:l.length≤100000) (h:(∃v,e=.returned v∧Own 1 iEnc w' w.heap.size 3 v l)∧Below w.heap.size w w'):DigR w l e w':=by
 obtain ⟨⟨v,he,ho⟩,hb⟩:=h
 obtain ⟨A,cap,rfl,hr⟩:=ho.rd jap ZO
 exact ⟨A,_,cap,he,hr,ho.fr rfl,hb⟩
theorem jh0 (A:Option Addr) (n cap:Nat) (l:List Int) (w:World) (hl:RdI w w.heap.size A n cap l) (hn2:n≤100000):Calls Tryz.prog 114 #[.slice A n cap] w (DigR w l) :=
 (jdW A n cap l w hl hn2).mono fun e w' h=>jdv (by rw [hl.len];exact hn2) h
def SigR (w:World) (A:Option Addr) (z:Int) (e:Ending) (w':World):Prop:=∃s A' n cap l,e=.returned (.agg #[.int .i64 s,.slice A' n cap])∧RdI w' w'.heap.size A' n cap l∧Std s l z∧(∀B,FrA B A→FrA B A')∧Below w.heap.size w w'
theorem jbJ (s:Int) (A:Option Addr) (n cap:Nat) (l:List Int) (z:Int) (w:World) (hl:RdI w w.heap.size A n cap l) (hc:Cn l) (hs:s=1∨s= -1∨l=[]) (hz:s*val l=z):Calls Tryz.prog 93 #[.int .i64 s,.slice A n cap] w (SigR w A z) :=
 (jhB s A n cap l w hl).mono fun e w' ⟨⟨A',n',c',he,hr,hA⟩,hb⟩=>⟨_,A',n',c',_,he,hr,by rw [←hz];exact Std.mk hc hs,fun B h=>by
  rcases hA with rfl|rfl
  ·exact FrA.none
  ·exact h,hb⟩
def resZ (ok:Bool) (z:Int):Int:=if ok=true∧fits z=true then z else 0
def errZ (ok:Bool) (z:Int):Int:=if ok=false then 1 else if fits z=true then 0 else 6
def ChkR (w:World) (A:Option Addr) (z c:Int) (e:Ending) (w':World):Prop:=∃s A' n cap l,e=.returned (.tuple #[.agg #[.int .i64 s,.slice A' n cap],.int .i64 c])∧RdI w' w'.heap.size A' n cap l∧Std s l z∧(∀B,FrA B A→FrA B A')∧Below w.heap.size w w'
theorem jcC (ok:Bool) (s:Int) (A:Option Addr) (n cap:Nat) (l:List Int) (z:Int) (w:World) (hl:RdI w w.heap.size A n cap l) (hz:Std s l z):Calls Tryz.prog 92 #[.bool ok,.agg #[.int .i64 s,.slice A n cap]] w (ChkR w A (resZ ok z) (errZ ok z)) :=
 (jf4 ok s A n cap w).mono fun e w' ⟨he,hb⟩=>by
  have hlen:=hz.len
  rw [hl.len] at hlen
  have he1:ckE ok n=errZ ok z:=by
   unfold ckE errZ
   cases ok
   ·simp
   ·exact ZQ92
  rw [he1] at he
  by_cases h:ok=true∧n≤60
  ·rw [if_pos h] at he
   refine ⟨s,A,n,cap,l,he,hl.up (jab _) hb,?_,fun _ h=>h,hb⟩
   rw [resZ,if_pos ⟨h.1,hlen.1 h.2⟩]
   exact hz
  ·rw [if_neg h] at he
   refine ⟨0,none,0,0,[],he,Rd.nil,?_,fun _ _=>FrA.none,hb⟩
   rw [resZ,if_neg (fun h1=>h ⟨h1.1,hlen.2 h1.2⟩)]
   exact Std.zero
theorem jaA {w1 w2:World} {p:Addr} {v:Value} (hb:Below w1.heap.size w1 w2) (h:w1.cell? p=some v):w2.cell? p=some v:=(hb.cell (World.block_lt_of_cell? w1 _ h)).trans h
theorem jd3 {w1 w2:World} {p:Addr} (hb:Below w1.heap.size w1 w2) (h:(w1.cell? p).isSome=true):(w2.cell? p).isSome=true:=by
 obtain ⟨u,hu⟩:=Option.isSome_iff_exists.1 h
 rw [jaA hb hu];rfl
theorem jc0 {w1 w2:World} {p:Addr} (hb:Below w1.heap.size w1 w2) (h:(w1.cell? p).isSome=true) (hf:w1.frozen? p=false):w2.frozen? p=false:=by
 obtain ⟨u,hu⟩:=Option.isSome_iff_exists.1 h
 exact (hb.frozen (World.block_lt_of_cell? w1 _ hu)).trans hf
def jaw (W:World) (p:Addr):Value:=(W.cell? p).getD (.int .i64 0)
theorem jaq {W:World} {p:Addr}:W.cell? p=some (jaw W p)↔(W.cell? p).isSome=true:=by
 unfold jaw
 cases W.cell? p <;> simp
def BxC (w:World) (g:Nat) (L:List (Nat × Nat × Value)) (R:List (Nat × Nat)) (W:World):Prop :=
 Below w.heap.size w W∧(∀p∈L,W.cell? ⟨g+p.1,p.2.1,none⟩=some p.2.2)∧(∀p∈R,W.cell? ⟨g+p.1,p.2,none⟩=some (jaw W ⟨g+p.1,p.2,none⟩))∧∀p∈R,W.frozen? ⟨g+p.1,p.2,none⟩=false
section
variable {w W W':World} {g:Nat} {L:List (Nat × Nat × Value)} {R:List (Nat × Nat)}
theorem BxC.keep (h:BxC w g L R W) (hb:Below W.heap.size W W'):BxC w g L R W' :=
 ⟨h.1.trans (hb.mono h.1.size),fun p hp=>jaA hb (h.2.1 p hp),fun p hp=>jaq.2 (jd3 hb (jaq.1 (h.2.2.1 p hp))),fun p hp=>jc0 hb (jaq.1 (h.2.2.1 p hp)) (h.2.2.2 p hp)⟩
theorem BxC.drew (h:BxC w g L R W):BxC w g L R W.drew:=⟨h.1.drew,h.2.1,h.2.2.1,h.2.2.2⟩
theorem BxC.set (hg:w.heap.size≤g) (h:BxC w g L R W) {b j:Nat} {v:Value} (hb:g≤b) (hL:∀p∈L,g+p.1=b→p.2.1≠j):BxC w g L R (W.setCell ⟨b,j,none⟩ v):=by
 refine ⟨h.1.setCell (by show _≤b;omega) _,fun p hp=>?_,fun p hp=>?_,fun p hp=>by rw [World.frozen?_setCell];exact h.2.2.2 p hp⟩
 ·by_cases e:b=g+p.1
  ·subst e
   rw [World.cell?_setCell_other _ _ _ _ (fun e=>(hL p hp rfl) (by simpa using (Addr.mk.inj e).2.1.symm))];exact h.2.1 p hp
  ·rw [World.cell?_setCell_far _ _ _ _ e];exact h.2.1 p hp
 ·refine jaq.2 ?_
  have h3:=fun p hp=>jaq.1 (h.2.2.1 p hp)
  by_cases e:b=g+p.1
  ·subst e
   by_cases e2:j=p.2
   ·subst e2
    rw [World.cell?_setCell_same' _ _ _ (h3 p hp)];rfl
   ·rw [World.cell?_setCell_other _ _ _ _ (fun e=>e2 (Addr.mk.inj e).2.1)];exact h3 p hp
  ·rw [World.cell?_setCell_far _ _ _ _ e];exact h3 p hp
theorem BxC.lt (h:BxC w g L R W) {m j:Nat} (hm:(m,j)∈R):g+m<W.heap.size:=World.block_lt_of_cell? W _ (h.2.2.1 _ hm)
theorem BxC.set2 (hg:w.heap.size≤g) (h:BxC w g L R W) {b:Nat} {u v:Value} (hb:g≤b) (hL:∀p∈L,g+p.1≠b):BxC w g L R ((W.setCell ⟨b,0,none⟩ u).setCell ⟨b,1,none⟩ v) :=
 (h.set hg hb (fun p hp e=>absurd e (hL p hp))).set hg hb (fun p hp e=>absurd e (hL p hp))
end
theorem jav {W:World} {b:Nat} {u v:Value} (h0:W.cell? ⟨b,0,none⟩=some (jaw W ⟨b,0,none⟩)) (h1:W.cell? ⟨b,1,none⟩=some (jaw W ⟨b,1,none⟩)):((W.setCell ⟨b,0,none⟩ u).setCell ⟨b,1,none⟩ v).cell? ⟨b,0,none⟩=some u∧((W.setCell ⟨b,0,none⟩ u).setCell ⟨b,1,none⟩ v).cell? ⟨b,1,none⟩=some v:=by
 have h0:=jaq.1 h0
 have h1:=jaq.1 h1
 refine ⟨?_,?_⟩
 ·rw [World.cell?_setCell_other _ _ _ _ Zb0];exact World.cell?_setCell_same' _ _ _ h0
 ·exact World.cell?_setCell_same' _ _ _ (by rw [World.cell?_setCell_other _ _ _ _ Zb0];exact h1)
theorem Rd.set2 {W:World} {A:Option Addr} {n cap:Nat} {l:List Int} {b:Nat} {u v:Value} (h:RdI W W.heap.size A n cap l) (hA:∀a,A=some a→a.block≠b):RdI ((W.setCell ⟨b,0,none⟩ u).setCell ⟨b,1,none⟩ v) ((W.setCell ⟨b,0,none⟩ u).setCell ⟨b,1,none⟩ v).heap.size A n cap l:=by
 have hs:((W.setCell ⟨b,0,none⟩ u).setCell ⟨b,1,none⟩ v).heap.size=W.heap.size:=by simp [World.setCell]
 rw [hs]
 refine ⟨h.1,h.2.1,h.2.2.1,fun hn=>?_⟩
 obtain ⟨b',off,rfl,hb,hc⟩:=h.2.2.2 hn
 refine ⟨b',off,rfl,hb,fun k hk'=>?_⟩
 obtain ⟨cs,hr,hl,hj⟩:=hc k hk'
 have hne:=hA _ rfl
 exact ⟨cs,hr,hl,fun j u hu=>by
  rw [World.cell?_setCell_far _ _ _ _ (fun e=>hne e.symm),World.cell?_setCell_far _ _ _ _ (fun e=>hne e.symm)];exact hj j u hu⟩
def Hb (w:World) (g:Nat) (cs:Array Value) (t:TypeId):Prop:=w.heap[g]?=some (.cells cs t (0,0))
theorem Hb.lt {w:World} {g:Nat} {cs:Array Value} {t:TypeId} (h:Hb w g cs t):g<w.heap.size:=(Array.getElem?_eq_some_iff.1 h).1
theorem Hb.of {w w':World} {g:Nat} {cs:Array Value} {t:TypeId} (h:Hb w g cs t) (hb:w'.heap[g]?=w.heap[g]?):Hb w' g cs t:=hb.trans h
theorem Hb.new (w:World) (cs:Array Value) (t:TypeId):Hb (w.alloc (.cells cs t)) w.heap.size cs t:=by unfold Hb World.alloc;exact Array.getElem?_push_size
theorem Hb.cell {w:World} {g j:Nat} {cs:Array Value} {t:TypeId} {u:Value} (h:Hb w g cs t) (hj:cs[j]?=some u):w.cell? ⟨g,j,none⟩=some u:=by
 unfold Hb at h
 simp [World.cell?,h,hj]
theorem Hb.thaw {w:World} {g j:Nat} {cs:Array Value} {t:TypeId} (h:Hb w g cs t):w.frozen? ⟨g,j,none⟩=false:=by
 unfold Hb at h
 simp [World.frozen?,h]
theorem Hb.set {w:World} {g j:Nat} {cs:Array Value} {t:TypeId} (h:Hb w g cs t) (v:Value):Hb (w.setCell ⟨g,j,none⟩ v) g (cs.setIfInBounds j v) t:=by
 unfold Hb at h ⊢
 unfold World.setCell
 simp only
 rw [Array.getElem?_modify,if_pos rfl,h]
 rfl
structure Hl where
 P:World→Prop
 S:Nat→Prop
abbrev Blk:=Nat × Array Value × TypeId
def Hl.ok (h:Hl) (L:List Blk) (W:World):Prop :=
 h.P W∧(∀b,h.S b→b<W.heap.size∧∀p∈L,p.1≠b)∧∀W':World,W.heap.size≤W'.heap.size→(∀b,h.S b→W'.heap[b]?=W.heap[b]?)→h.P W'
theorem Hl.ok.to {h:Hl} {L:List Blk} {W W':World} (hk:h.ok L W) (hs:W.heap.size≤W'.heap.size) (hb:∀b,h.S b→W'.heap[b]?=W.heap[b]?):h.ok L W' :=
 ⟨hk.2.2 W' hs hb,fun b hS=>⟨Nat.lt_of_lt_of_le (hk.2.1 b hS).1 hs,(hk.2.1 b hS).2⟩,fun W'' h1 h2=>hk.2.2 W'' (Nat.le_trans hs h1) (fun b hS=>(h2 b hS).trans (hb b hS))⟩
def St (w:World) (L:List Blk) (D:List Hl) (W:World):Prop :=
 Below w.heap.size w W∧(∀p∈L,w.heap.size≤p.1∧Hb W p.1 p.2.1 p.2.2)∧L.Pairwise (fun p q=>p.1≠q.1)∧∀h∈D,h.ok L W
section
variable {w W W':World} {L L':List Blk} {D:List Hl}
theorem St.start (w:World):St w [] [] w:=⟨Below.refl _ _,(fun p h=>by cases h),List.Pairwise.nil,fun h e=>by cases e⟩
theorem St.keep (h:St w L D W) (hb:Below W.heap.size W W'):St w L D W' :=
 ⟨h.1.trans (hb.mono h.1.size),fun p hp=>⟨(h.2.1 p hp).1,(h.2.1 p hp).2.of (hb.block _ (h.2.1 p hp).2.lt)⟩,h.2.2.1,fun x hx=>(h.2.2.2 x hx).to hb.size (fun b hS=>hb.block _ ((h.2.2.2 x hx).2.1 b hS).1)⟩
theorem St.drew (h:St w L D W):St w L D W.drew:=h.keep (Below.refl _ _).drew
theorem St.drewN (h:St w L D W) (n:Nat):St w L D (W.drewN n):=h.keep (jaH (Below.refl _ _) n)
theorem St.new (h:St w L D W) (cs:Array Value) (t:TypeId):St w ((W.heap.size,cs,t)::L) D (W.alloc (.cells cs t)):=by
 have h1:=h.keep ((Below.refl W.heap.size W).alloc (Nat.le_refl _) (.cells cs t))
 refine ⟨h1.1,fun p hp=>?_,List.Pairwise.cons (fun q hq e=>?_) h1.2.2.1,fun x hx=>⟨(h1.2.2.2 x hx).1,fun b hS=>⟨((h1.2.2.2 x hx).2.1 b hS).1,fun p hp=>?_⟩,(h1.2.2.2 x hx).2.2⟩⟩
 ·rcases List.mem_cons.1 hp with rfl|hp
  ·exact ⟨h.1.size,Hb.new W cs t⟩
  ·exact h1.2.1 p hp
 ·have:=(h.2.1 q hq).2.lt
  have e:W.heap.size=q.1:=e
  omega
 ·rcases List.mem_cons.1 hp with rfl|hp
  ·have:=((h.2.2.2 x hx).2.1 b hS).1
   show W.heap.size≠b
   omega
  ·exact ((h1.2.2.2 x hx).2.1 b hS).2 p hp
theorem St.add (h:St w L D W) {x:Hl} (hx:x.ok L W):St w L (x::D) W :=
 ⟨h.1,h.2.1,h.2.2.1,fun y hy=>by
  rcases List.mem_cons.1 hy with rfl|hy
  ·exact hx
  ·exact h.2.2.2 y hy⟩
def oldS (w:World):Nat→Prop:=fun b=>b<w.heap.size
theorem St.old (h:St w L D W) {P:World→Prop} (hP:∀W':World,w.heap.size≤W'.heap.size→(∀b,b<w.heap.size→W'.heap[b]?=w.heap[b]?)→P W'):St w L (⟨P,oldS w⟩::D) W :=
 h.add ⟨hP W h.1.size (fun b hb=>h.1.block b hb),fun b hS=>⟨Nat.lt_of_lt_of_le hS h.1.size,fun p hp=>by have:=(h.2.1 p hp).1;have hS:b<w.heap.size:=hS;omega⟩,fun W' h1 h2=>hP W' (Nat.le_trans h.1.size h1) (fun b hb=>(h2 b hb).trans (h.1.block b hb))⟩
theorem jb9 {w W:World} {p:Addr} (h:W.heap[p.block]?=w.heap[p.block]?):W.cell? p=w.cell? p:=by
 unfold World.cell?
 rw [h]
def rdP (A:Option Addr) (n cap:Nat) (l:List Int):World→Prop:=fun W=>RdI W W.heap.size A n cap l
theorem St.oldRd (h:St w L D W) {A:Option Addr} {n cap:Nat} {l:List Int} (hl:RdI w w.heap.size A n cap l):St w L (⟨rdP A n cap l,oldS w⟩::D) W :=
 h.old fun W' h1 h2=>hl.keep (jab _) h1 fun p hp=>jb9 (h2 _ hp)
def rdS (A:Option Addr) (n:Nat):Nat→Prop:=fun b=>0<n∧∃a,A=some a∧a.block=b
theorem St.ret (h:St w L D W) (hb:Below W.heap.size W W') {A:Option Addr} {n cap:Nat} {l:List Int} (hl:RdI W' W'.heap.size A n cap l) (hA:FrA W.heap.size A):St w L (⟨rdP A n cap l,rdS A n⟩::D) W':=by
 refine (h.keep hb).add ⟨hl,fun b hS=>?_,fun W'' h1 h2=>?_⟩
 ·obtain ⟨hn,a,rfl,rfl⟩:=hS
  obtain ⟨b',off,e,hlt,-⟩:=hl.2.2.2 hn
  injection e with e
  subst e
  refine ⟨hlt,fun p hp=>?_⟩
  have h1:=(h.2.1 p hp).2.lt
  have h2:=hA _ rfl
  omega
 ·refine ⟨hl.1,hl.2.1,hl.2.2.1,fun hn=>?_⟩
  obtain ⟨b',off,e,hlt,hc⟩:=hl.2.2.2 hn
  refine ⟨b',off,e,Nat.lt_of_lt_of_le hlt h1,fun k hk=>?_⟩
  obtain ⟨cs,hr,hlen,hj⟩:=hc k hk
  exact ⟨cs,hr,hlen,fun j u hu=>(jb9 (p:=⟨b',off+k*1+j,none⟩) (h2 b' ⟨hn,_,e,rfl⟩)).trans (hj j u hu)⟩
theorem St.at (h:St w L D W) {P:World→Prop} {S:Nat→Prop} (hm:(⟨P,S⟩:Hl)∈D):P W:=(h.2.2.2 _ hm).1
theorem St.rd (h:St w L D W) {A:Option Addr} {n cap:Nat} {l:List Int} {S:Nat→Prop} (hm:(⟨rdP A n cap l,S⟩:Hl)∈D):RdI W W.heap.size A n cap l:=h.at hm
theorem St.rda (h:St w L D W) {A:Option Addr} {n cap:Nat} {l:List Int} {S:Nat→Prop} (hm:(⟨rdP A n cap l,S⟩:Hl)∈D:=by repeat (first|with_reducible exact List.mem_cons_self|with_reducible apply List.mem_cons_of_mem)):RdI W W.heap.size A n cap l:=h.at hm
theorem St.blk (h:St w L D W) {b:Nat} {cs:Array Value} {t:TypeId} (hm:((b,cs,t):Blk)∈L):Hb W b cs t:=(h.2.1 _ hm).2
def RawC (W:World) (b:Nat):Nat→List Value→Prop
 | _,[]=>True
 | j,u::l=>W.cell? ⟨b,j,none⟩=some u∧RawC W b (j+1) l
def Raw (W:World):List Blk→Prop
 | []=>True
 | (b,cs,_)::L=>RawC W b 0 cs.toList∧Raw W L
theorem Hb.raw {b:Nat} {cs:Array Value} {t:TypeId} (h:Hb W b cs t):∀(l:List Value) (j:Nat),cs.toList.drop j=l→RawC W b j l
 | [],_,_=>trivial
 | u::l,j,e=>⟨h.cell (by
  have h1:(cs.toList.drop j)[0]?=some u:=by rw [e];rfl
  rw [List.getElem?_drop,Nat.add_zero] at h1
  simpa using h1),h.raw l (j+1) (by rw [←List.drop_drop,e];rfl)⟩
theorem jnj:∀ {L:List Blk},(∀p∈L,w.heap.size≤p.1∧Hb W p.1 p.2.1 p.2.2)→Raw W L
 | [],_=>trivial
 | (b,cs,t)::L,h=>⟨(h _ (List.mem_cons_self ..)).2.raw _ 0 rfl,jnj fun p hp=>h p (List.mem_cons_of_mem _ hp)⟩
theorem St.raw (h:St w L D W):Raw W L:=jnj h.2.1
theorem St.rawS (h:St w L D W) {R:Prop} (e:Raw W L=R:=by simp only [Raw,RawC,and_true,true_and,Nat.zero_add,Nat.reduceAdd,List.toList_toArray];rfl):R:=e ▸ h.raw
def RawZ (W:World):List Blk→Prop
 | []=>True
 | (b,_,_)::L=>(∀j,W.frozen? ⟨b,j,none⟩=false)∧RawZ W L
theorem jj9:∀ {L:List Blk},(∀p∈L,w.heap.size≤p.1∧Hb W p.1 p.2.1 p.2.2)→RawZ W L
 | [],_=>trivial
 | (b,cs,t)::L,h=>⟨fun j=>(h _ (List.mem_cons_self ..)).2.thaw,jj9 fun p hp=>h p (List.mem_cons_of_mem _ hp)⟩
def RawN:List Blk→Prop
 | []=>True
 | (b,_,_)::L=>(∀p∈L,b≠p.1∧p.1≠b)∧RawN L
theorem jj8:∀ {L:List Blk},L.Pairwise (fun p q=>p.1≠q.1)→RawN L
 | [],_=>trivial
 | (b,_,_)::L,h=>⟨fun p hp=>⟨(List.pairwise_cons.1 h).1 p hp,fun e=>(List.pairwise_cons.1 h).1 p hp e.symm⟩,jj8 (List.pairwise_cons.1 h).2⟩
theorem St.rawn (h:St w L D W):RawN L:=jj8 h.2.2.1
theorem St.rawz (h:St w L D W):RawZ W L:=jj9 h.2.1
inductive Upd (b:Nat) (cs:Array Value) (t:TypeId) (cs':Array Value):List Blk→List Blk→Prop
 | head (L:List Blk):Upd b cs t cs' ((b,cs,t)::L) ((b,cs',t)::L)
 | tail (x:Blk) {L L':List Blk} (h:Upd b cs t cs' L L'):Upd b cs t cs' (x::L) (x::L')
variable {b:Nat} {cs cs':Array Value} {t:TypeId}
theorem Upd.mem (h:Upd b cs t cs' L L'):(b,cs,t)∈L:=by
 induction h with
 | head L=>exact List.mem_cons_self ..
 | tail x h ih=>exact List.mem_cons_of_mem _ ih
theorem Upd.fsts (h:Upd b cs t cs' L L'):L'.map (·.1)=L.map (·.1):=by
 induction h with
 | head L=>rfl
 | tail x h ih=>simp [ih]
theorem Upd.back (h:Upd b cs t cs' L L') (hd:L.Pairwise (fun p q=>p.1≠q.1)):∀p∈L',p=(b,cs',t)∨(p∈L∧p.1≠b):=by
 induction h with
 | head L =>
  intro p hp
  rcases List.mem_cons.1 hp with rfl|hp
  ·exact Or.inl rfl
  ·exact Or.inr ⟨List.mem_cons_of_mem _ hp,fun e=>(List.pairwise_cons.1 hd).1 p hp e.symm⟩
 | tail x h ih =>
  intro p hp
  rcases List.mem_cons.1 hp with rfl|hp
  ·exact Or.inr ⟨List.mem_cons_self ..,(List.pairwise_cons.1 hd).1 _ h.mem⟩
  ·rcases ih (List.pairwise_cons.1 hd).2 p hp with h1|⟨h1,h2⟩
   ·exact Or.inl h1
   ·exact Or.inr ⟨List.mem_cons_of_mem _ h1,h2⟩
def jbv (b:Nat) (W W':World):Prop:=W'.os=W.os∧W'.tape=W.tape∧W'.output=W.output∧W'.heap.size=W.heap.size∧∀k,k≠b→W'.heap[k]?=W.heap[k]?
theorem jbv.refl (b:Nat) (W:World):jbv b W W:=⟨rfl,rfl,rfl,rfl,fun _ _=>rfl⟩
theorem jbv.trans {b:Nat} {W1 W2 W3:World} (h:jbv b W1 W2) (h':jbv b W2 W3):jbv b W1 W3 :=
 ⟨h'.1.trans h.1,h'.2.1.trans h.2.1,h'.2.2.1.trans h.2.2.1,h'.2.2.2.1.trans h.2.2.2.1,fun k hk=>(h'.2.2.2.2 k hk).trans (h.2.2.2.2 k hk)⟩
theorem jbv.set (W:World) (b j:Nat) (v:Value):jbv b W (W.setCell ⟨b,j,none⟩ v):=⟨rfl,rfl,rfl,by simp [World.setCell],fun k hk=>Below.heap_setCell W ⟨b,j,none⟩ v k hk⟩
theorem St.upd (h:St w L D W) (hU:Upd b cs t cs' L L') (ho:jbv b W W') (hb:Hb W' b cs' t):St w L' D W':=by
 obtain ⟨o1,o2,o3,o4,o5⟩:=ho
 have hbw:=(h.2.1 _ hU.mem).1
 have hbl:Below w.heap.size w W':=h.1.trans ⟨o1,o2,o3,Nat.le_of_eq o4.symm,fun k hk=>o5 k (by have hbw:w.heap.size≤b:=hbw;omega)⟩
 refine ⟨hbl,fun p hp=>?_,?_,fun x hx=>?_⟩
 ·rcases hU.back h.2.2.1 p hp with rfl|⟨h1,h2⟩
  ·exact ⟨hbw,hb⟩
  ·exact ⟨(h.2.1 p h1).1,(h.2.1 p h1).2.of (o5 _ h2)⟩
 ·have h1:(L.map (·.1)).Pairwise (· ≠ ·):=List.pairwise_map.2 h.2.2.1
  rw [←hU.fsts] at h1
  exact List.pairwise_map.1 h1
 ·have hk:=h.2.2.2 x hx
  have hk2:=hk.to (W':=W') (Nat.le_of_eq o4.symm) (fun c hS=>o5 c (fun e=>(hk.2.1 c hS).2 _ hU.mem e.symm))
  refine ⟨hk2.1,fun c hS=>⟨(hk2.2.1 c hS).1,fun p hp=>?_⟩,hk2.2.2⟩
  have h1:p.1∈L'.map (·.1):=List.mem_map.2 ⟨p,hp,rfl⟩
  rw [hU.fsts] at h1
  obtain ⟨q,hq,e⟩:=List.mem_map.1 h1
  rw [←e]
  exact (hk2.2.1 c hS).2 q hq
theorem St.pick (h:St w L D W) (hs:∀p∈L',p∈L) (hp:L'.Pairwise (fun p q=>p.1≠q.1)):St w L' D W :=
 ⟨h.1,fun p hp=>h.2.1 p (hs p hp),hp,fun x hx=>⟨(h.2.2.2 x hx).1,fun b hS=>⟨((h.2.2.2 x hx).2.1 b hS).1,fun p hp=>((h.2.2.2 x hx).2.1 b hS).2 p (hs p hp)⟩,(h.2.2.2 x hx).2.2⟩⟩
theorem St.less (h:St w L D W) {D':List Hl} (hs:∀x∈D',x∈D):St w L D' W:=⟨h.1,h.2.1,h.2.2.1,fun x hx=>h.2.2.2 x (hs x hx)⟩
theorem St.set2 (h:St w L D W) {x y u v:Value} (hU:Upd b #[x,y] t #[u,v] L L'):St w L' D ((W.setCell ⟨b,0,none⟩ u).setCell ⟨b,1,none⟩ v) :=
 h.upd hU ((jbv.set W b 0 u).trans (jbv.set _ b 1 v)) (((h.blk hU.mem).set (j:=0) u).set (j:=1) v)
end
def spl (cs:Array Value) (off:Nat):List Value→Array Value
 | []=>cs
 | v::vs=>spl (cs.setIfInBounds off v) (off+1) vs
section
variable {P:Program} {ops:Array Oper} {rest:List Oper} {o:Oper} {a:Act} {Q:Exit→Act→World→Prop}
theorem jcT {b off:Nat} {t:TypeId}:∀(vs:List Value) (i:Nat) (W:World) (cs:Array Value),Hb W b cs t→off+i+vs.length≤cs.size→(∀v∈vs,v.oneCell'=true) →
 ∃W',(storeCells ⟨b,off,none⟩ vs i).run P W=.ok () W'∧Hb W' b (spl cs (off+i) vs) t∧jbv b W W'
 | [],i,W,cs,h,_,_=>⟨W,by simp [storeCells],h,jbv.refl _ _⟩
 | v::vs,i,W,cs,h,hl,h1=>by
  have hlt:off+i<cs.size:=by simp only [List.length_cons] at hl;omega
  have hc:W.cell? ⟨b,off+i,none⟩=some cs[off+i]:=h.cell (Array.getElem?_eq_getElem hlt)
  have hst:(store (⟨b,off+i,none⟩:Addr) v).run P W=.ok () (W.setCell ⟨b,off+i,none⟩ v):=by
   rw [run_store P W _ v _ (h1 v (List.mem_cons_self ..)),hc]
   simp [h.thaw]
  have ha:(⟨b,off,none⟩:Addr).add i=⟨b,off+i,none⟩:=jgt b off i
  obtain ⟨W',r1,r2,r3⟩:=jcT (off:=off) vs (i+1) (W.setCell ⟨b,off+i,none⟩ v) (cs.setIfInBounds (off+i) v) (h.set v) (by simp only [List.length_cons] at hl;simp;omega) (fun u hu=>h1 u (List.mem_cons_of_mem _ hu))
  refine ⟨W',?_,by rw [spl];exact r2,(jbv.set _ _ _ _).trans r3⟩
  simp only [storeCells,ha,Sem.run_bind,hst,Result.andThen_ok]
  exact r1
variable {w W:World} {L L':List Blk} {D:List Hl} {b off:Nat} {cs cs':Array Value} {t:TypeId}
theorem jcj (ty:TypeId) (v:Value) (hb:Hb W b cs t) (hi:(P.info? ty).map (·.size)=some v.cells.size) (hfit:off+v.cells.size≤cs.size) (h1:∀u∈v.cells.toList,u.oneCell'=true) :
 ∃W',(storeVar ty ⟨b,off,none⟩ v).run P W=.ok () W'∧Hb W' b (spl cs off v.cells.toList) t∧jbv b W W':=by
 obtain ⟨W',r1,r2,r3⟩:=jcT (P:=P) (off:=off) v.cells.toList 0 W cs hb (by simpa using hfit) h1
 refine ⟨W',?_,r2,r3⟩
 cases hq:P.info? ty with
 | none=>simp [hq] at hi
 | some i =>
  have hs:i.size=v.cells.size:=by simpa [hq] using hi
  simp [storeVar,sizeOf,typeInfo,hq,hs,r1]
theorem St.store (K:St w L D W) (hgd:o.guard=none) (hd:o.dst=none) (ty:TypeId) (x y:Operand) (ho:o.op=.store ty x y) (v:Value) (hx:a.eval x=.pointer (some ⟨b,off,none⟩)) (hy:a.eval y=v) (vs:List Value) (hvs:v.cells.toList=vs)
 (hU:Upd b cs t cs' L L') (hcs:spl cs off vs=cs') (hi:(P.info? ty).map (·.size)=some vs.length) (hfit:off+vs.length≤cs.size) (h1:∀u∈vs,u.oneCell'=true) (h:∀W',St w L' D W'→wpList P ops Q rest a W'):wpList P ops Q (o::rest) a W:=by
 subst hvs
 have hn:v.cells.toList.length=v.cells.size:=by simp
 rw [hn] at hi hfit
 obtain ⟨W',r1,r2,r3⟩:=jcj (P:=P) (off:=off) ty v (K.blk hU.mem) hi hfit h1
 rw [hcs] at r2
 refine wpList_plain hgd fun _ hK=>?_
 unfold Oper.wp execOp
 simp only [ho,hx,hy,Instr.storeAt,Instr.sureAddr,Sem.run_bind,Sem.run_pure,Result.andThen_ok,r1]
 have:=h W' (K.upd hU r3 r2)
 have e:a.put o.dst undef=a:=by rw [hd];rfl
 exact hK _ _ (by first|exact this|(rw [e];exact this))
theorem jdz:∀(vs:List Value) (cs:Array Value) (off j:Nat),off+vs.length≤cs.size→(spl cs off vs)[j]?=if off≤j∧j<off+vs.length then vs[j-off]? else cs[j]?
 | [],cs,off,j,_=>by
  rw [spl,if_neg (by simp only [List.length_nil];omega)]
 | v::vs,cs,off,j,h=>by
  simp only [List.length_cons] at h
  rw [spl,jdz vs _ _ _ (by simp;omega)]
  simp only [List.length_cons]
  by_cases e:j=off
  ·subst e
   rw [if_neg ZO,if_pos ZO,Array.getElem?_setIfInBounds_self_of_lt ZO]
   simp
  ·rw [Array.getElem?_setIfInBounds_ne ZO]
   by_cases h1:off+1≤j∧j<off+1+vs.length
   ·rw [if_pos h1,if_pos ZO,show j-off=(j-(off+1))+1 by omega,List.getElem?_cons_succ]
   ·rw [if_neg h1,if_neg ZO]
theorem jmU {cs cs':Array Value} (h:cs'.size=cs.size):spl cs 0 cs'.toList=cs':=by
 apply Array.ext_getElem?
 intro j
 have hl:cs'.toList.length=cs'.size:=by simp
 rw [jdz _ _ _ _ ZO]
 by_cases hj:j<cs'.size
 ·rw [if_pos ZO];simp
 ·rw [if_neg ZO,Array.getElem?_eq_none ZO,Array.getElem?_eq_none ZO]
theorem St.storeA (K:St w L D W) (hgd:o.guard=none) (hd:o.dst=none) (ty:TypeId) (x y:Operand) (ho:o.op=.store ty x y) (hx:a.eval x=.pointer (some ⟨b,0,none⟩)) (hy:a.eval y=.agg cs')
 (hU:Upd b cs t cs' L L') {k:Nat} (hi:(P.info? ty).map (·.size)=some k) (hk:cs'.size=k) (hsz:cs'.size=cs.size) (h1:cs'.toList.all (·.oneCell')=true) (h:∀W',St w L' D W'→wpList P ops Q rest a W'):wpList P ops Q (o::rest) a W :=
 K.store (off:=0) hgd hd ty x y ho (.agg cs') hx hy cs'.toList rfl hU (jmU hsz) (by rw [hi,←hk];simp) (by simp [hsz]) (fun u hu=>List.all_eq_true.1 h1 u hu) h
theorem St.store1 (K:St w L D W) (hgd:o.guard=none) (hd:o.dst=none) (ty:TypeId) (x y:Operand) (ho:o.op=.store ty x y) (v:Value) (hx:a.eval x=.pointer (some ⟨b,off,none⟩)) (hy:a.eval y=v) (hv:v.cells=#[v])
 (hU:Upd b cs t cs' L L') (hcs:cs.setIfInBounds off v=cs') (hi:(P.info? ty).map (·.size)=some 1) (hfit:off<cs.size) (h1:v.oneCell'=true) (h:∀W',St w L' D W'→wpList P ops Q rest a W'):wpList P ops Q (o::rest) a W :=
 K.store (off:=off) hgd hd ty x y ho v hx hy [v] (by rw [hv]) hU hcs hi (by simpa using Nat.succ_le_of_lt hfit) (fun u hu=>by rw [List.mem_singleton.1 hu];exact h1) h
theorem St.storeI (K:St w L D W) (hgd:o.guard=none) (hd:o.dst=none) (ty:TypeId) (x y:Operand) (ho:o.op=.store ty x y) (k:IntKind) (n:Int) (hx:a.eval x=.pointer (some ⟨b,off,none⟩)) (hy:a.eval y=.int k n)
 (hU:Upd b cs t cs' L L') (hcs:cs.setIfInBounds off (.int k n)=cs') (hi:(P.info? ty).map (·.size)=some 1) (hfit:off<cs.size) (h:∀W',St w L' D W'→wpList P ops Q rest a W'):wpList P ops Q (o::rest) a W :=
 K.store1 hgd hd ty x y ho _ hx hy rfl hU hcs hi hfit rfl h
theorem St.storeB (K:St w L D W) (hgd:o.guard=none) (hd:o.dst=none) (ty:TypeId) (x y:Operand) (ho:o.op=.store ty x y) (n:Bool) (hx:a.eval x=.pointer (some ⟨b,off,none⟩)) (hy:a.eval y=.bool n)
 (hU:Upd b cs t cs' L L') (hcs:cs.setIfInBounds off (.bool n)=cs') (hi:(P.info? ty).map (·.size)=some 1) (hfit:off<cs.size) (h:∀W',St w L' D W'→wpList P ops Q rest a W'):wpList P ops Q (o::rest) a W :=
 K.store1 hgd hd ty x y ho _ hx hy rfl hU hcs hi hfit rfl h
theorem St.storeS (K:St w L D W) (hgd:o.guard=none) (hd:o.dst=none) (ty:TypeId) (x y:Operand) (ho:o.op=.store ty x y) (A:Option Addr) (n c:Nat) (hx:a.eval x=.pointer (some ⟨b,off,none⟩)) (hy:a.eval y=.slice A n c)
 (hU:Upd b cs t cs' L L') (hcs:cs.setIfInBounds off (.slice A n c)=cs') (hi:(P.info? ty).map (·.size)=some 1) (hfit:off<cs.size) (h:∀W',St w L' D W'→wpList P ops Q rest a W'):wpList P ops Q (o::rest) a W :=
 K.store1 hgd hd ty x y ho _ hx hy rfl hU hcs hi hfit rfl h
theorem St.alloc (K:St w L D W) (hgd:o.guard=none) (ty:TypeId) (ho:o.op=.alloc ty) (cs:Array Value) (hz:(P.info? ty).map (fun i=>i.zero.map (·.cells))=some (some cs)) (h:∀W' b,St w ((b,cs,ty)::L) D W'→wpList P ops Q rest (a.put o.dst (.pointer (some ⟨b,0,none⟩))) W'):wpList P ops Q (o::rest) a W:=by
 refine wpList_plain hgd fun _ hK=>?_
 cases hq:P.info? ty with
 | none=>simp [hq] at hz
 | some i =>
  cases hzz:i.zero with
  | none=>simp [hq,hzz] at hz
  | some z =>
   have hc:z.cells=cs:=by simpa [hq,hzz] using hz
   unfold Oper.wp execOp
   simp [ho,Instr.alloc,zeroValue,typeInfo,hq,hzz,newVar,newRow,hc]
   exact hK _ _ (h _ _ (K.new cs ty))
theorem St.box (K:St w L D W) (hgd:o.guard=none) (ty:TypeId) (x:Operand) (ho:o.op=.box ty x) (hx:a.eval x=.agg cs) (h:∀W' b,St w ((b,cs,ty)::L) D W'→wpList P ops Q rest (a.put o.dst (.pointer (some ⟨b,0,none⟩))) W'):wpList P ops Q (o::rest) a W:=by
 refine wpList_plain hgd fun _ hK=>?_
 unfold Oper.wp execOp
 simp [ho,Instr.box,newVar,newRow,hx,Value.cells]
 exact hK _ _ (h _ _ (K.new cs ty))
end
theorem jkQ:(Tryz.prog.info? 27).map (fun i=>i.zero.map (·.cells))=some (some #[.int .i64 0,.slice none 0 0]):=by kernel_rfl
theorem jkP:(Tryz.prog.info? 27).map (·.size)=some 2:=by kernel_rfl
theorem jbh:(Tryz.prog.info? 29).map (fun i=>i.zero.map (·.cells))=some (some #[.int .i64 0,.slice none 0 0,.int .i64 0,.slice none 0 0]):=by kernel_rfl
theorem jar:(Tryz.prog.info? 29).map (·.size)=some 4:=by kernel_rfl
theorem jjC {a b:List Int} (hl:a.length=b.length) (h:∀j,j<a.length→gi a j=gi b j):a=b:=by
 apply List.ext_getElem hl
 intro i h1 h2
 have:=h i h1
 rw [jaS (List.getElem?_eq_getElem h1),jaS (List.getElem?_eq_getElem h2)] at this
 exact this
def jbu (s:Int) (a:List Int) (t:Int) (b:List Int):Bool:=decide (s=t∧a=b)
theorem jjd (s t:Int) (A A2:Option Addr) (n cap n2 cap2:Nat) (a b:List Int) (w:World) (ha:RdI w w.heap.size A n cap a) (hb:RdI w w.heap.size A2 n2 cap2 b) :
 Calls Tryz.prog 125 #[.agg #[.int .i64 s,.slice A n cap],.agg #[.int .i64 t,.slice A2 n2 cap2]] w fun e w'=>e=.returned (.bool (jbu s a t b))∧Below w.heap.size w w':=by
 have K:=((St.start w).oldRd ha).oldRd hb
 have r:=K.raw
 have hla:=ha.len
 have hlb:=hb.len
 have hca:=ha.caps
 have hcb:=hb.caps
 clear ha hb
 by_cases hst:s=t
 case neg =>
  have hd:(s !=t)=true:=by simp [hst]
  have hR:jbu s a t b=false:=by unfold jbu;exact decide_eq_false fun h=>hst h.1
  rw [hR]
  clear hR hst hla hlb
  go_enter Tryz.func125,Tryz.ntmps125
  exact ZQ20
 subst hst
 have hd:(s !=s)=false:=by simp
 by_cases hnn:n=n2
 case neg =>
  have hd2:((n:Int) !=(n2:Int))=true:=by simp;omega
  have hR:jbu s a s b=false:=by unfold jbu;exact decide_eq_false fun h=>hnn (by rw [←hla,←hlb,h.2])
  rw [hR]
  clear hR hnn hla hlb
  go_enter Tryz.func125,Tryz.ntmps125
  exact ZQ20
 subst hnn
 have hd2:((n:Int) !=(n:Int))=false:=by simp
 have HEq:=jpk (show (∀j,j<n→gi a j=gi b j)→jbu s a s b=true from fun h=>by unfold jbu;exact decide_eq_true ⟨rfl,jjC ZO (by rw [hla];exact h)⟩)
 have HNe:=jpk (show ∀j,j<n→gi a j≠gi b j→jbu s a s b=false from fun j _ h=>by unfold jbu;exact decide_eq_false fun h1=>h (by rw [h1.2]))
 generalize jbu s a s b=R at *
 clear hla hlb
 go_enter Tryz.func125,Tryz.ntmps125
 go_wp2_with (first|(refine ZAL ?_;clear K r;(first|((fail_if_success revert b0);intro W b0 K r)|((fail_if_success revert b1);intro W b1 K r)|intro W b K r))|(refine ZST ?_;clear K r;intro W K r))
 go_loopg [5] n (fun gk i wr=>∃k:Nat,k≤n∧gk=n-k∧i=.int .i64 k∧(∀j,j<k→gi a j=gi b j)∧St w [(b1,#[.int .i64 s,.slice A2 n cap2],27),(b0,#[.int .i64 s,.slice A n cap],27)] [⟨rdP A2 n cap2 b,oldS w⟩,⟨rdP A n cap a,oldS w⟩] wr)
 case atStart=>exact ⟨0,Nat.zero_le _,rfl,rfl,(fun j hj=>absurd hj ZO),K⟩
 case round =>
  exact ZQ22
def Sx (w:World) (b:Nat) (T:TypeId) (k:Nat) (L:List Blk) (D:List Hl) (W:World):Prop:=∃cs:Array Value,cs.size=k∧St w ((b,cs,T)::L) D W
section
variable {w W W':World} {b k:Nat} {T:TypeId} {L:List Blk} {D:List Hl}
theorem Sx.of {cs:Array Value} (h:St w ((b,cs,T)::L) D W) (hk:cs.size=k):Sx w b T k L D W:=⟨cs,hk,h⟩
theorem Sx.keep (h:Sx w b T k L D W) (hb:Below W.heap.size W W'):Sx w b T k L D W':=by
 obtain ⟨cs,h1,h2⟩:=h
 exact ⟨cs,h1,h2.keep hb⟩
theorem Sx.drew (h:Sx w b T k L D W):Sx w b T k L D W.drew:=h.keep (Below.refl _ _).drew
theorem Sx.below (h:Sx w b T k L D W):Below w.heap.size w W:=by obtain ⟨cs,h1,h2⟩:=h;exact h2.1
theorem Sx.lt (h:Sx w b T k L D W):b+1≤W.heap.size:=by obtain ⟨cs,h1,h2⟩:=h;exact (h2.blk List.mem_cons_self).lt
theorem Sx.ge (h:Sx w b T k L D W):w.heap.size≤b:=by obtain ⟨cs,h1,h2⟩:=h;exact (h2.2.1 _ List.mem_cons_self).1
theorem Sx.at (h:Sx w b T k L D W) {P:World→Prop} {S:Nat→Prop} (hm:(⟨P,S⟩:Hl)∈D):P W:=by obtain ⟨cs,h1,h2⟩:=h;exact h2.at hm
theorem Sx.rd (h:Sx w b T k L D W) {A:Option Addr} {n cap:Nat} {l:List Int} {S:Nat→Prop} (hm:(⟨rdP A n cap l,S⟩:Hl)∈D):RdI W W.heap.size A n cap l:=h.at hm
theorem Sx.set (h:Sx w b T k L D W) (j:Nat) (v:Value):Sx w b T k L D (W.setCell ⟨b,j,none⟩ v):=by
 obtain ⟨cs,h1,h2⟩:=h
 exact ⟨cs.setIfInBounds j v,by simpa using h1,h2.upd (Upd.head _) (jbv.set W b j v) ((h2.blk List.mem_cons_self).set v)⟩
theorem Sx.raw (h:Sx w b T k L D W):Raw W L:=by obtain ⟨cs,h1,h2⟩:=h;exact h2.raw.2
theorem Sx.cell (h:Sx w b T k L D W) {j:Nat} (hj:j<k):W.cell? ⟨b,j,none⟩=some (jaw W ⟨b,j,none⟩):=by
 obtain ⟨cs,h1,h2⟩:=h
 refine jaq.2 ?_
 rw [(h2.blk List.mem_cons_self).cell (Array.getElem?_eq_getElem (show j<cs.size by omega))]
 rfl
theorem Sx.thaw (h:Sx w b T k L D W) (j:Nat):W.frozen? ⟨b,j,none⟩=false:=by
 obtain ⟨cs,h1,h2⟩:=h
 exact (h2.blk List.mem_cons_self).thaw
theorem Sx.same (h:Sx w b T k L D W) {j:Nat} (hj:j<k) (v:Value):(W.setCell ⟨b,j,none⟩ v).cell? ⟨b,j,none⟩=some v :=
 World.cell?_setCell_same' _ _ _ (jaq.1 (h.cell hj))
theorem jb6 {W:World} {b j i:Nat} {v u:Value} (hij:i≠j) (h:W.cell? ⟨b,j,none⟩=some u):(W.setCell ⟨b,i,none⟩ v).cell? ⟨b,j,none⟩=some u:=by
 rw [World.cell?_setCell_other _ _ _ _ (fun e=>hij (Addr.mk.inj e).2.1)];exact h
theorem Sx.set4 (h:Sx w b T 4 L D W) {u0 u1 u2 u3:Value} :
 let W':=(((W.setCell ⟨b,0,none⟩ u0).setCell ⟨b,1,none⟩ u1).setCell ⟨b,2,none⟩ u2).setCell ⟨b,3,none⟩ u3
 Sx w b T 4 L D W'∧(W'.cell? ⟨b,0,none⟩=some u0∧W'.cell? ⟨b,1,none⟩=some u1∧W'.cell? ⟨b,2,none⟩=some u2∧W'.cell? ⟨b,3,none⟩=some u3):=by
 intro W'
 have h1:=h.set 0 u0
 have h2:=h1.set 1 u1
 have h3:=h2.set 2 u2
 exact ⟨h3.set 3 u3,jb6 ZO (jb6 ZO (jb6 ZO (h.same ZO u0))),jb6 ZO (jb6 ZO (h1.same ZO u1)),jb6 ZO (h2.same ZO u2),h3.same ZO u3⟩
theorem Rd.setX {W:World} {A:Option Addr} {n cap:Nat} {l:List Int} {b j:Nat} {v:Value} (h:RdI W W.heap.size A n cap l) (hA:FrA (b+1) A):RdI (W.setCell ⟨b,j,none⟩ v) (W.setCell ⟨b,j,none⟩ v).heap.size A n cap l:=by
 have hs:(W.setCell ⟨b,j,none⟩ v).heap.size=W.heap.size:=by simp [World.setCell]
 rw [hs]
 refine ⟨h.1,h.2.1,h.2.2.1,fun hn=>?_⟩
 obtain ⟨b',off,rfl,hb,hc⟩:=h.2.2.2 hn
 refine ⟨b',off,rfl,hb,fun k hk'=>?_⟩
 obtain ⟨cs,hr,hl,hj⟩:=hc k hk'
 have hne:=hA _ rfl
 exact ⟨cs,hr,hl,fun j u hu=>by
  rw [World.cell?_setCell_far _ _ _ _ (fun e=>by have e:b=b':=e;have hne:b+1≤b':=hne;omega)];exact hj j u hu⟩
end
theorem raw1 {w W:World} {g:Nat} {u0 u1:Value}:BxC w g [(0,0,u0),(0,1,u1)] [(1,0),(1,1)] W↔(Below w.heap.size w W∧(W.cell? ⟨g,0,none⟩=some u0∧W.cell? ⟨g,1,none⟩=some u1)∧(W.cell? ⟨g+1,0,none⟩=some (jaw W ⟨g+1,0,none⟩)∧W.cell? ⟨g+1,1,none⟩=some (jaw W ⟨g+1,1,none⟩))∧W.frozen? ⟨g+1,0,none⟩=false∧W.frozen? ⟨g+1,1,none⟩=false):=by
 simp [BxC]
theorem box1 (w:World) (u0 u1 z0 z1:Value) (t t':TypeId):BxC w w.heap.size [(0,0,u0),(0,1,u1)] [(1,0),(1,1)] ((w.alloc (.cells #[u0,u1] t)).alloc (.cells #[z0,z1] t')):=by
 rw [raw1,jaq,jaq]
 have hb1:=(Below.refl w.heap.size w).alloc (Nat.le_refl _) (.cells #[u0,u1] t)
 exact ⟨hb1.alloc hb1.size _,⟨by simp,by simp⟩,⟨by simp,by simp⟩,by simp,by simp⟩
def negZ (s:Int) (l:List Int):Int:=if jae s l=true then -(bval s l) else 0
theorem jkR (s:Int) (A:Option Addr) (n cap:Nat) (l:List Int) (w:World) (hl:RdI w w.heap.size A n cap l) :
 Calls Tryz.prog 66 #[.agg #[.int .i64 s,.slice A n cap]] w (BigR w (negZ s l)):=by
 have hln:=hl.len
 have hcap:=hl.caps
 have K0:=box1 w (.int .i64 s) (.slice A n cap) (.int .i64 0) (.slice none 0 0) 27 27
 have HR:=jpk (fun W (h:Below w.heap.size w W)=>jaE s A n cap l W (hl.up (jab _) h))
 obtain ⟨w0,hw0⟩:∃w0,w0=(w.alloc (.cells #[.int .i64 s,.slice A n cap] 27)).alloc (.cells #[.int .i64 0,.slice none 0 0] 27):=⟨_,rfl⟩
 rw [←hw0] at K0
 obtain ⟨g,hg⟩:∃g,g=w.heap.size:=⟨_,rfl⟩
 rw [←hg] at K0
 have HW:=jpk hw0;have HG:=jpk hg
 clear hw0 hg
 obtain ⟨hb0,⟨c0,c1⟩,⟨c2,c3⟩,c4,c5⟩:=raw1.1 K0
 cases h1:jae s l
 ·have hN:negZ s l=0:=by unfold negZ;rw [h1];rfl
  rw [hN]
  rw [h1] at HR
  clear hN h1
  go_enter Tryz.func66,Tryz.ntmps66
  go_wp2_with fail
  rw [←HW.out,←HG.out]
  refine (HR.out _ hb0).mono ?_
  rintro e w1 ⟨rfl,hb1⟩
  have K1:=K0.keep hb1
  obtain ⟨hb0,⟨d0,d1⟩,⟨d2,d3⟩,d4,d5⟩:=raw1.1 K1
  obtain ⟨e1,e2⟩:=jav (u:=.int .i64 0) (v:=.slice none 0 0) d2 d3
  have K2:=K1.set2 (Nat.le_of_eq HG.out.symm) (b:=g+1) (u:=.int .i64 0) (v:=.slice none 0 0) ZO Zb0
  have Hb:=jpk K2.1
  clear K0 K1 K2 c0 c1 c2 c3 c4 c5 hb1
  go_wp2
  exact bodyPost_ret (v:=.agg #[.int .i64 0,.slice none 0 0]) (by simp [results,Tryz.results66,go_sem,e1,e2]) rfl ⟨0,none,0,0,[],rfl,Rd.nil,Std.zero,FrA.none,Hb.out⟩
 ·have hN:negZ s l= -(bval s l):=if_pos h1
  rw [hN]
  rw [h1] at HR
  obtain ⟨hcn,hl60,hsg⟩:=jah h1
  have hsb: -1≤s∧s≤1:=by rcases hsg with ⟨-,h⟩|⟨-,h|h⟩ <;> omega
  have hsn: -s=1∨ -s= -1∨l=[]:=by rcases hsg with ⟨h,-⟩|⟨-,h|h⟩ <;> first|exact Or.inr (Or.inr h)|omega
  have hws:IntKind.i64.wrap (-s)= -s:=IntWalk.i64_in _ ZO
  have hval: -s*val l= -(bval s l):=by unfold bval;rw [Int.neg_mul]
  have HC:=jpk (fun W (h:BxC w g [(0,0,.int .i64 s),(0,1,.slice A n cap)] [(1,0),(1,1)] W)=>(jh0 A n cap l W (hl.up (jab _) h.1) ZO).mono fun e W' ⟨A',n',c',he,hr,hf,hb⟩=>(⟨A',n',c',he,hr,hf.mono (h.lt (m:=1) (j:=0) Zb0),h.keep hb⟩:∃A' n' c',e=Ending.returned (.slice A' n' c')∧RdI W' W'.heap.size A' n' c' l∧FrA (g+1+1) A'∧BxC w g [(0,0,.int .i64 s),(0,1,.slice A n cap)] [(1,0),(1,1)] W'))
  have HS:=jpk (fun A' n' c' W (hr:RdI W W.heap.size A' n' c' l) (h:BxC w g [(0,0,.int .i64 s),(0,1,.slice A n cap)] [(1,0),(1,1)] W)=>(jbJ (-s) A' n' c' l _ W hr hcn hsn hval).mono fun e W' ⟨s',A2,n2,c2,l2,he,h1,h2,h3,h4⟩=>(⟨s',A2,n2,c2,l2,he,h1,h2,h3,h.keep h4⟩:∃s' A2 n2 c2 l2,e=Ending.returned (.agg #[.int .i64 s',.slice A2 n2 c2])∧RdI W' W'.heap.size A2 n2 c2 l2∧Std s' l2 (-(bval s l))∧(∀B,FrA B A'→FrA B A2)∧BxC w g [(0,0,.int .i64 s),(0,1,.slice A n cap)] [(1,0),(1,1)] W'))
  clear hN h1 hsg hsn hval hcn
  go_enter Tryz.func66,Tryz.ntmps66
  go_wp2_with fail
  rw [←HW.out,←HG.out]
  refine (HR.out _ hb0).mono ?_
  rintro e w1 ⟨rfl,hb1⟩
  have K1:=K0.keep hb1
  clear K0 c0 c1 c2 c3 c4 c5 hb1 hb0
  obtain ⟨hb0,⟨d0,d1⟩,⟨d2,d3⟩,d4,d5⟩:=raw1.1 K1
  go_wp2_with fail
  clear hb0 d0 d1 d2 d3 d4 d5
  go_region_held3 (fun W=>Below w.heap.size w W∧(W.cell? ⟨g,0,none⟩=some (.int .i64 s)∧W.cell? ⟨g,1,none⟩=some (.slice A n cap))∧(W.cell? ⟨g+1,0,none⟩=some (jaw W ⟨g+1,0,none⟩)∧W.cell? ⟨g+1,1,none⟩=some (jaw W ⟨g+1,1,none⟩))∧W.frozen? ⟨g+1,0,none⟩=false∧W.frozen? ⟨g+1,1,none⟩=false)
   ((refine raw1.1 ?_;first|assumption|exact K1.drew|exact BxC.set2 (Nat.le_of_eq HG.out.symm) Zb6 ZO Zb0))
   (first
    | (go_at_call 114;refine (HC.out _ (raw1.2 Zb6)).mono ?_;rintro e w2 ⟨A2,n2,c2,rfl,hr2,hf2,k2⟩)
    | (go_at_call 93;refine (HS.out _ _ _ _ Zb6 (raw1.2 Zb6)).mono ?_;rintro e w3 ⟨s3,A3,n3,c3,l3,rfl,hr3,hstd,hf3,k3⟩))
  have hA:=hf3 _ hf2
  obtain ⟨-,-,⟨x2,x3⟩,-⟩:=raw1.1 k3
  obtain ⟨e1,e2⟩:=jav (u:=.int .i64 s3) (v:=.slice A3 n3 c3) x2 x3
  have K4:=jpk (k3.set2 (Nat.le_of_eq HG.out.symm) (b:=g+1) (u:=.int .i64 s3) (v:=.slice A3 n3 c3) ZO Zb0).1
  have hr4:=jpk (hr3.set2 (b:=g+1) (u:=.int .i64 s3) (v:=.slice A3 n3 c3) (fun a h=>by have:=hA a h;omega))
  have hA4:=jpk (hA.mono (C:=w.heap.size) (by have:=HG.out;omega))
  clear hA k2 k3 hr2 hf2 hf3 hr3 K1 x2 x3
  go_wp2
  exact bodyPost_ret (v:=.agg #[.int .i64 s3,.slice A3 n3 c3]) (by simp [results,Tryz.results66,go_sem,e1,e2]) rfl ⟨s3,A3,n3,c3,l3,rfl,hr4.out,hstd,hA4.out,K4.out⟩
theorem jcM (w:World) (cs:Array Value) (t:TypeId) {j:Nat}:(w.alloc (.cells cs t)).frozen? ⟨w.heap.size,j,none⟩=false:=by simp
theorem raw2 {w W:World} {g:Nat} {u0 u1 u2 u3:Value}:BxC w g [(0,0,u0),(0,1,u1),(1,0,u2),(1,1,u3)] [(2,0),(2,1)] W↔(Below w.heap.size w W∧((W.cell? ⟨g,0,none⟩=some u0∧W.cell? ⟨g,1,none⟩=some u1)∧W.cell? ⟨g+1,0,none⟩=some u2∧W.cell? ⟨g+1,1,none⟩=some u3)∧(W.cell? ⟨g+2,0,none⟩=some (jaw W ⟨g+2,0,none⟩)∧W.cell? ⟨g+2,1,none⟩=some (jaw W ⟨g+2,1,none⟩))∧W.frozen? ⟨g+2,0,none⟩=false∧W.frozen? ⟨g+2,1,none⟩=false):=by
 simp [BxC,and_assoc]
theorem box2 (w:World) (u0 u1 u2 u3 z0 z1:Value) (t t' t'':TypeId):BxC w w.heap.size [(0,0,u0),(0,1,u1),(1,0,u2),(1,1,u3)] [(2,0),(2,1)] (((w.alloc (.cells #[u0,u1] t)).alloc (.cells #[u2,u3] t')).alloc (.cells #[z0,z1] t'')):=by
 rw [raw2]
 have hs1:(w.alloc (.cells #[u0,u1] t)).heap.size=w.heap.size+1:=by simp
 have hs2:((w.alloc (.cells #[u0,u1] t)).alloc (.cells #[u2,u3] t')).heap.size=w.heap.size+2:=by simp
 have hb1:=(Below.refl w.heap.size w).alloc (Nat.le_refl _) (.cells #[u0,u1] t)
 have hb2:=hb1.alloc hb1.size (.cells #[u2,u3] t')
 have k1:=fun (W:World) o=>(Below.refl W.heap.size W).alloc (Nat.le_refl _) o
 exact ⟨hb2.alloc hb2.size _,⟨⟨jaA (k1 _ _) (jaA (k1 _ _) (jaY rfl rfl)),jaA (k1 _ _) (jaA (k1 _ _) (jaY rfl rfl))⟩,jaA (k1 _ _) (jaY hs1 rfl),jaA (k1 _ _) (jaY hs1 rfl)⟩,⟨jaq.2 (by rw [jaY hs2 rfl];rfl),jaq.2 (by rw [jaY hs2 rfl];rfl)⟩,by rw [←hs2];exact jcM _ _ _,by rw [←hs2];exact jcM _ _ _⟩
theorem jbw {x:Int} {n:Nat} (h:x<pw n) (hn:n≤100000):(digs x.toNat).length≤100000:=by
 have:=jaM h;omega
section
variable (A A2:Option Addr) (n cap n2 cap2:Nat) (a b:List Int) (w:World) (ha:RdI w w.heap.size A n cap a) (hb:RdI w w.heap.size A2 n2 cap2 b)
include ha hb
theorem mulD (ca:DgOk a) (cb:DgOk b) (hn:n≤1000) (hn2:n2≤1000):Calls Tryz.prog 94 #[.slice A n cap,.slice A2 n2 cap2] w (DigR w (digs (val a*val b).toNat)) :=
 (jeQ A A2 n cap n2 cap2 a b w ha hb ca cb ZO ZO).mono fun e w' h=>jdv (by
  refine jbw (n:=n+n2) ?_ ZO
  rw [jd7]
  have h1:=ja7 ca;have h2:=ja7 cb
  have h3:=jas ca;have h4:=jas cb
  rw [ha.len] at h1;rw [hb.len] at h2
  calc val a*val b≤val a*pw n2:=Int.mul_le_mul_of_nonneg_left ZO h3
   _<pw n*pw n2:=Int.mul_lt_mul_of_pos_right h1 (jaX _)) h
theorem addD (ca:DgOk a) (cb:DgOk b) (hn:n≤1000) (hn2:n2≤1000):Calls Tryz.prog 97 #[.slice A n cap,.slice A2 n2 cap2] w (DigR w (digs (val a+val b).toNat)) :=
 (jkM A A2 n cap n2 cap2 a b w ha hb ca cb ZO ZO).mono fun e w' h=>jdv (by
  refine jbw (n:=1001) ?_ ZO
  have h1:=ja7 ca;have h2:=ja7 cb
  rw [ha.len] at h1;rw [hb.len] at h2
  have h5:=jbY hn;have h6:=jbY hn2
  have h7:pw 1001=1048576*pw 1000:=by rw [pw]
  have h8:=jaX 1000
  omega) h
theorem subD (ca:DgOk a) (cb:DgOk b) (hn:n≤1000) (hn2:n2≤n) (hle:val b≤val a):Calls Tryz.prog 98 #[.slice A n cap,.slice A2 n2 cap2] w (DigR w (digs (val a-val b).toNat)) :=
 (jkS A A2 n cap n2 cap2 a b w ha hb ca cb ZO hn2 hle).mono fun e w' h=>jdv (by
  refine jbw (n:=n) ?_ ZO
  have h1:=ja7 ca;have h2:=jas cb
  rw [ha.len] at h1
  omega) h
end
theorem jh2 {a b:List Int} (ca:Cn a) (cb:DgOk b) (h:val a≤val b):a.length≤b.length:=by
 refine Classical.byContradiction fun hc=>?_
 have:=jc6 cb ca ZO
 omega
theorem DigR.keep {w W:World} {g:Nat} {L:List (Nat × Nat × Value)} {R:List (Nat × Nat)} {m j:Nat} {l:List Int} {e:Ending} {W':World} (h:BxC w g L R W) (hm:(m,j)∈R) (hd:DigR W l e W'):∃A' n' c',e=Ending.returned (.slice A' n' c')∧RdI W' W'.heap.size A' n' c' l∧FrA (g+m+1) A'∧BxC w g L R W'∧Below W.heap.size W W':=by
 obtain ⟨A',n',c',he,hr,hf,hb⟩:=hd
 exact ⟨A',n',c',he,hr,hf.mono (h.lt hm),h.keep hb,hb⟩
theorem SigR.keep {w W:World} {g:Nat} {L:List (Nat × Nat × Value)} {R:List (Nat × Nat)} {A:Option Addr} {z:Int} {e:Ending} {W':World} (h:BxC w g L R W) (hd:SigR W A z e W'):∃s' A' n' c' l',e=Ending.returned (.agg #[.int .i64 s',.slice A' n' c'])∧RdI W' W'.heap.size A' n' c' l'∧Std s' l' z∧(∀B,FrA B A→FrA B A')∧BxC w g L R W'∧Below W.heap.size W W':=by
 obtain ⟨s',A',n',c',l',he,hr,hs,hf,hb⟩:=hd
 exact ⟨s',A',n',c',l',he,hr,hs,hf,h.keep hb,hb⟩
theorem ChkR.keep {w W:World} {g:Nat} {L:List (Nat × Nat × Value)} {R:List (Nat × Nat)} {A:Option Addr} {z c:Int} {e:Ending} {W':World} (h:BxC w g L R W) (hd:ChkR W A z c e W'):∃s' A' n' c' l',e=Ending.returned (.tuple #[.agg #[.int .i64 s',.slice A' n' c'],.int .i64 c])∧RdI W' W'.heap.size A' n' c' l'∧Std s' l' z∧(∀B,FrA B A→FrA B A')∧BxC w g L R W'∧Below W.heap.size W W':=by
 obtain ⟨s',A',n',c',l',he,hr,hs,hf,hb⟩:=hd
 exact ⟨s',A',n',c',l',he,hr,hs,hf,h.keep hb,hb⟩
theorem jaC {z:Int}:resZ false z=0:=by unfold resZ;rw [if_neg Zb0]
theorem jaz {z:Int}:errZ false z=1:=by unfold errZ;rw [if_pos rfl]
theorem jhd {s t:Int} (h1:s=1∨s= -1) (h2:t=1∨t= -1):s*t=1∨s*t= -1:=by
 rcases h1 with rfl|rfl <;> rcases h2 with rfl|rfl <;> simp
theorem jfR {s t:Int} {a b:List Int} (h1:jae s a=true) (h2:jae t b=true):(s*t=1∨s*t= -1∨digs (val a*val b).toNat=[])∧s*t*val (digs (val a*val b).toNat)=bval s a*bval t b∧IntKind.i64.wrap (s*t)=s*t:=by
 obtain ⟨c1,l1,e1⟩:=jah h1
 obtain ⟨c2,l2,e2⟩:=jah h2
 have n1:=jas c1.1
 have n2:=jas c2.1
 have hv:val (digs (val a*val b).toNat)=val a*val b:=by rw [jau];have:=Int.mul_nonneg n1 n2;omega
 refine ⟨?_,by rw [hv];unfold bval;grind,?_⟩
 ·rcases e1 with ⟨rfl,rfl⟩|⟨-,e1⟩
  ·right;right;simp [val,jax]
  ·rcases e2 with ⟨rfl,rfl⟩|⟨-,e2⟩
   ·right;right;simp [val,jax]
   ·rcases jhd e1 e2 with h|h
    ·exact Or.inl h
    ·exact Or.inr (Or.inl h)
 ·have: -1≤s∧s≤1:=by rcases e1 with ⟨-,h⟩|⟨-,h|h⟩ <;> omega
  have h3:s= -1∨s=0∨s=1:=by omega
  have: -1≤t∧t≤1:=by rcases e2 with ⟨-,h⟩|⟨-,h|h⟩ <;> omega
  rcases h3 with rfl|rfl|rfl <;> exact IntWalk.i64_in _ ZO
theorem jkL (s t:Int) (A A2:Option Addr) (n cap n2 cap2:Nat) (a b:List Int) (w:World) (ha:RdI w w.heap.size A n cap a) (hb:RdI w w.heap.size A2 n2 cap2 b) :
 Calls Tryz.prog 53 #[.agg #[.int .i64 s,.slice A n cap],.agg #[.int .i64 t,.slice A2 n2 cap2]] w (BigE w (resZ (jae s a&&jae t b) (bval s a*bval t b)) (errZ (jae s a&&jae t b) (bval s a*bval t b))):=by
 have hcap:=ha.caps
 have hcap2:=hb.caps
 have K0:=box2 w (.int .i64 s) (.slice A n cap) (.int .i64 t) (.slice A2 n2 cap2) (.int .i64 0) (.slice none 0 0) 27 27 27
 have HR1:=jpk (fun W (h:Below w.heap.size w W)=>jaE s A n cap a W (ha.up (jab _) h))
 have HR2:=jpk (fun W (h:Below w.heap.size w W)=>jaE t A2 n2 cap2 b W (hb.up (jab _) h))
 obtain ⟨w0,hw0⟩:∃w0,w0=((w.alloc (.cells #[.int .i64 s,.slice A n cap] 27)).alloc (.cells #[.int .i64 t,.slice A2 n2 cap2] 27)).alloc (.cells #[.int .i64 0,.slice none 0 0] 27):=⟨_,rfl⟩
 rw [←hw0] at K0
 obtain ⟨g,hg⟩:∃g,g=w.heap.size:=⟨_,rfl⟩
 rw [←hg] at K0
 have HW:=jpk hw0;have HG:=jpk hg
 clear hw0 hg
 obtain ⟨hb0,⟨⟨c0,c1⟩,c2,c3⟩,⟨c4,c5⟩,c6,c7⟩:=raw2.1 K0
 cases h1:jae s a
 ·rw [h1] at HR1
  rw [Bool.false_and,jaC,jaz]
  clear h1
  go_enter Tryz.func53,Tryz.ntmps53
  go_wp2_with fail
  rw [←HW.out,←HG.out]
  refine (HR1.out _ hb0).mono ?_
  rintro e w1 ⟨rfl,hb1⟩
  have K1:=K0.keep hb1
  clear hb1
  exact ZQ25
 cases h2:jae t b
 ·rw [h1] at HR1
  rw [h2] at HR2
  rw [Bool.true_and,jaC,jaz]
  clear h1 h2
  go_enter Tryz.func53,Tryz.ntmps53
  go_wp2_with fail
  rw [←HW.out,←HG.out]
  refine (HR1.out _ hb0).mono ?_
  rintro e w1 ⟨rfl,hb1⟩
  have K1:=K0.keep hb1
  clear K0 c0 c1 c2 c3 c4 c5 c6 c7 hb1 hb0
  obtain ⟨hb0,⟨⟨d0,d1⟩,d2,d3⟩,⟨d4,d5⟩,d6,d7⟩:=raw2.1 K1
  go_wp2_with fail
  refine (HR2.out _ hb0).mono ?_
  rintro e w2 ⟨rfl,hb1⟩
  have K2:=K1.keep hb1
  clear K1 d0 d1 d2 d3 d4 d5 d6 d7 hb1 hb0
  have K1:=K2
  have K0:=K2
  clear K2
  obtain ⟨hb0,⟨⟨c0,c1⟩,c2,c3⟩,⟨c4,c5⟩,c6,c7⟩:=raw2.1 K1
  exact ZQ25
 rw [h1] at HR1
 rw [h2] at HR2
 rw [Bool.true_and]
 obtain ⟨c1',l1,e1'⟩:=jah h1
 obtain ⟨c2',l2,e2'⟩:=jah h2
 obtain ⟨m1,m2,m3⟩:=jfR h1 h2
 rw [ha.len] at l1
 rw [hb.len] at l2
 have HM:=jpk (fun W (h:BxC w g [(0,0,.int .i64 s),(0,1,.slice A n cap),(1,0,.int .i64 t),(1,1,.slice A2 n2 cap2)] [(2,0),(2,1)] W)=>(mulD A A2 n cap n2 cap2 a b W (ha.up (jab _) h.1) (hb.up (jab _) h.1) c1'.1 c2'.1 ZO ZO).mono fun e W' hd=>hd.keep h (m:=2) (j:=0) Zb0)
 have HS:=jpk (fun A' n' c' W (hr:RdI W W.heap.size A' n' c' (digs (val a*val b).toNat)) (h:BxC w g [(0,0,.int .i64 s),(0,1,.slice A n cap),(1,0,.int .i64 t),(1,1,.slice A2 n2 cap2)] [(2,0),(2,1)] W)=>(jbJ (s*t) A' n' c' _ _ W hr (jat _) m1 m2).mono fun e W' hd=>hd.keep h)
 have HC:=jpk (fun s' A' n' c' l' W (hr:RdI W W.heap.size A' n' c' l') (hz:Std s' l' (bval s a*bval t b)) (h:BxC w g [(0,0,.int .i64 s),(0,1,.slice A n cap),(1,0,.int .i64 t),(1,1,.slice A2 n2 cap2)] [(2,0),(2,1)] W)=>(jcC true s' A' n' c' l' _ W hr hz).mono fun e W' hd=>hd.keep h)
 clear m1 m2 c1' c2' l1 l2 e1' e2' h1 h2
 generalize digs (val a*val b).toNat=D at *
 generalize bval s a*bval t b=Z at *
 generalize resZ true Z=RS at *
 generalize errZ true Z=ER at *
 go_enter Tryz.func53,Tryz.ntmps53
 go_wp2_with fail
 rw [←HW.out,←HG.out]
 refine (HR1.out _ hb0).mono ?_
 rintro e w1 ⟨rfl,hb1⟩
 have K1:=K0.keep hb1
 clear K0 c0 c1 c2 c3 c4 c5 c6 c7 hb1 hb0
 obtain ⟨hb0,⟨⟨d0,d1⟩,d2,d3⟩,⟨d4,d5⟩,d6,d7⟩:=raw2.1 K1
 go_wp2_with fail
 refine (HR2.out _ hb0).mono ?_
 rintro e w2 ⟨rfl,hb1⟩
 have K2:=K1.keep hb1
 clear K1 d0 d1 d2 d3 d4 d5 d6 d7 hb1 hb0
 obtain ⟨hb0,⟨⟨d0,d1⟩,d2,d3⟩,⟨d4,d5⟩,d6,d7⟩:=raw2.1 K2
 go_wp2_with fail
 clear hb0 d0 d1 d2 d3 d4 d5 d6 d7
 go_region_held3 (fun W=>Below w.heap.size w W∧((W.cell? ⟨g,0,none⟩=some (.int .i64 s)∧W.cell? ⟨g,1,none⟩=some (.slice A n cap))∧W.cell? ⟨g+1,0,none⟩=some (.int .i64 t)∧W.cell? ⟨g+1,1,none⟩=some (.slice A2 n2 cap2))∧(W.cell? ⟨g+2,0,none⟩=some (jaw W ⟨g+2,0,none⟩)∧W.cell? ⟨g+2,1,none⟩=some (jaw W ⟨g+2,1,none⟩))∧W.frozen? ⟨g+2,0,none⟩=false∧W.frozen? ⟨g+2,1,none⟩=false)
  ((refine raw2.1 ?_;first|assumption|exact K2.drew|exact BxC.set2 (Nat.le_of_eq HG.out.symm) Zb6 ZO Zb7|exact raw2.2 Zb6))
  (first
   | (go_at_call 94;refine (HM.out _ (raw2.2 Zb6)).mono ?_;rintro e w2 ⟨A5,n5,c5,rfl,hr2,hf2,k2,-⟩)
   | (go_at_call 93;refine (HS.out _ _ _ _ Zb6 (raw2.2 Zb6)).mono ?_;rintro e w3 ⟨s6,A6,n6,c6,l6,rfl,hr6,hstd6,hf6,k6,-⟩)
   | (go_at_call 92;refine (HC.out _ _ _ _ _ _ Zb6 Zb6 (raw2.2 Zb6)).mono ?_;rintro e w3 ⟨s3,A3,n3,c3,l3,rfl,hr3,hstd,hf3,k3,-⟩))
 have hA:=hf3 _ (hf6 _ hf2)
 clear hf3 hf6 hf2 hr2 k2 hr6 hstd6 k6 K2
 obtain ⟨-,-,⟨x2,x3⟩,-⟩:=raw2.1 k3
 obtain ⟨e1,e2⟩:=jav (u:=.int .i64 s3) (v:=.slice A3 n3 c3) x2 x3
 have K4:=jpk (k3.set2 (Nat.le_of_eq HG.out.symm) (b:=g+2) (u:=.int .i64 s3) (v:=.slice A3 n3 c3) ZO Zb7).1
 have hr4:=jpk (hr3.set2 (b:=g+2) (u:=.int .i64 s3) (v:=.slice A3 n3 c3) (fun a h=>by have:=hA a h;omega))
 have hA4:=jpk (hA.mono (C:=w.heap.size) (by have:=HG.out;omega))
 clear hA k3 hr3 x2 x3
 go_wp2
 exact bodyPost_ret (v:=.tuple #[.agg #[.int .i64 s3,.slice A3 n3 c3],.int .i64 ER]) (by simp [results,Tryz.results53,go_sem,e1,e2]) rfl ⟨s3,A3,n3,c3,l3,rfl,hr4.out,hstd,hA4.out,K4.out⟩
theorem jfr {a b:List Int} (ca:DgOk a) (cb:DgOk b) (h:val b≤val a):val (digs (val a-val b).toNat)=val a-val b:=by
 rw [jau];omega
theorem jhN {a b:List Int} (ca:DgOk a) (cb:DgOk b):val (digs (val a+val b).toNat)=val a+val b:=by
 rw [jau];have:=jas ca;have:=jas cb;omega
theorem jgp (s t:Int) (h1:s=0∨s=1∨s= -1) (h2:t=0∨t=1∨t= -1):IntKind.i64.wrap (s*t)=s*t:=by
 rcases h1 with rfl|rfl|rfl <;> exact IntWalk.i64_in _ ZO
theorem jhM {s t:Int} {a b:List Int} (h1:jae s a=true) (h2:jae t b=true) (h:0≤s*t):(orI [s,t]=1∨orI [s,t]= -1∨digs (val a+val b).toNat=[])∧orI [s,t]*val (digs (val a+val b).toNat)=bval s a+bval t b:=by
 obtain ⟨c1,l1,e1⟩:=jah h1
 obtain ⟨c2,l2,e2⟩:=jah h2
 rw [jhN c1.1 c2.1]
 unfold bval
 rcases e1 with ⟨rfl,rfl⟩|⟨-,rfl|rfl⟩ <;> rcases e2 with ⟨rfl,rfl⟩|⟨-,rfl|rfl⟩ <;> simp [orI,val,jax] at h ⊢ <;> omega
theorem jdd {s t:Int} {a b:List Int} (h1:jae s a=true) (h2:jae t b=true) (h:s*t<0):(t=1∨t= -1)∧(s=1∨s= -1)∧t*(val b-val a)=bval s a+bval t b∧s*(val a-val b)=bval s a+bval t b:=by
 obtain ⟨c1,l1,e1⟩:=jah h1
 obtain ⟨c2,l2,e2⟩:=jah h2
 unfold bval
 rcases e1 with ⟨rfl,rfl⟩|⟨-,rfl|rfl⟩ <;> rcases e2 with ⟨rfl,rfl⟩|⟨-,rfl|rfl⟩ <;> simp at h ⊢ <;> omega
theorem jcf {s:Int} {l:List Int} (h:jae s l=true):s=0∨s=1∨s= -1:=by
 rcases (jah h).2.2 with ⟨-,h⟩|⟨-,h|h⟩
 ·exact Or.inl h
 ·exact Or.inr (Or.inl h)
 ·exact Or.inr (Or.inr h)
theorem jkH (s t:Int) (A A2:Option Addr) (n cap n2 cap2:Nat) (a b:List Int) (w:World) (ha:RdI w w.heap.size A n cap a) (hb:RdI w w.heap.size A2 n2 cap2 b) :
 Calls Tryz.prog 91 #[.agg #[.int .i64 s,.slice A n cap],.agg #[.int .i64 t,.slice A2 n2 cap2]] w (BigE w (resZ (jae s a&&jae t b) (bval s a+bval t b)) (errZ (jae s a&&jae t b) (bval s a+bval t b))):=by
 have hcap:=ha.caps
 have hcap2:=hb.caps
 have K0:=box2 w (.int .i64 s) (.slice A n cap) (.int .i64 t) (.slice A2 n2 cap2) (.int .i64 0) (.slice none 0 0) 27 27 27
 have HR1:=jpk (fun W (h:Below w.heap.size w W)=>jaE s A n cap a W (ha.up (jab _) h))
 have HR2:=jpk (fun W (h:Below w.heap.size w W)=>jaE t A2 n2 cap2 b W (hb.up (jab _) h))
 obtain ⟨w0,hw0⟩:∃w0,w0=((w.alloc (.cells #[.int .i64 s,.slice A n cap] 27)).alloc (.cells #[.int .i64 t,.slice A2 n2 cap2] 27)).alloc (.cells #[.int .i64 0,.slice none 0 0] 27):=⟨_,rfl⟩
 rw [←hw0] at K0
 obtain ⟨g,hg⟩:∃g,g=w.heap.size:=⟨_,rfl⟩
 rw [←hg] at K0
 have HW:=jpk hw0;have HG:=jpk hg
 clear hw0 hg
 obtain ⟨hb0,⟨⟨c0,c1⟩,c2,c3⟩,⟨c4,c5⟩,c6,c7⟩:=raw2.1 K0
 cases h1:jae s a
 ·rw [h1] at HR1
  rw [Bool.false_and,jaC,jaz]
  clear h1
  go_enter Tryz.func91,Tryz.ntmps91
  go_wp2_with fail
  rw [←HW.out,←HG.out]
  refine (HR1.out _ hb0).mono ?_
  rintro e w1 ⟨rfl,hb1⟩
  have K1:=K0.keep hb1
  clear hb1
  exact ZQ27
 cases h2:jae t b
 ·rw [h1] at HR1
  rw [h2] at HR2
  rw [Bool.true_and,jaC,jaz]
  clear h1 h2
  go_enter Tryz.func91,Tryz.ntmps91
  go_wp2_with fail
  rw [←HW.out,←HG.out]
  refine (HR1.out _ hb0).mono ?_
  rintro e w1 ⟨rfl,hb1⟩
  have K1:=K0.keep hb1
  clear K0 c0 c1 c2 c3 c4 c5 c6 c7 hb1 hb0
  obtain ⟨hb0,⟨⟨d0,d1⟩,d2,d3⟩,⟨d4,d5⟩,d6,d7⟩:=raw2.1 K1
  go_wp2_with fail
  refine (HR2.out _ hb0).mono ?_
  rintro e w2 ⟨rfl,hb1⟩
  have K2:=K1.keep hb1
  clear K1 d0 d1 d2 d3 d4 d5 d6 d7 hb1 hb0
  have K1:=K2
  have K0:=K2
  clear K2
  obtain ⟨hb0,⟨⟨c0,c1⟩,c2,c3⟩,⟨c4,c5⟩,c6,c7⟩:=raw2.1 K1
  exact ZQ27
 rw [h1] at HR1
 rw [h2] at HR2
 rw [Bool.true_and]
 obtain ⟨c1',l1,-⟩:=jah h1
 obtain ⟨c2',l2,-⟩:=jah h2
 have hst:=jgp s t (jcf h1) (jcf h2)
 rw [ha.len] at l1
 rw [hb.len] at l2
 have HC:=jpk (fun s' A' n' c' l' W (hr:RdI W W.heap.size A' n' c' l') (hz:Std s' l' (bval s a+bval t b)) (h:BxC w g [(0,0,.int .i64 s),(0,1,.slice A n cap),(1,0,.int .i64 t),(1,1,.slice A2 n2 cap2)] [(2,0),(2,1)] W)=>(jcC true s' A' n' c' l' _ W hr hz).mono fun e W' hd=>hd.keep h)
 by_cases hs0:0≤s*t
 ·obtain ⟨m1,m2⟩:=jhM h1 h2 hs0
  have hd:decide (0≤s*t)=true:=decide_eq_true hs0
  have HM:=jpk (fun W (h:BxC w g [(0,0,.int .i64 s),(0,1,.slice A n cap),(1,0,.int .i64 t),(1,1,.slice A2 n2 cap2)] [(2,0),(2,1)] W)=>(addD A A2 n cap n2 cap2 a b W (ha.up (jab _) h.1) (hb.up (jab _) h.1) c1'.1 c2'.1 ZO ZO).mono fun e W' hd=>hd.keep h (m:=2) (j:=0) Zb0)
  have HS:=jpk (fun A' n' c' W (hr:RdI W W.heap.size A' n' c' (digs (val a+val b).toNat)) (h:BxC w g [(0,0,.int .i64 s),(0,1,.slice A n cap),(1,0,.int .i64 t),(1,1,.slice A2 n2 cap2)] [(2,0),(2,1)] W)=>(jbJ (orI [s,t]) A' n' c' _ _ W hr (jat _) m1 m2).mono fun e W' hd=>hd.keep h)
  have HO:=jpk (fun W H (hH:W.heap.size=H) W' (h:Below (W.alloc (.cells #[.int .i64 s,.int .i64 t] 3)).heap.size (W.alloc (.cells #[.int .i64 s,.int .i64 t] 3)) W')=>or_any (some ⟨H,0,none⟩) 2 2 [s,t] W' ((Rd.litG jap (w:=W) 3 [s,t] #[.int .i64 s,.int .i64 t] 2 H hH rfl rfl ZO).up (jab _) h))
  clear m1 m2 c1' c2' l1 l2 h1 h2 hs0
  generalize digs (val a+val b).toNat=D at *
  generalize bval s a+bval t b=Z at *
  generalize resZ true Z=RS at *
  generalize errZ true Z=ER at *
  generalize orI [s,t]=OR at *
  go_enter Tryz.func91,Tryz.ntmps91
  go_wp2_with fail
  rw [←HW.out,←HG.out]
  refine (HR1.out _ hb0).mono ?_
  rintro e w1 ⟨rfl,hb1⟩
  have K1:=K0.keep hb1
  clear K0 c0 c1 c2 c3 c4 c5 c6 c7 hb1 hb0
  obtain ⟨hb0,⟨⟨d0,d1⟩,d2,d3⟩,⟨d4,d5⟩,d6,d7⟩:=raw2.1 K1
  go_wp2_with fail
  refine (HR2.out _ hb0).mono ?_
  rintro e w2 ⟨rfl,hb1⟩
  have K2:=K1.keep hb1
  clear K1 d0 d1 d2 d3 d4 d5 d6 d7 hb1 hb0
  obtain ⟨hb0,⟨⟨d0,d1⟩,d2,d3⟩,⟨d4,d5⟩,d6,d7⟩:=raw2.1 K2
  go_wp2_with fail
  clear hb0 d0 d1 d2 d3 d4 d5 d6 d7
  go_region_held3 (fun W=>Below w.heap.size w W∧((W.cell? ⟨g,0,none⟩=some (.int .i64 s)∧W.cell? ⟨g,1,none⟩=some (.slice A n cap))∧W.cell? ⟨g+1,0,none⟩=some (.int .i64 t)∧W.cell? ⟨g+1,1,none⟩=some (.slice A2 n2 cap2))∧(W.cell? ⟨g+2,0,none⟩=some (jaw W ⟨g+2,0,none⟩)∧W.cell? ⟨g+2,1,none⟩=some (jaw W ⟨g+2,1,none⟩))∧W.frozen? ⟨g+2,0,none⟩=false∧W.frozen? ⟨g+2,1,none⟩=false)
   ((refine raw2.1 ?_;first|assumption|exact K2.drew|exact BxC.set2 (Nat.le_of_eq HG.out.symm) Zb6 ZO Zb7|exact raw2.2 Zb6|exact (raw2.2 Zb6).keep ((Below.refl _ _).alloc (Nat.le_refl _) _)))
   (first
    | (go_at_call 93;refine (HS.out _ _ _ _ (by first | assumption | exact hr2.up (jab _) ((Below.refl _ _).alloc (Nat.le_refl _) _)) (raw2.2 Zb6)).mono ?_;rintro e w3 ⟨s6,A6,n6,c6,l6,rfl,hr6,hstd6,hf6,k6,-⟩)
    | (go_at_call 92;refine (HC.out _ _ _ _ _ _ Zb6 Zb6 (raw2.2 Zb6)).mono ?_;rintro e w3 ⟨s3,A3,n3,c3,l3,rfl,hr3,hstd,hf3,k3,-⟩)
    | (go_at_call 97;refine (HM.out _ (raw2.2 Zb6)).mono ?_;rintro e w2 ⟨A5,n5,c5,rfl,hr2,hf2,k2,b2⟩)
    | (go_at_call 127;refine (HO.out _ _ rfl _ (by first | exact (Below.refl _ _).drew | exact (Below.refl _ _).drew.trans b2 | exact b2)).mono ?_;rintro e _ ⟨rfl,rfl⟩))
  all_goals
   have hA:=hf3 _ (hf6 _ hf2)
   clear hf3 hf6 hf2 hr2 k2 hr6 hstd6 k6 K2 b2
   obtain ⟨-,-,⟨x2,x3⟩,-⟩:=raw2.1 k3
   obtain ⟨e1,e2⟩:=jav (u:=.int .i64 s3) (v:=.slice A3 n3 c3) x2 x3
   have K4:=jpk (k3.set2 (Nat.le_of_eq HG.out.symm) (b:=g+2) (u:=.int .i64 s3) (v:=.slice A3 n3 c3) ZO Zb7).1
   have hr4:=jpk (hr3.set2 (b:=g+2) (u:=.int .i64 s3) (v:=.slice A3 n3 c3) (fun a h=>by have:=hA a h;omega))
   have hA4:=jpk (hA.mono (C:=w.heap.size) (by have:=HG.out;omega))
   clear hA k3 hr3 x2 x3
   go_wp2
   exact bodyPost_ret (v:=.tuple #[.agg #[.int .i64 s3,.slice A3 n3 c3],.int .i64 ER]) (by simp [results,Tryz.results91,go_sem,e1,e2]) rfl ⟨s3,A3,n3,c3,l3,rfl,hr4.out,hstd,hA4.out,K4.out⟩
 ·have hs0':s*t<0:=by omega
  obtain ⟨m1,m2,m3,m4⟩:=jdd h1 h2 hs0'
  have hd:decide (0≤s*t)=false:=decide_eq_false hs0
  have HCp:=jpk (fun W (h:BxC w g [(0,0,.int .i64 s),(0,1,.slice A n cap),(1,0,.int .i64 t),(1,1,.slice A2 n2 cap2)] [(2,0),(2,1)] W)=>(jgx A A2 n cap n2 cap2 a b W (ha.up (jab _) h.1) (hb.up (jab _) h.1) c1' c2').mono fun e W' ⟨he,hb⟩=>(⟨he,h.keep hb⟩:e=Ending.returned (.int .i64 (cmpI (val a) (val b)))∧BxC w g [(0,0,.int .i64 s),(0,1,.slice A n cap),(1,0,.int .i64 t),(1,1,.slice A2 n2 cap2)] [(2,0),(2,1)] W'))
  by_cases hlt:val a<val b
  ·have hd2:decide (cmpI (val a) (val b)<0)=true:=by rw [ja9 hlt];rfl
   have hle:=jh2 c1' c2'.1 (Int.le_of_lt hlt)
   rw [ha.len,hb.len] at hle
   have hv:=jfr c2'.1 c1'.1 (Int.le_of_lt hlt)
   have hm:t=1∨t= -1∨digs (val b-val a).toNat=[]:=by rcases m1 with h|h;exact Or.inl h;exact Or.inr (Or.inl h)
   have HM:=jpk (fun W (h:BxC w g [(0,0,.int .i64 s),(0,1,.slice A n cap),(1,0,.int .i64 t),(1,1,.slice A2 n2 cap2)] [(2,0),(2,1)] W)=>(subD A2 A n2 cap2 n cap b a W (hb.up (jab _) h.1) (ha.up (jab _) h.1) c2'.1 c1'.1 ZO hle (Int.le_of_lt hlt)).mono fun e W' hd=>hd.keep h (m:=2) (j:=0) Zb0)
   have HS:=jpk (fun A' n' c' W (hr:RdI W W.heap.size A' n' c' (digs (val b-val a).toNat)) (h:BxC w g [(0,0,.int .i64 s),(0,1,.slice A n cap),(1,0,.int .i64 t),(1,1,.slice A2 n2 cap2)] [(2,0),(2,1)] W)=>(jbJ t A' n' c' _ _ W hr (jat _) hm (show t*val (digs (val b-val a).toNat)=bval s a+bval t b by rw [hv];exact m3)).mono fun e W' hd=>hd.keep h)
   clear m1 m2 m3 m4 c1' c2' l1 l2 h1 h2 hs0 hs0' hlt hle hv hm
   generalize digs (val b-val a).toNat=D at *
   exact ZQ11
  ·have hd2:decide (cmpI (val a) (val b)<0)=false:=by
    unfold cmpI;rw [if_neg hlt];split <;> rfl
   have hle:=jh2 c2' c1'.1 (Int.le_of_not_gt hlt)
   rw [ha.len,hb.len] at hle
   have hv:=jfr c1'.1 c2'.1 (Int.le_of_not_gt hlt)
   have hm:s=1∨s= -1∨digs (val a-val b).toNat=[]:=by rcases m2 with h|h;exact Or.inl h;exact Or.inr (Or.inl h)
   have HM:=jpk (fun W (h:BxC w g [(0,0,.int .i64 s),(0,1,.slice A n cap),(1,0,.int .i64 t),(1,1,.slice A2 n2 cap2)] [(2,0),(2,1)] W)=>(subD A A2 n cap n2 cap2 a b W (ha.up (jab _) h.1) (hb.up (jab _) h.1) c1'.1 c2'.1 ZO hle (Int.le_of_not_gt hlt)).mono fun e W' hd=>hd.keep h (m:=2) (j:=0) Zb0)
   have HS:=jpk (fun A' n' c' W (hr:RdI W W.heap.size A' n' c' (digs (val a-val b).toNat)) (h:BxC w g [(0,0,.int .i64 s),(0,1,.slice A n cap),(1,0,.int .i64 t),(1,1,.slice A2 n2 cap2)] [(2,0),(2,1)] W)=>(jbJ s A' n' c' _ _ W hr (jat _) hm (show s*val (digs (val a-val b).toNat)=bval s a+bval t b by rw [hv];exact m4)).mono fun e W' hd=>hd.keep h)
   clear m1 m2 m3 m4 c1' c2' l1 l2 h1 h2 hs0 hs0' hlt hle hv hm
   generalize digs (val a-val b).toNat=D at *
   exact ZQ11
end Go.Proofs.YtgikfcjndiohjaaGreat
