/- Laws and walks; conditions stand in each theorem. -/
import Derived.Test.YtgikfcjndiohjaaGreatP27
set_option linter.unusedSimpArgs false
set_option linter.unusedVariables false
set_option maxHeartbeats 8000000
set_option maxRecDepth 100000
namespace Go.Proofs.YtgikfcjndiohjaaGreat
open Go.RowKit
theorem jkp (x:Int):(x<0∧sgI x= -1)∨(x=0∧sgI x=0)∨(0<x∧sgI x=1):=by
 unfold sgI
 split
 ·exact Or.inl ⟨by assumption,rfl⟩
 ·split
  ·exact Or.inr (Or.inl ⟨by assumption,rfl⟩)
  ·exact Or.inr (Or.inr ⟨by omega,rfl⟩)
theorem isQ.neg_iff {x:Rw} {q:Rat} (h:isQ x q):decide (x.s<0)=decide (q<0):=by
 have e:x.s=sgI q.num:=h.1.1.1
 rw [e]
 refine decide_eq_decide.2 ?_
 have h1:= @Rat.num_nonneg q
 rcases jkp q.num with ⟨h2,h3⟩|⟨h2,h3⟩|⟨h2,h3⟩
 ·rw [h3]
  exact ⟨fun _=>Rat.not_le.1 fun hn=>by have:=h1.2 hn;omega,fun _=>by decide⟩
 ·exact ZQ70
 ·exact ZQ70
theorem isQ.pos_iff {x:Rw} {q:Rat} (h:isQ x q):decide (x.s>0)=decide (0<q):=by
 have e:x.s=sgI q.num:=h.1.1.1
 rw [e]
 refine decide_eq_decide.2 ?_
 have h1:= @Rat.num_nonneg (-q)
 rw [Rat.neg_num] at h1
 have h4:0≤ -q↔q≤0:=⟨fun h=>by grind,fun h=>by grind⟩
 rw [h4] at h1
 rcases jkp q.num with ⟨h2,h3⟩|⟨h2,h3⟩|⟨h2,h3⟩
 ·exact ZQ70
 ·exact ZQ70
 ·rw [h3]
  exact ⟨fun _=>Rat.not_le.1 fun hn=>by have:=h1.2 hn;omega,fun _=>by decide⟩
section
variable {m N db:Nat} {b:Bool} {G:Dc} {Ld:List Blk} {Dd:List Hl} {w0 V:World} {L:List Blk} {D:List Hl} {b0:Nat} {t0:TypeId}
theorem s1_any (HL:DicL m N db b G Ld Dd) (hs:Ld.Sublist L) (h0:((b0,#[.pointer (some ⟨db,0,none⟩)],t0):Blk)∈L) (K:St w0 L D V) {i:Nat} (hi:i<m) :
 Calls Tryz.prog 108 (#[.int .i64 (i:Int)]++#[.pointer (some ⟨b0,0,none⟩)]) V fun e V'=>e=.returned (.bool (G.negR i))∧St w0 L D V':=by
 obtain ⟨hb,hc,y,hy,hcap,hW⟩:=HL.line hs hi
 obtain ⟨c1,⟨c2,c3,c4,c5⟩,-⟩:=hW V D K
 have c0:=(K.blk h0).cell (j:=0) rfl
 have hii:(i:Int)<(m:Int):=by omega
 have hi0:(0:Int)≤(i:Int):=by omega
 have HE:=jpk (⟨by unfold Dc.negR;rw [hy.neg_iff],K⟩:(Ending.returned (.bool (decide (y.s<0))))=.returned (.bool (G.negR i))∧St w0 L D V)
 generalize G.negR i=R at HE ⊢
 clear hW K HL hs h0 hy c3 c4 c5
 generalize y.s=s at *
 go_enter Tryz.func108,Tryz.ntmps108
 go_wp2_with fail
 go_ret
 exact HE.out
theorem s2_any (HL:DicL m N db b G Ld Dd) (hs:Ld.Sublist L) (h0:((b0,#[.pointer (some ⟨db,0,none⟩)],t0):Blk)∈L) (K:St w0 L D V) {i:Nat} (hi:i<N) :
 Calls Tryz.prog 109 (#[.int .i64 (i:Int)]++#[.pointer (some ⟨b0,0,none⟩)]) V fun e V'=>e=.returned (.bool (G.posC i))∧St w0 L D V':=by
 obtain ⟨rb,cp,y,hy,hcap,hW⟩:=HL.goal hs hi
 obtain ⟨c1,⟨c2,c3,c4,c5⟩,-⟩:=hW V D K
 have c0:=(K.blk h0).cell (j:=0) rfl
 have hii:(i:Int)<(N:Int):=by omega
 have hi0:(0:Int)≤(i:Int):=by omega
 have HE:=jpk (⟨by unfold Dc.posC;rw [hy.pos_iff],K⟩:(Ending.returned (.bool (decide (y.s>0))))=.returned (.bool (G.posC i))∧St w0 L D V)
 generalize G.posC i=R at HE ⊢
 clear hW K HL hs h0 hy c3 c4 c5
 generalize y.s=s at *
 go_enter Tryz.func109,Tryz.ntmps109
 go_wp2_with fail
 go_ret
 exact HE.out
theorem jnp {b1 r:Nat} {t1:TypeId} (HL:DicL m N db b G Ld Dd) (hs:Ld.Sublist L) (h0:((b0,#[.pointer (some ⟨db,0,none⟩)],t0):Blk)∈L) (h1:((b1,#[.int .i64 (r:Int)],t1):Blk)∈L) (K:St w0 L D V) (hr:r<m) {i:Nat} (hi:i<N) :
 Calls Tryz.prog 110 (#[.int .i64 (i:Int)]++#[.pointer (some ⟨b0,0,none⟩),.pointer (some ⟨b1,0,none⟩)]) V fun e V'=>e=.returned (.bool (G.negA r i))∧St w0 L D V':=by
 obtain ⟨hb,hc,rb,cp,y,hy,hcap,hcap2,hW⟩:=HL.elem hs hr hi
 obtain ⟨⟨c1,c6⟩,⟨c2,c3,c4,c5⟩,-⟩:=hW V D K
 obtain ⟨⟨d1,d6⟩,⟨d2,d3,d4,d5⟩,-⟩:=hW V.drew D K.drew
 have c0:=(K.blk h0).cell (j:=0) rfl
 have d0:=(K.drew.blk h0).cell (j:=0) rfl
 have c9:=(K.blk h1).cell (j:=0) rfl
 have d9:=(K.drew.blk h1).cell (j:=0) rfl
 have hii:(i:Int)<(N:Int):=by omega
 have hi0:(0:Int)≤(i:Int):=by omega
 have hri:(r:Int)<(m:Int):=by omega
 have hr0:(0:Int)≤(r:Int):=by omega
 have HE:=jpk (⟨by unfold Dc.negA;rw [hy.neg_iff],K.drew⟩:(Ending.returned (.bool (decide (y.s<0))))=.returned (.bool (G.negA r i))∧St w0 L D V.drew)
 generalize G.negA r i=R at HE ⊢
 clear hW K HL hs h0 h1 hy c3 c4 c5 d3 d4 d5
 generalize y.s=s at *
 go_enter Tryz.func110,Tryz.ntmps110
 go_wp2_with fail
 go_region
 all_goals
  go_wp2_with fail
  go_ret
  exact HE.out
theorem jnq {b1 s:Nat} {t1:TypeId} (HL:DicL m N db b G Ld Dd) (hs:Ld.Sublist L) (h0:((b0,#[.pointer (some ⟨db,0,none⟩)],t0):Blk)∈L) (h1:((b1,#[.int .i64 (s:Int)],t1):Blk)∈L) (K:St w0 L D V) (hr:s<N) {i:Nat} (hi:i<m) :
 Calls Tryz.prog 111 (#[.int .i64 (i:Int)]++#[.pointer (some ⟨b0,0,none⟩),.pointer (some ⟨b1,0,none⟩)]) V fun e V'=>e=.returned (.bool (G.posA s i))∧St w0 L D V':=by
 obtain ⟨hb,hc,rb,cp,y,hy,hcap,hcap2,hW⟩:=HL.elem hs hi hr
 obtain ⟨⟨c1,c6⟩,⟨c2,c3,c4,c5⟩,-⟩:=hW V D K
 obtain ⟨⟨d1,d6⟩,⟨d2,d3,d4,d5⟩,-⟩:=hW V.drew D K.drew
 have c0:=(K.blk h0).cell (j:=0) rfl
 have d0:=(K.drew.blk h0).cell (j:=0) rfl
 have c9:=(K.blk h1).cell (j:=0) rfl
 have d9:=(K.drew.blk h1).cell (j:=0) rfl
 have hii:(i:Int)<(m:Int):=by omega
 have hi0:(0:Int)≤(i:Int):=by omega
 have hri:(s:Int)<(N:Int):=by omega
 have hr0:(0:Int)≤(s:Int):=by omega
 have HE:=jpk (⟨by unfold Dc.posA;rw [hy.pos_iff],K.drew⟩:(Ending.returned (.bool (decide (y.s>0))))=.returned (.bool (G.posA s i))∧St w0 L D V.drew)
 generalize G.posA s i=R at HE ⊢
 clear hW K HL hs h0 h1 hy c3 c4 c5 d3 d4 d5
 generalize y.s=sg at *
 go_enter Tryz.func111,Tryz.ntmps111
 go_wp2_with fail
 go_region
 all_goals
  go_wp2_with fail
  go_ret
  exact HE.out
end
section
variable {P:Program} {ops:Array Oper} {rest:List Oper} {o:Oper} {a:Act} {Q:Exit→Act→World→Prop} {w W:World} {L:List Blk} {D:List Hl}
theorem St.boxP (K:St w L D W) (hgd:o.guard=none) (ty:TypeId) (x:Operand) (p:Option Addr) (ho:o.op=.box ty x) (hx:a.eval x=.pointer p) (h:∀W' b,St w ((b,#[.pointer p],ty)::L) D W'→wpList P ops Q rest (a.put o.dst (.pointer (some ⟨b,0,none⟩))) W'):wpList P ops Q (o::rest) a W:=by
 refine wpList_plain hgd fun _ hK=>?_
 unfold Oper.wp execOp
 simp [ho,Instr.box,newVar,newRow,hx,Value.cells]
 exact hK _ _ (h _ _ (K.new _ ty))
theorem St.storeI1 {L':List Blk} {b:Nat} {t:TypeId} {u:Int} (K:St w L D W) (hgd:o.guard=none) (hd:o.dst=none) (ty:TypeId) (x y:Operand) (ho:o.op=.store ty x y) (v:Int) (hx:a.eval x=.pointer (some ⟨b,0,none⟩)) (hy:a.eval y=.int .i64 v)
 (hU:Upd b #[.int .i64 u] t #[.int .i64 v] L L') (hi:(P.info? ty).map (·.size)=some 1) (h:∀W',St w L' D W'→wpList P ops Q rest a W'):wpList P ops Q (o::rest) a W :=
 K.storeI (off:=0) hgd hd ty x y ho .i64 v hx hy hU rfl hi Zb0 h
end
theorem jcK:(Tryz.prog.info? 3).map (fun i=>i.zero.map (·.cells))=some (some #[.int .i64 0]):=by kernel_rfl
theorem jcJ:(Tryz.prog.info? 3).map (·.size)=some 1:=by kernel_rfl
def NxI:Nxt→Int→Int→Prop
 | .best,r,s=>r= -1∧s= -1
 | .contra i,r,s=>r=(i:Int)∧s= -1
 | .endless j,r,s=>r= -1∧s=(j:Int)
 | .swap _ _,_,_=>False
def SrQ (m N:Nat) (G G':Dc) (b:Bool) (r s:Int):Prop:=(b=true→Srch m N G none∧r= -1∧s= -1)∧(b=false→Srch m N G (some G')∧NxI (G'.pick m N) r s)
def SrP (w0:World) (L1:List Blk) (D:List Hl) (m N db:Nat) (G:Dc) (e:Ending) (W':World):Prop :=
 ∃(r s:Int) (b:Bool) (G':Dc) (Ld:List Blk) (Dd:List Hl),e=.returned (.tuple #[.int .i64 r,.int .i64 s])∧Hid (DicL m N db b G' Ld Dd)∧Hid (SrQ m N G G' b r s)∧St w0 (Ld++L1) (Dd++D) W'
def SrL (m N:Nat) (G G':Dc) (b:Bool) (t:Nat):Prop:=(b=true→Srch m N G none)∧(b=false→G'.Ok m N∧(∀R,Srch m N G' R→Srch m N G R)∧¬(Dc.seq m N t G').live m N)
theorem SrL.full {m N t:Nat} {G G':Dc} (h:SrL m N G G' true t):SrQ m N G G' true (-1) (-1):=⟨fun _=>⟨h.1 rfl,rfl,rfl⟩,(fun e=>by cases e)⟩
theorem SrL.stop {m N t:Nat} {G G':Dc} {p:Nxt} {r s:Int} (h:SrL m N G G' false t) (hp:G'.pick m N=p) (hn:NxI p r s):SrQ m N G G' false r s :=
 ⟨(fun e=>by cases e),fun _=>⟨(h.2 rfl).2.1 _ (.stop fun ⟨a,b,e⟩=>by rw [←hp,e] at hn;exact hn),by rw [hp];exact hn⟩⟩
theorem SrL.step {m N t r s:Nat} {G G' G2:Dc} {b:Bool} (h:SrL m N G G' false t) (hp:G'.pick m N=.swap r s) (hf:FulK false b (G'.fitX m N r s=true)) (hx:G'.fitX m N r s=true→G2=G'.xch r s):0<t∧SrL m N G G2 b (t-1):=by
 obtain ⟨hOk,hR,hF⟩:=h.2 rfl
 cases t with
 | zero=>exact absurd ⟨r,s,hp⟩ hF
 | succ t =>
  refine ⟨by omega,fun e=>?_,fun e=>?_⟩
  ·refine hR _ (.full hp ?_)
   cases hq:G'.fitX m N r s
   ·rfl
   ·have:=hf.2 ⟨rfl,hq⟩
    rw [e] at this
    cases this
  ·have hq:=(hf.1 e).2
   have e2:=hx hq
   obtain ⟨h1,h2,-⟩:=Dc.pick_swap hOk hp
   have e3:G'.nxt m N=G'.xch r s:=by unfold Dc.nxt;rw [hp]
   rw [e2]
   refine ⟨hOk.xch h1 h2,fun R hS=>hR _ (.step hp hq hS),?_⟩
   rw [←e3]
   exact hF
theorem jn9 {m n:Nat} {D:Dc} (h1:lstP D.own D.negR m=none) (h2:lstP D.free D.posC n=none):D.pick m n=.best:=by unfold Dc.pick;rw [h1,h2]
theorem jj2 {m n r:Nat} {D:Dc} (h1:lstP D.own D.negR m=some r) (h2:lstP D.free D.posC n=none):D.pick m n=D.rowP n r:=by unfold Dc.pick;rw [h1,h2]
theorem jj1 {m n s:Nat} {D:Dc} (h1:lstP D.own D.negR m=none) (h2:lstP D.free D.posC n=some s):D.pick m n=D.colP m s:=by unfold Dc.pick;rw [h1,h2]
theorem jj0 {m n r s:Nat} {D:Dc} (h1:lstP D.own D.negR m=some r) (h2:lstP D.free D.posC n=some s) (h:D.own r<D.free s):D.pick m n=D.rowP n r:=by unfold Dc.pick;rw [h1,h2];exact if_pos h
theorem jjZ {m n r s:Nat} {D:Dc} (h1:lstP D.own D.negR m=some r) (h2:lstP D.free D.posC n=some s) (h:¬D.own r<D.free s):D.pick m n=D.colP m s:=by unfold Dc.pick;rw [h1,h2];exact if_neg h
theorem jnk {n r:Nat} {D:Dc} (h:lstP D.free (D.negA r) n=none):D.rowP n r=.contra r:=by unfold Dc.rowP;rw [h]
theorem jnm {n r s:Nat} {D:Dc} (h:lstP D.free (D.negA r) n=some s):D.rowP n r=.swap r s:=by unfold Dc.rowP;rw [h]
theorem jm2 {m s:Nat} {D:Dc} (h:lstP D.own (D.posA s) m=none):D.colP m s=.endless s:=by unfold Dc.colP;rw [h]
theorem jm3 {m r s:Nat} {D:Dc} (h:lstP D.own (D.posA s) m=some r):D.colP m s=.swap r s:=by unfold Dc.colP;rw [h]
def XdQ (w0:World) (L1:List Blk) (D:List Hl) (x y z:Blk) (m N db r s:Nat) (b:Bool) (G:Dc) (e:Ending) (W':World):Prop :=
 ∃(b':Bool) (G':Dc) (Ld:List Blk) (Dd:List Hl),e=.returned (.tuple #[])∧Hid (DicL m N db b' G' Ld Dd)∧Hid (FulK b b' (G.fitX m N r s=true))∧Hid (G.fitX m N r s=true→G'=G.xch r s)∧St w0 (x::y::z::(Ld++L1)) (Dd++D) W'
theorem je0 {w0 w:World} {L1:List Blk} {D:List Hl} {x y z:Blk} {m N db r s:Nat} {b:Bool} {G:Dc} {Ld:List Blk} {Dd:List Hl} (h:DicL m N db b G Ld Dd) (K:St w0 (x::y::z::(Ld++L1)) (Dd++D) w) (hr:r<m) (hs:s<N) (hm:m≤1000) (hN:N≤1000) (hp:G.a r s≠0) :
 Calls Tryz.prog 112 #[.pointer (some ⟨db,0,none⟩),.int .i64 r,.int .i64 s] w (XdQ w0 L1 D x y z m N db r s b G):=by
 have hpm:∀Ld:List Blk,(Ld++([x,y,z]++L1)).Perm (x::y::z::(Ld++L1)):=fun Ld=>List.perm_append_comm_assoc Ld [x,y,z] L1
 refine (jfx h (K.perm (hpm Ld)) hr hs hm hN hp).mono ?_
 rintro e w5 ⟨b',G',Ld',Dd',rfl,h1,h2,h3,K5⟩
 exact ⟨b',G',Ld',Dd',rfl,h1,h2,h3,K5.perm (hpm Ld').symm⟩
theorem jeH (w0 w:World) (L1:List Blk) (D:List Hl) (m N db:Nat) (G:Dc) (Ld:List Blk) (Dd:List Hl) (HL:DicL m N db false G Ld Dd) (K:St w0 (Ld++L1) (Dd++D) w) (hOk:G.Ok m N) (hm:m≤1000) (hN:N≤1000) :
 Calls Tryz.prog 62 #[.pointer (some ⟨db,0,none⟩)] w (SrP w0 L1 D m N db G):=by
 obtain ⟨t,ht⟩:=ends hOk
 have HT:=jpk (show SrL m N G G false t from ⟨(fun e=>by cases e),fun _=>⟨hOk,fun R h=>h,ht⟩⟩)
 have HD:=jpk HL
 clear ht hOk HL
 go_enter Tryz.func62,Tryz.ntmps62
 go_wp2_with (apply K.boxP;rfl;rfl;rfl;clear K;intro W b0 K)
 go_loopg [] t (fun gk wr=>∃(b:Bool) (G2:Dc) (Ld2:List Blk) (Dd2:List Hl),Hid (DicL m N db b G2 Ld2 Dd2)∧Hid (SrL m N G G2 b gk)∧St w0 ((b0,#[.pointer (some ⟨db,0,none⟩)],81)::(Ld2++L1)) (Dd2++D) wr)
 case atStart=>exact ⟨false,G,Ld,Dd,HD,HT,K⟩
 case round =>
  clear K HT HD
  obtain ⟨b,G2,Ld2,Dd2,HD,HT,K⟩:=hrel
  have r:=K.rawS
  obtain ⟨R2,hR2,hflag⟩:=HD.out.flag (L:=((b0,#[.pointer (some ⟨db,0,none⟩)],81)::(Ld2++L1))) Zb18
  have c0:=hflag _ _ K
  clear hflag hR2
  cases b
  ·obtain ⟨A1,k1,hown⟩:=HD.out.ownR (L:=((b0,#[.pointer (some ⟨db,0,none⟩)],81)::(Ld2++L1))) Zb18 hm
   have HO1:=jpk hown
   have co:=(hown _ _ K).1
   obtain ⟨o1,ho1⟩:∃o1,o1=lstP G2.own G2.negR m:=⟨_,rfl⟩
   have H1:=fun V (h:St w0 ((b0,#[.pointer (some ⟨db,0,none⟩)],81)::(Ld2++L1)) (Dd2++D) V)=>jb3 108 #[.pointer (some ⟨b0,0,none⟩)] A1 m k1 G2.own G2.negR w0 V _ _ h ZO jk9 (fun V h=>(hown _ _ h).2) (fun V h i hi=>s1_any HD.out Zb18 ZMB h hi)
   rw [←ho1] at H1
   have HH1:=jpk H1
   have HO1:=jpk ho1
   clear hown H1 ho1
   go_upto_region 3 with (first|(first|(apply K.alloc;rfl;rfl;exact jcK;clear K r;(first|((fail_if_success revert b1);intro W b1 K)|intro W b2 K);have r:=K.rawS)|(apply K.storeI1;rfl;rfl;rfl;rfl;rfl;(repeat (first|with_reducible apply Upd.head|with_reducible apply Upd.tail));exact jcJ;clear K r;intro W K;have r:=K.rawS))|(go_at_call 107;refine (HH1.out _ K).mono ?_;rintro e W' ⟨rfl,K'⟩;replace K:=K';clear K' r;have r:=K.rawS))
   clear HH1 co c0
   obtain ⟨A2,k2,hfree⟩:=HD.out.freeR (L:=((b1,#[.int .i64 (ixI o1)],3)::(b0,#[.pointer (some ⟨db,0,none⟩)],81)::(Ld2++L1))) Zb18 hN
   have cf:=(hfree _ _ K).1
   obtain ⟨o2,ho2⟩:∃o2,o2=lstP G2.free G2.posC N:=⟨_,rfl⟩
   have H2:=fun V (h:St w0 ((b1,#[.int .i64 (ixI o1)],3)::(b0,#[.pointer (some ⟨db,0,none⟩)],81)::(Ld2++L1)) (Dd2++D) V)=>jb3 109 #[.pointer (some ⟨b0,0,none⟩)] A2 N k2 G2.free G2.posC w0 V _ _ h ZO jma (fun V h=>(hfree _ _ h).2) (fun V h i hi=>s2_any HD.out Zb18 ZMB h hi)
   rw [←ho2] at H2
   have HH2:=jpk H2
   have HO2:=jpk ho2
   clear hfree H2 ho2
   go_upto_region 4 with (first|(first|(apply K.alloc;rfl;rfl;exact jcK;clear K r;(first|((fail_if_success revert b1);intro W b1 K)|intro W b2 K);have r:=K.rawS)|(apply K.storeI1;rfl;rfl;rfl;rfl;rfl;(repeat (first|with_reducible apply Upd.head|with_reducible apply Upd.tail));exact jcJ;clear K r;intro W K;have r:=K.rawS))|(go_at_call 107;refine (HH2.out _ K).mono ?_;rintro e W' ⟨rfl,K'⟩;replace K:=K';clear K' r;have r:=K.rawS))
   clear HH2 cf
   cases o1 with
   | none =>
    rw [show ixI none= -1 from rfl] at K r
    cases o2 with
    | none =>
     rw [show ixI none= -1 from rfl] at K r
     have HE:=jpk (show SrP w0 L1 D m N db G (.returned (.tuple #[.int .i64 (-1),.int .i64 (-1)])) W from ⟨_,_,false,G2,Ld2,Dd2,rfl,HD,jpk (HT.out.stop (jn9 HO1.out.symm HO2.out.symm) ⟨rfl,rfl⟩),K.part ((List.sublist_cons_self _ _).trans ((List.sublist_cons_self _ _).trans (List.sublist_cons_self _ _)))⟩)
     clear HD HT
     exact ZQ124
    | some s =>
     rw [show ixI (some s)=((s:Nat):Int) from rfl] at K r
     have HsN:=jpk (show s<N from (jaB HO2.out.symm).1)
     have hs0:¬((s:Nat):Int)<0:=by omega
     have hs1:decide (((s:Nat):Int)<0)=false:=decide_eq_false hs0
     have r2:=K.drew.rawS
     go_upto_region 6 with fail
     go_region
     all_goals
      replace K:=K.drew
      clear r r2
      obtain ⟨A2,k2,hown⟩:=HD.out.ownR (L:=((b2,#[.int .i64 ((s:Nat):Int)],3)::(b1,#[.int .i64 (-1)],3)::(b0,#[.pointer (some ⟨db,0,none⟩)],81)::(Ld2++L1))) Zb18 hm
      have cf:=(hown _ _ K).1
      obtain ⟨o3,ho3⟩:∃o3,o3=lstP G2.own (G2.posA s) m:=⟨_,rfl⟩
      have H3:=fun V (h:St w0 ((b2,#[.int .i64 ((s:Nat):Int)],3)::(b1,#[.int .i64 (-1)],3)::(b0,#[.pointer (some ⟨db,0,none⟩)],81)::(Ld2++L1)) (Dd2++D) V)=>jb3 111 #[.pointer (some ⟨b0,0,none⟩),.pointer (some ⟨b2,0,none⟩)] A2 m k2 G2.own (G2.posA s) w0 V _ _ h ZO jgL (fun V h=>(hown _ _ h).2) (fun V h i hi=>jnq HD.out Zb18 ZMB ZMB h HsN.out hi)
      rw [←ho3] at H3
      have HO3:=jpk ho3
      have HH3:=jpk H3
      clear hown ho3 H3
      have r:=K.rawS
      go_upto_region 11 with (first|(first|(apply K.alloc;rfl;rfl;exact jcK;clear K r;(first|((fail_if_success revert b1);intro W b1 K)|intro W b2 K);have r:=K.rawS)|(apply K.storeI1;rfl;rfl;rfl;rfl;rfl;(repeat (first|with_reducible apply Upd.head|with_reducible apply Upd.tail));exact jcJ;clear K r;intro W K;have r:=K.rawS))|(go_at_call 107;refine (HH3.out _ K).mono ?_;rintro e W' ⟨rfl,K'⟩;replace K:=K';clear K' r;have r:=K.rawS))
      clear cf HH3
      cases o3 with
      | none =>
       rw [show ixI none= -1 from rfl] at K r
       have r2:=K.drew.rawS
       have K:=K.drew
       have HE:=jpk (show SrP w0 L1 D m N db G (.returned (.tuple #[.int .i64 (-1),.int .i64 ((s:Nat):Int)])) W.drew from ⟨_,_,false,G2,Ld2,Dd2,rfl,HD,jpk (HT.out.stop ((jj1 HO1.out.symm HO2.out.symm).trans (jm2 HO3.out.symm)) ⟨rfl,rfl⟩),K.part ((List.sublist_cons_self _ _).trans ((List.sublist_cons_self _ _).trans (List.sublist_cons_self _ _)))⟩)
       exact ZQ87
      | some rr =>
       rw [show ixI (some rr)=((rr:Nat):Int) from rfl] at K r
       have hs0:¬((rr:Nat):Int)<0:=by omega
       have hs1:decide (((rr:Nat):Int)<0)=false:=decide_eq_false hs0
       have hpk:=((jj1 HO1.out.symm HO2.out.symm).trans (jm3 HO3.out.symm))
       exact ZQ17
   | some rr =>
    rw [show ixI (some rr)=((rr:Nat):Int) from rfl] at K r
    have Hrm:=jpk (show rr<m from (jaB HO1.out.symm).1)
    have hr0:¬((rr:Nat):Int)<0:=by omega
    have hr1:decide (((rr:Nat):Int)<0)=false:=decide_eq_false hr0
    cases o2 with
    | none =>
     rw [show ixI none= -1 from rfl] at K r
     have r2:=K.drew.rawS
     go_upto_region 6 with fail
     go_region
     all_goals
      replace K:=K.drew
      clear r r2
      obtain ⟨A2,k2,hfree⟩:=HD.out.freeR (L:=((b2,#[.int .i64 (-1)],3)::(b1,#[.int .i64 ((rr:Nat):Int)],3)::(b0,#[.pointer (some ⟨db,0,none⟩)],81)::(Ld2++L1))) Zb18 hN
      have cf:=(hfree _ _ K).1
      obtain ⟨o3,ho3⟩:∃o3,o3=lstP G2.free (G2.negA rr) N:=⟨_,rfl⟩
      have H3:=fun V (h:St w0 ((b2,#[.int .i64 (-1)],3)::(b1,#[.int .i64 ((rr:Nat):Int)],3)::(b0,#[.pointer (some ⟨db,0,none⟩)],81)::(Ld2++L1)) (Dd2++D) V)=>jb3 110 #[.pointer (some ⟨b0,0,none⟩),.pointer (some ⟨b1,0,none⟩)] A2 N k2 G2.free (G2.negA rr) w0 V _ _ h ZO jgK (fun V h=>(hfree _ _ h).2) (fun V h i hi=>jnp HD.out Zb18 ZMB ZMB h Hrm.out hi)
      rw [←ho3] at H3
      have HO3:=jpk ho3
      have HH3:=jpk H3
      clear hfree ho3 H3
      have r:=K.rawS
      go_upto_region 8 with (first|(first|(apply K.alloc;rfl;rfl;exact jcK;clear K r;(first|((fail_if_success revert b1);intro W b1 K)|intro W b2 K);have r:=K.rawS)|(apply K.storeI1;rfl;rfl;rfl;rfl;rfl;(repeat (first|with_reducible apply Upd.head|with_reducible apply Upd.tail));exact jcJ;clear K r;intro W K;have r:=K.rawS))|(go_at_call 107;refine (HH3.out _ K).mono ?_;rintro e W' ⟨rfl,K'⟩;replace K:=K';clear K' r;have r:=K.rawS))
      clear cf HH3
      cases o3 with
      | none =>
       rw [show ixI none= -1 from rfl] at K r
       have HE:=jpk (show SrP w0 L1 D m N db G (.returned (.tuple #[.int .i64 ((rr:Nat):Int),.int .i64 (-1)])) W from ⟨_,_,false,G2,Ld2,Dd2,rfl,HD,jpk (HT.out.stop ((jj2 HO1.out.symm HO2.out.symm).trans (jnk HO3.out.symm)) ⟨rfl,rfl⟩),K.part ((List.sublist_cons_self _ _).trans ((List.sublist_cons_self _ _).trans (List.sublist_cons_self _ _)))⟩)
       exact ZQ109
      | some s =>
       rw [show ixI (some s)=((s:Nat):Int) from rfl] at K r
       have hs0:¬((s:Nat):Int)<0:=by omega
       have hs1:decide (((s:Nat):Int)<0)=false:=decide_eq_false hs0
       have hpk:=((jj2 HO1.out.symm HO2.out.symm).trans (jnm HO3.out.symm))
       exact ZQ17
    | some s =>
     rw [show ixI (some s)=((s:Nat):Int) from rfl] at K r
     have HsN:=jpk (show s<N from (jaB HO2.out.symm).1)
     have hs0:¬((s:Nat):Int)<0:=by omega
     have hs1:decide (((s:Nat):Int)<0)=false:=decide_eq_false hs0
     obtain ⟨A3,k3,hro⟩:=HD.out.ownR (L:=((b2,#[.int .i64 ((s:Nat):Int)],3)::(b1,#[.int .i64 ((rr:Nat):Int)],3)::(b0,#[.pointer (some ⟨db,0,none⟩)],81)::(Ld2++L1))) Zb18 hm
     obtain ⟨A4,k4,hrf⟩:=HD.out.freeR (L:=((b2,#[.int .i64 ((s:Nat):Int)],3)::(b1,#[.int .i64 ((rr:Nat):Int)],3)::(b0,#[.pointer (some ⟨db,0,none⟩)],81)::(Ld2++L1))) Zb18 hN
     obtain ⟨p1,q1⟩:=hro _ _ K
     obtain ⟨p2,q2⟩:=hro _ _ K.drew
     obtain ⟨p3,q3⟩:=hrf _ _ K
     obtain ⟨p4,q4⟩:=hrf _ _ K.drew
     obtain ⟨vb,vo,hA,hvb,hc⟩:=RdI.cellAt q1 Hrm.out
     subst hA
     obtain ⟨vb',vo',hA',hvb',hc'⟩:=RdI.cellAt q2 Hrm.out
     cases hA'
     obtain ⟨ub,uo,hB,hub,hd⟩:=RdI.cellAt q3 HsN.out
     subst hB
     obtain ⟨ub',uo',hB',hub',hd'⟩:=RdI.cellAt q4 HsN.out
     cases hB'
     rw [jcS Hrm.out] at hc hc'
     rw [jcS HsN.out] at hd hd'
     have hcp1:=q1.caps
     have hcp2:=q3.caps
     have hri:((rr:Nat):Int)<(m:Int):=by have:=Hrm.out;omega
     have hsi:((s:Nat):Int)<(N:Int):=by have:=HsN.out;omega
     have hri0:(0:Int)≤((rr:Nat):Int):=by omega
     have hsi0:(0:Int)≤((s:Nat):Int):=by omega
     have hge:decide (((rr:Nat):Int)≥0)=true:=decide_eq_true hri0
     have r2:=K.drew.rawS
     clear hro hrf q1 q2 q3 q4 hvb hvb' hub hub'
     by_cases hlt:G2.own rr<G2.free s
     ·have hl2:((G2.own rr:Nat):Int)<((G2.free s:Nat):Int):=by omega
      have hl3:decide (((G2.own rr:Nat):Int)<((G2.free s:Nat):Int))=true:=decide_eq_true hl2
      have HLT:=jpk hlt
      clear hlt
      go_upto_region 6 with fail
      go_quiet (fail)
      rename_i nq
      replace K:=K.drewN nq
      generalize W.drewN nq=W at K ⊢
      clear r r2 p1 p2 p3 p4 hc hc' hd hd' hcp1 hcp2
      obtain ⟨A2,k2,hfree⟩:=HD.out.freeR (L:=((b2,#[.int .i64 ((s:Nat):Int)],3)::(b1,#[.int .i64 ((rr:Nat):Int)],3)::(b0,#[.pointer (some ⟨db,0,none⟩)],81)::(Ld2++L1))) Zb18 hN
      have cf:=(hfree _ _ K).1
      obtain ⟨o3,ho3⟩:∃o3,o3=lstP G2.free (G2.negA rr) N:=⟨_,rfl⟩
      have H3:=fun V (h:St w0 ((b2,#[.int .i64 ((s:Nat):Int)],3)::(b1,#[.int .i64 ((rr:Nat):Int)],3)::(b0,#[.pointer (some ⟨db,0,none⟩)],81)::(Ld2++L1)) (Dd2++D) V)=>jb3 110 #[.pointer (some ⟨b0,0,none⟩),.pointer (some ⟨b1,0,none⟩)] A2 N k2 G2.free (G2.negA rr) w0 V _ _ h ZO jgK (fun V h=>(hfree _ _ h).2) (fun V h i hi=>jnp HD.out Zb18 ZMB ZMB h Hrm.out hi)
      rw [←ho3] at H3
      have HO3:=jpk ho3
      have HH3:=jpk H3
      clear hfree ho3 H3
      have r:=K.rawS
      go_upto_region 8 with (first|(first|(apply K.alloc;rfl;rfl;exact jcK;clear K r;(first|((fail_if_success revert b1);intro W b1 K)|intro W b2 K);have r:=K.rawS)|(apply K.storeI1;rfl;rfl;rfl;rfl;rfl;(repeat (first|with_reducible apply Upd.head|with_reducible apply Upd.tail));exact jcJ;clear K r;intro W K;have r:=K.rawS))|(go_at_call 107;refine (HH3.out _ K).mono ?_;rintro e W' ⟨rfl,K'⟩;replace K:=K';clear K' r;have r:=K.rawS))
      clear cf HH3
      cases o3 with
      | none =>
       rw [show ixI none= -1 from rfl] at K r
       have HE:=jpk (show SrP w0 L1 D m N db G (.returned (.tuple #[.int .i64 ((rr:Nat):Int),.int .i64 (-1)])) W from ⟨_,_,false,G2,Ld2,Dd2,rfl,HD,jpk (HT.out.stop ((jj0 HO1.out.symm HO2.out.symm HLT.out).trans (jnk HO3.out.symm)) ⟨rfl,rfl⟩),K.part ((List.sublist_cons_self _ _).trans ((List.sublist_cons_self _ _).trans (List.sublist_cons_self _ _)))⟩)
       exact ZQ109
      | some s =>
       rw [show ixI (some s)=((s:Nat):Int) from rfl] at K r
       have hs0:¬((s:Nat):Int)<0:=by omega
       have hs1:decide (((s:Nat):Int)<0)=false:=decide_eq_false hs0
       have hpk:=((jj0 HO1.out.symm HO2.out.symm HLT.out).trans (jnm HO3.out.symm))
       exact ZQ17
     ·have hl2:¬((G2.own rr:Nat):Int)<((G2.free s:Nat):Int):=by omega
      have hl3:decide (((G2.own rr:Nat):Int)<((G2.free s:Nat):Int))=false:=decide_eq_false hl2
      have HLT:=jpk hlt
      clear hlt
      go_upto_region 6 with fail
      go_quiet (fail)
      rename_i nq
      replace K:=K.drewN nq
      generalize W.drewN nq=W at K ⊢
      clear r r2 p1 p2 p3 p4 hc hc' hd hd' hcp1 hcp2
      obtain ⟨A2,k2,hown⟩:=HD.out.ownR (L:=((b2,#[.int .i64 ((s:Nat):Int)],3)::(b1,#[.int .i64 ((rr:Nat):Int)],3)::(b0,#[.pointer (some ⟨db,0,none⟩)],81)::(Ld2++L1))) Zb18 hm
      have cf:=(hown _ _ K).1
      obtain ⟨o3,ho3⟩:∃o3,o3=lstP G2.own (G2.posA s) m:=⟨_,rfl⟩
      have H3:=fun V (h:St w0 ((b2,#[.int .i64 ((s:Nat):Int)],3)::(b1,#[.int .i64 ((rr:Nat):Int)],3)::(b0,#[.pointer (some ⟨db,0,none⟩)],81)::(Ld2++L1)) (Dd2++D) V)=>jb3 111 #[.pointer (some ⟨b0,0,none⟩),.pointer (some ⟨b2,0,none⟩)] A2 m k2 G2.own (G2.posA s) w0 V _ _ h ZO jgL (fun V h=>(hown _ _ h).2) (fun V h i hi=>jnq HD.out Zb18 ZMB ZMB h HsN.out hi)
      rw [←ho3] at H3
      have HO3:=jpk ho3
      have HH3:=jpk H3
      clear hown ho3 H3
      have r:=K.rawS
      go_upto_region 11 with (first|(first|(apply K.alloc;rfl;rfl;exact jcK;clear K r;(first|((fail_if_success revert b1);intro W b1 K)|intro W b2 K);have r:=K.rawS)|(apply K.storeI1;rfl;rfl;rfl;rfl;rfl;(repeat (first|with_reducible apply Upd.head|with_reducible apply Upd.tail));exact jcJ;clear K r;intro W K;have r:=K.rawS))|(go_at_call 107;refine (HH3.out _ K).mono ?_;rintro e W' ⟨rfl,K'⟩;replace K:=K';clear K' r;have r:=K.rawS))
      clear cf HH3
      cases o3 with
      | none =>
       rw [show ixI none= -1 from rfl] at K r
       have r2:=K.drew.rawS
       have K:=K.drew
       have HE:=jpk (show SrP w0 L1 D m N db G (.returned (.tuple #[.int .i64 (-1),.int .i64 ((s:Nat):Int)])) W.drew from ⟨_,_,false,G2,Ld2,Dd2,rfl,HD,jpk (HT.out.stop ((jjZ HO1.out.symm HO2.out.symm HLT.out).trans (jm2 HO3.out.symm)) ⟨rfl,rfl⟩),K.part ((List.sublist_cons_self _ _).trans ((List.sublist_cons_self _ _).trans (List.sublist_cons_self _ _)))⟩)
       exact ZQ87
      | some rr =>
       rw [show ixI (some rr)=((rr:Nat):Int) from rfl] at K r
       have hs0:¬((rr:Nat):Int)<0:=by omega
       have hs1:decide (((rr:Nat):Int)<0)=false:=decide_eq_false hs0
       have hpk:=((jjZ HO1.out.symm HO2.out.symm HLT.out).trans (jm3 HO3.out.symm))
       exact ZQ17
  ·have HE:=jpk (show SrP w0 L1 D m N db G (.returned (.tuple #[.int .i64 (-1),.int .i64 (-1)])) wr from ⟨_,_,true,G2,Ld2,Dd2,rfl,HD,jpk HT.out.full,K.part (List.sublist_cons_self _ _)⟩)
   clear HD HT K
   exact ZQ124
theorem jjM {Dd D:List Hl} {A:List Hl} {x:Hl} (h:x∈Dd):x∈A++(Dd++D):=List.mem_append_right _ (List.mem_append_left _ h)
theorem jhK {q:Rat} (h:jaF q=true):addK 0 (-q)=true:=by
 unfold jaF at h
 rw [Bool.and_eq_true] at h
 unfold addK sumK
 have e1:(0:Rat).num=0:=rfl
 have e2:((0:Rat).den:Int)=1:=rfl
 rw [e1,e2,Rat.neg_num,Rat.neg_den,Int.zero_mul,Int.mul_one,Int.one_mul,Int.zero_add,jbV h.1,h.2]
 decide
section
variable {m N db:Nat} {b:Bool} {G:Dc} {Ld:List Blk} {Dd:List Hl} {w0 W:World} {L1:List Blk} {D:List Hl}
def BestP (w0:World) (Ld L1:List Blk) (Dd D:List Hl) (m N:Nat) (x y:Nat→Rat) (e:Ending) (W':World):Prop :=
 ∃(gx gy:Nat) (vx vy:Nat→Rw),e=Ending.returned (.tuple #[.slice (some ⟨gx,0,none⟩) N N,.slice (some ⟨gy,0,none⟩) m m])∧Hid (∀j,j<N→isQ (vx j) (x j))∧Hid (∀j,j<m→isQ (vy j) (y j))∧St w0 ((gy,rwA m vy [],29)::(gx,rwA N vx [],29)::(Ld++L1)) (⟨rwP m vy,rwS m vy⟩::⟨rwP N vx,rwS N vx⟩::(Dd++D)) W'
theorem jhX {w0:World} {L:List Blk} {D:List Hl} {R:List Value} (hm:((db,(Value.bool b::R).toArray,92):Blk)∈L) {y:Rw} {er:Int} {q:Rat} (hf:jaF q=true) (G:SubS 0 q y er) {V:World} (K:St w0 L (⟨rdP y.B y.m y.d y.k,rdS y.B y.m⟩::⟨rdP y.A y.n y.c y.l,rdS y.A y.n⟩::D) V) :
 Calls Tryz.prog 113 #[.pointer (some ⟨db,0,none⟩),.agg #[.int .i64 y.s,.slice y.A y.n y.c,.int .i64 y.t,.slice y.B y.m y.d],.int .i64 er] V (FrG w0 L D fun z=>z=0-q):=by
 have he:er=0:=by
  have:=G.2
  rw [jhK hf] at this
  simpa using this
 obtain ⟨L',hU,rfl⟩:=Upd.same hm
 refine (jck (b':=b) K G.1 (by rw [he];simp) hU).mono ?_
 rintro e W' ⟨z,zq,h1,h2,h3⟩
 exact ⟨z,zq,h1,jpk ⟨h2.out.1,h2.out.2 he⟩,h3⟩
theorem jkN (HL:DicL m N db b G Ld Dd) (K:St w0 (Ld++L1) (Dd++D) W) (hOk:G.Ok m N) (hm:m≤1000) (hN:N≤1000) :
 Calls Tryz.prog 64 #[.pointer (some ⟨db,0,none⟩),.int .i64 N] W (BestP w0 Ld L1 Dd D m N (xB m G) (yB N G)):=by
 have HD:=jpk HL
 have HOk:=jpk hOk
 obtain ⟨A0,k0,hrows⟩:=HL.rowsR (L:=Ld++L1) Zb18
 have s0:=hrows _ _ K.drew
 have HZ1:=jpk (fun V L D (h:St w0 L D V)=>jcB N w0 V L D h hN)
 have HZ2:=jpk (fun V L D (h:St w0 L D V)=>jcB m w0 V L D h hm)
 have HSA:=jpk (fun V D v g (h:St w0 ((g,rwA N v [],29)::(Ld++L1)) D V)=>(show V.cell? ⟨db,1,none⟩=some (.slice A0 m k0) from hrows _ _ (h.part (List.sublist_cons_self _ _))))
 clear hOk HL hrows
 go_enter Tryz.func64,Tryz.ntmps64
 go_upto_region 1 with fail
 have K0:=K.drew
 clear K
 refine jak 100 (fun V=>V.cell? ⟨db,1,none⟩=some (.slice A0 m k0)) Zb9 s0 (fun hSh=>?_)
 clear s0
 refine jaa.tkA 0 rfl ?_
 refine jaa.tkA 2 rfl ?_
 refine jaa.tkA 3 rfl ?_
 refine jaa.tkA 4 rfl ?_
 refine jaa.tkA 5 rfl ?_
 refine jaa.tkA 6 rfl ?_
 refine jaa.on 1 rfl fun KK hKK=>?_
 go_simp
 go_at_call 61;refine (HZ1.out _ _ _ K0).mono ?_;rintro e w3 ⟨gx,vx,rfl,hvx,k1⟩
 go_wp2_with fail
 refine hKK.out _ _ ?_ (fun hSh=>?_)
 ·exact HSA.out _ _ _ _ k1
 clear hKK KK
 refine ZPT ?_
 refine jaa.on 7 rfl fun KK hKK=>?_
 go_simp
 go_at_call 61;refine (HZ2.out _ _ _ k1).mono ?_;rintro e w4 ⟨gy,vy,rfl,hvy,k2⟩
 go_wp2_with fail
 refine hKK.out _ _ ?_ (fun hSh=>?_)
 ·exact HSA.out _ _ _ _ ((k2.part (List.sublist_cons_self _ _)).less (D':=_) (fun x hx=>hx))
 clear hKK KK
 refine ZPT ?_
 refine jaa.tkA 8 rfl ?_
 refine jaa.tkA 9 rfl ?_
 refine jaa.done Zb9 ?_
 have K:=k2
 clear k2 k1 K0 hSh HSA HZ1 HZ2
 obtain ⟨A1,k1,hown⟩:=HD.out.ownA (w0:=w0) hm
 have HOR:=jpk hown
 obtain ⟨A2,k2,hfree⟩:=HD.out.freeA (w0:=w0) hN
 have HFR:=jpk hfree
 have co:=(hown _ _ _ Zb18 K).1
 clear hown hfree
 have r:=trivial
 go_wp2_with fail
 clear co
 go_loopg [25] m (fun gk s25 wr=>∃(i:Nat) (v:Nat→Rw) (x:Nat→Rat),i≤m∧gk=m-i∧s25=.int .i64 i∧Hid (∀u,u<N→isQ (v u) (x u))∧Hid (PutX G.own G.v N 0 i (fun _=>0) x)∧St w0 ((gy,rwA m vy [],29)::(gx,rwA N v [],29)::(Ld++L1)) (⟨rwP m vy,rwS m vy⟩::⟨rwP N v,rwS N v⟩::(Dd++D)) wr)
 case atStart=>exact ⟨0,vx,fun _=>0,Nat.zero_le _,rfl,rfl,hvx,jpk (PutX.zero _ _ _ _ _),K⟩
 case round =>
  clear K hvx
  obtain ⟨i,v2,x2,hj,rfl,rfl,HV2,HP,K⟩:=hrel
  by_cases hlt:i<m
  ·have hji:(i:Int)<(m:Int):=by omega
   have hj0:(0:Int)≤(i:Int):=by omega
   obtain ⟨vb,vo,hA,hvb,hcc⟩:=RdI.cellAt (HOR.out _ _ _ Zb18 K).2 hlt
   subst hA
   rw [jcS hlt] at hcc
   by_cases hge:G.own i<N
   ·have hgd:decide (G.own i<N)=true:=decide_eq_true hge
    have hui:((G.own i:Nat):Int)<(N:Int):=by omega
    have hu0:(0:Int)≤((G.own i:Nat):Int):=by omega
    obtain ⟨hb,hc,x,hx,hcap1,hW⟩:=HD.out.line (L:=((gy,rwA m vy [],29)::(gx,rwA N v2 [],29)::(Ld++L1))) Zb18 hlt
    obtain ⟨y1,⟨y3,y4,y5,y6⟩,hK⟩:=hW _ _ K
    replace K:=hK (fun x hx=>jjM (A:=[_,_]) hx)
    have HX:=jpk hx
    have HP2:=jpk (HP.out.put (v:=G.own i) (fun k hk e=>by have:=HOk.out.io k i ZO hlt e;omega) ZO)
    obtain ⟨u,hu⟩:∃u,u=G.own i:=⟨_,rfl⟩
    have Hum:=jpk hge
    rw [←hu] at HP2 hcc hui hu0 hgd Hum hge
    clear hW hK hx HP hvb hu
    have hB:=K.blk (b:=gx) (cs:=rwA N v2 []) (t:=29) ZMB
    have d0:wr.cell? ⟨gx,u*4,none⟩=some (.int .i64 (v2 u).s):=hB.cell (jaW (j:=0) Hum.out ZO)
    have d1:wr.cell? ⟨gx,u*4+1,none⟩=some (.slice (v2 u).A (v2 u).n (v2 u).c):=hB.cell (jaW (j:=1) Hum.out ZO)
    have d2:wr.cell? ⟨gx,u*4+2,none⟩=some (.int .i64 (v2 u).t):=hB.cell (jaW (j:=2) Hum.out ZO)
    have d3:wr.cell? ⟨gx,u*4+3,none⟩=some (.slice (v2 u).B (v2 u).m (v2 u).d):=hB.cell (jaW (j:=3) Hum.out ZO)
    have zz:=K.thaw (g:=gx) (cs:=rwA N v2 []) (t:=29) ZMB
    have K4:=(K.setR (v:=v2) (J:=[]) (t:=29) x Hum.out (.tail _ (Upd.head _))).rwPut (v:=v2) x u ZMB ZMB ZMB
    have HK:=jpk ((K4.add (x:=⟨rwP m vy,rwS m vy⟩) (K4.okAt ZMB)).lessS (D':=⟨rwP m vy,rwS m vy⟩::⟨rwP N (putF v2 u x),rwS N (putF v2 u x)⟩::(Dd++D)) Zb10)
    clear hB K K4
    go_wp2_with fail
    have HV3:=jpk (show ∀k,k<N→isQ (putF v2 u x k) (putF x2 u (G.v i) k) from fun k hk=>by
     by_cases e:k=u
     ·rw [e,jaf,jaf];exact HX.out
     ·rw [jad e,jad e];exact HV2.out k hk)
    clear HX HV2
    go_roundg (m-(i+1))
    case rel=>exact ⟨i+1,_,_,hlt,rfl,by go_num,HV3,HP2,HK.out⟩
    case measure=>omega
   ·have hgd:decide (G.own i<N)=false:=decide_eq_false hge
    have hgi:¬((G.own i:Nat):Int)<(N:Int):=by omega
    have HP2:=jpk (HP.out.skip (fun h=>hge ZO))
    clear HP hvb
    go_wp2_with fail
    go_roundg (m-(i+1))
    case rel=>exact ⟨i+1,_,_,hlt,rfl,by go_num,HV2,HP2,K⟩
    case measure=>omega
  ·have e:i=m:=by omega
   have HXE:=jpk (show ∀u,u<N→isQ (v2 u) (xB m G u) from fun u hu=>by
    have h1:=HV2.out u hu
    rw [HP.out u hu,Nat.zero_add,e] at h1
    exact h1)
   have cf:=(HFR.out _ _ _ Zb18 K).1
   clear e HV2 HP
   go_wp2_with fail
   clear cf
   go_loopg [50] N (fun gk s50 wx=>∃(j:Nat) (vy:Nat→Rw) (y:Nat→Rat),j≤N∧gk=N-j∧s50=.int .i64 j∧Hid (∀u,u<m→isQ (vy u) (y u))∧Hid (PutX G.free (fun j=>0-G.c j) m N j (fun _=>0) y)∧St w0 ((gy,rwA m vy [],29)::(gx,rwA N v2 [],29)::(Ld++L1)) (⟨rwP m vy,rwS m vy⟩::⟨rwP N v2,rwS N v2⟩::(Dd++D)) wx)
   case atStart=>exact ⟨0,vy,fun _=>0,Nat.zero_le _,rfl,rfl,hvy,jpk (PutX.zero _ _ _ _ _),K⟩
   case round =>
    clear K hvy
    obtain ⟨j,vy,y2,hj,rfl,rfl,HV2,HP,K⟩:=hrel
    by_cases hjn:j<N
    ·have hji:(j:Int)<(N:Int):=by omega
     have hj0:(0:Int)≤(j:Int):=by omega
     have hlf:=HOk.out.lf j hjn
     obtain ⟨vb,vo,hA,hvb,hcc⟩:=RdI.cellAt (HFR.out _ _ _ Zb18 K).2 hjn
     subst hA
     rw [jcS hjn] at hcc
     by_cases hge:N≤G.free j
     ·obtain ⟨u,hu⟩:∃u,G.free j=N+u:=⟨G.free j-N,by omega⟩
      have hum:u<m:=by omega
      have hgi:((G.free j:Nat):Int)≥(N:Int):=by omega
      have hgd:decide (N≤G.free j)=true:=decide_eq_true hge
      have hws:IntKind.i64.wrap (((G.free j:Nat):Int)-(N:Int))=(u:Int):=by
       rw [IntWalk.i64_in _ ZO]
       omega
      have hui:(u:Int)<(m:Int):=by omega
      have hu0:(0:Int)≤(u:Int):=by omega
      obtain ⟨rb,cp,x,hx,hcap2,hW⟩:=HD.out.goal (L:=((gy,rwA m vy [],29)::(gx,rwA N v2 [],29)::(Ld++L1))) Zb18 hjn
      obtain ⟨R,hRm,-⟩:=HD.out.flag (w0:=w0) (L:=((gy,rwA m vy [],29)::(gx,rwA N v2 [],29)::(Ld++L1))) Zb18
      have K:=(hW _ _ K).2.2 (fun x hx=>jjM (A:=[_,_]) hx)
      have HX:=jpk hx
      have HP2:=jpk (HP.out.put (fun i hi e=>by have:=HOk.out.jf i j ZO hjn e;omega) hu)
      have Hum:=jpk hum
      have HSA:=jpk (fun V D (h:St w0 ((gy,rwA m vy [],29)::(gx,rwA N v2 [],29)::(Ld++L1)) D V)=>(show V.cell? ⟨db,6,none⟩=some (.slice (some ⟨rb,0,none⟩) N cp)∧(V.cell? ⟨rb,j*4,none⟩=some (.int .i64 x.s)∧V.cell? ⟨rb,j*4+1,none⟩=some (.slice x.A x.n x.c)∧V.cell? ⟨rb,j*4+2,none⟩=some (.int .i64 x.t)∧V.cell? ⟨rb,j*4+3,none⟩=some (.slice x.B x.m x.d)) from ⟨(hW _ _ h).1,(hW _ _ h).2.1⟩))
      have HNu:=jpk (fun V L5 D5 (h:St w0 L5 D5 V)=>(jbc V).mono fun e W6 ⟨s7,A7,n7,c7,l7,t7,B7,m7,d7,k7,he,⟨hra,hrb⟩,ho,⟨hfa,hfb⟩,hbl⟩=>(⟨⟨s7,A7,n7,c7,l7,t7,B7,m7,d7,k7⟩,he,jpk (⟨ho,jbe⟩:isQ ⟨s7,A7,n7,c7,l7,t7,B7,m7,d7,k7⟩ 0),h.retF hbl hra hrb hfa hfb⟩:∃z:Rw,e=Ending.returned (.agg #[.int .i64 z.s,.slice z.A z.n z.c,.int .i64 z.t,.slice z.B z.m z.d])∧Hid (isQ z 0)∧St w0 L5 (⟨rdP z.B z.m z.d z.k,rdS z.B z.m⟩::⟨rdP z.A z.n z.c z.l,rdS z.A z.n⟩::D5) W6))
      have HSu:=jpk (fun V (z:Rw) (hz:isQ z 0) (h:St w0 ((gy,rwA m vy [],29)::(gx,rwA N v2 [],29)::(Ld++L1)) (⟨rdP z.B z.m z.d z.k,rdS z.B z.m⟩::⟨rdP z.A z.n z.c z.l,rdS z.A z.n⟩::⟨rdP x.B x.m x.d x.k,rdS x.B x.m⟩::⟨rdP x.A x.n x.c x.l,rdS x.A x.n⟩::⟨rwP m vy,rwS m vy⟩::⟨rwP N v2,rwS N v2⟩::(Dd++D)) V)=>jcY h hz HX.out ZMB ZMB ZMB ZMB)
      have HGo:=jpk (fun V (z y:Rw) (er:Int) (Gs:Hid (SubS 0 (G.c j) y er)) (h:St w0 ((gy,rwA m vy [],29)::(gx,rwA N v2 [],29)::(Ld++L1)) (⟨rdP y.B y.m y.d y.k,rdS y.B y.m⟩::⟨rdP y.A y.n y.c y.l,rdS y.A y.n⟩::⟨rdP z.B z.m z.d z.k,rdS z.B z.m⟩::⟨rdP z.A z.n z.c z.l,rdS z.A z.n⟩::⟨rdP x.B x.m x.d x.k,rdS x.B x.m⟩::⟨rdP x.A x.n x.c x.l,rdS x.A x.n⟩::⟨rwP m vy,rwS m vy⟩::⟨rwP N v2,rwS N v2⟩::(Dd++D)) V)=>jhX hRm HX.out.2 Gs.out h)
      have hcap3:=(K.rd (A:=x.A) (n:=x.n) (cap:=x.c) (l:=x.l) ZMB).caps
      have hcap4:=(K.rd (A:=x.B) (n:=x.m) (cap:=x.d) (l:=x.k) ZMB).caps
      clear hW hx hu hlf HP hvb hRm
      go_upto_region 12 with fail
      have K0:=K.drew
      have s0:=HSA.out _ _ K0
      clear K
      refine jak 21 (fun V=>V.cell? ⟨db,6,none⟩=some (.slice (some ⟨rb,0,none⟩) N cp)∧(V.cell? ⟨rb,j*4,none⟩=some (.int .i64 x.s)∧V.cell? ⟨rb,j*4+1,none⟩=some (.slice x.A x.n x.c)∧V.cell? ⟨rb,j*4+2,none⟩=some (.int .i64 x.t)∧V.cell? ⟨rb,j*4+3,none⟩=some (.slice x.B x.m x.d))) Zb9 s0 (fun hSh=>?_)
      clear s0
      refine jaa.tk 0 rfl ?_
      refine jaa.tk 1 rfl ?_
      refine jaa.tk 2 rfl ?_
      refine jaa.tk 3 rfl ?_
      refine jaa.tk 4 rfl ?_
      refine jaa.tk 5 rfl ?_
      refine jaa.tk 6 rfl ?_
      refine jaa.tk 8 rfl ?_
      refine jaa.tk 9 rfl ?_
      refine jaa.tk 10 rfl ?_
      refine jaa.tk 11 rfl ?_
      refine jaa.tk 12 rfl ?_
      refine jaa.tk 13 rfl ?_
      refine jaa.tk 14 rfl ?_
      refine jaa.tk 15 rfl ?_
      refine jaa.on 7 rfl fun KK hKK=>?_
      go_simp
      go_at_call 105;refine (HNu.out _ _ _ K0).mono ?_;rintro e w3 ⟨z0,rfl,g0,k3⟩
      go_wp2_with fail
      refine hKK.out _ _ ?_ (fun hSh=>?_)
      ·exact HSA.out _ _ k3
      clear hKK KK
      refine ZPT ?_
      refine jaa.on 16 rfl fun KK hKK=>?_
      go_simp
      go_at_call 31;refine (HSu.out _ _ g0.out k3).mono ?_;rintro e w4 ⟨y1,er,rfl,gy1,k4⟩
      go_wp2_with fail
      refine hKK.out _ _ ?_ (fun hSh=>?_)
      ·exact HSA.out _ _ k4
      clear hKK KK
      refine ZPT ?_
      refine jaa.tk 17 rfl ?_
      refine jaa.tk 18 rfl ?_
      refine jaa.on 19 rfl fun KK hKK=>?_
      go_simp
      go_at_call 113;refine (HGo.out _ _ _ _ gy1 k4).mono ?_;rintro e w5 ⟨z,zq,rfl,gz,k5⟩
      go_wp2_with fail
      refine hKK.out _ _ ?_ (fun hSh=>?_)
      ·exact HSA.out _ _ k5
      clear hKK KK
      refine ZPT ?_
      refine jaa.tk 20 rfl ?_
      refine jaa.last rfl Zb9 ?_
      have HV3:=jpk (show ∀k,k<m→isQ (putF vy u z k) (putF y2 u (0-G.c j) k) from fun k hk=>by
       by_cases e:k=u
       ·rw [e,jaf,jaf,←gz.out.2];exact gz.out.1
       ·rw [jad e,jad e];exact HV2.out k hk)
      clear K0 k3 k4 HSA HNu HSu HGo hSh gz gy1 g0 HX HV2
      refine k5.storeR (v:=vy) (J:=[]) (t:=29) rfl rfl _ _ _ rfl gy u m z rfl rfl Hum.out (Upd.head _) jar ?_
      intro W8 K8
      clear k5
      have HK:=jpk ((K8.rwPut (v:=vy) z u ZMB ZMB ZMB).lessS (D':=⟨rwP m (putF vy u z),rwS m (putF vy u z)⟩::⟨rwP N v2,rwS N v2⟩::(Dd++D)) Zb10)
      clear K8
      go_wp2_with fail
      go_roundg (N-(j+1))
      case rel=>exact ⟨j+1,_,_,hjn,rfl,by go_num,HV3,HP2,HK.out⟩
      case measure=>omega
     ·have hgi:¬((G.free j:Nat):Int)≥(N:Int):=by omega
      have hgd:decide (N≤G.free j)=false:=decide_eq_false hge
      have HP2:=jpk (HP.out.skip (fun h=>hge h.1))
      clear hlf HP hvb
      go_wp2_with fail
      go_roundg (N-(j+1))
      case rel=>exact ⟨j+1,_,_,hjn,rfl,by go_num,HV2,HP2,K⟩
      case measure=>omega
    ·have e:j=N:=by omega
     have HYE:=jpk (show ∀u,u<m→isQ (vy u) (yB N G u) from fun u hu=>by
      have h1:=HV2.out u hu
      rw [HP.out u hu,e] at h1
      exact h1)
     have HE:=jpk (show BestP w0 Ld L1 Dd D m N (xB m G) (yB N G) (.returned (.tuple #[.slice (some ⟨gx,0,none⟩) N N,.slice (some ⟨gy,0,none⟩) m m])) wr from ⟨gx,gy,v2,vy,rfl,HXE,HYE,K⟩)
     clear K HP HV2 e HXE HYE
     go_wp2_with fail
     exact bodyPost_ret (v:=.tuple #[.slice (some ⟨gx,0,none⟩) N N,.slice (some ⟨gy,0,none⟩) m m]) (by simp [results,Tryz.results64,go_sem]) rfl HE.out
end
end Go.Proofs.YtgikfcjndiohjaaGreat
